/- Contracts of functions that the law reaches, and plain laws. Conditions: those that each contract states. -/
import Derived.Test.YtpgfllgpliffaaaGreatDoorA2
import Derived.Deep.LoopGhost
import Derived.Laws.BytesArg
import Derived.Orders
set_option maxHeartbeats 400000
set_option linter.unusedVariables false
set_option linter.unusedSimpArgs false
variable {p:Prop}
namespace Go.Am
open Go.RowKit (Below)
def dE (F:Fix) (s:Nat) (l:List D) (v:Value):Prop :=
 (v=.slice none 0 0∧l=[])∨∃ (b cap:Nat) (cs:Array Value) (t:TypeId),v=.slice (some ⟨b,0,none⟩) l.length cap∧l.length≤cap∧cap≤maxLen ∧
  F.w.heap[b]?=some (.cells cs t (0,0))∧cs.size=cap*s∧RE F s l (cs.toList.take (l.length*s))∧F.m b=0∧0<s
def eP (F:Fix):CV→Value→Prop
 | .d x,v=>R F x v
 | .own s l,v=>dE F s l v
 | .tup _,_=>False
def Wn (F:Fix):List CV→List Value→Prop
 | [],vs=>vs=[]
 | x::l,vs=>∃ v r,vs=v::r∧eP F x v∧Wn F l r
def Qf:List CV→List Value→List Nat
 | .own _ _::l,v::vs=>v.ownBlock.toList++Qf l vs
 | _::l,_::vs=>Qf l vs
 | _,_=>[]
def oC (F:Fix) (base:Nat) (pass:Nat→Prop):CV→Value→Prop
 | .tup l,v=>∃ cs:List Value,v=.tuple cs.toArray∧Wn F l cs∧(Qf l cs).Nodup∧∀ b∈Qf l cs,base≤b∨pass b
 | x,v=>Wn F [x] [v]∧∀ b∈Qf [x] [v],base≤b∨pass b
def Zas (P:Program) (f:FuncId) (con:Con):Prop :=
 ∀ (m:Nat→Nat) (w:World) (Jj:List CV) (vs:List Value),con.pre Jj→Wn ⟨w,m⟩ Jj vs→(Qf Jj vs).Nodup→(∀ b,w.heap.size≤b→m b=0) →
  Calls P f vs.toArray w fun e w'=>∃ v m',e=.returned v∧Frame w.heap.size (·∈Qf Jj vs) w w'∧(∀ b,b<w.heap.size→b∉Qf Jj vs→m' b=m b)∧(∀ b,w'.heap.size≤b→m' b=0) ∧
   oC ⟨w',m'⟩ w.heap.size (·∈Qf Jj vs) (con.fn Jj) v
def Ph (P:Program) (f:FuncId):Prop:=∀ (args:Array Value) (w:World),(callFunc f args).run P w=.ok (.enter f args) w
def Jn:Nat→List Obj→Zz
 | _,[]=>[]
 | n,o::l=>(n,o)::Jn (n+1) l
def Zq (l:List Obj):Zz:=Jn 90000 l
def Obj.tied (o:Zz):Obj→Prop
 | .box _ cells=>keptAll o cells
 | .hole ..=>False
 | _=>True
def Jm (o:Zz):List Obj→Prop
 | []=>True
 | x::l=>x.tied o∧Jm o l
def Zx:List Obj→Prop
 | []=>True
 | .row _ _ k::l=>k=0∧Zx l
 | .mp _ _ f::l=>f=false∧Zx l
 | _::l=>Zx l
def Xg (args:List AV) (l:List Obj):Prop:=keptAll (Zq l) args∧Jm (Zq l) l
def U5 (G:Gh) (l:List Obj) (b:Nat):Prop:=∃ i o,lk (Zq l) i=some o∧o.owns=true∧G.γ i=some b
def rH (P:Program) (f:FuncId) (bc:BCon):Prop:=∀ x,bc.ok x→Xg (bc.args x) (bc.objs x)∧Zx (bc.objs x)∧Xg [] (bc.post x)∧(bc.objs x).length≤(bc.post x).length ∧
 ∀ (m:Nat→Nat) (w:World) (G:Gh) (vs:List Value),SRg w.heap.size (U5 G (bc.objs x)) ⟨⟨w,m⟩,G,lk (Zq (bc.objs x))⟩ m G ⟨bc.args x,Zq (bc.objs x)⟩ ⟨vs.toArray,[]⟩ w →
  Calls P f vs.toArray w fun e w'=>∃ v m' G',e=.returned v∧RA ⟨w',m'⟩ G' (lk (Zq (bc.post x))) (bc.rv x) v∧SRg w.heap.size (U5 G (bc.objs x)) ⟨⟨w,m⟩,G,lk (Zq (bc.objs x))⟩ m' G' ⟨[],Zq (bc.post x)⟩ ⟨#[],[]⟩ w'
def He (P:Program) (C:Ctx):Prop:=J1 P C.τ∧(∀ f con,C.Γ f=some con→Ph P f∧Zas P f con)∧P.follows .mixedOrders=true∧∀ f bc,C.Δ f=some bc→Ph P f∧rH P f bc
section
variable {P:Program} {C:Ctx} {G:Gh}
variable {base:Nat} {pass:Nat→Prop} {F0:Anc} {m:Nat→Nat} {st:AS} {a:Act} {w:World}
theorem dE.lt {F:Fix} {s:Nat} {l:List D} {v:Value} (h:dE F s l v) {b:Nat} (hb:v.ownBlock=some b):b<F.w.heap.size∧F.m b=0:=by
 rcases h with ⟨rfl,_⟩|⟨b',cap,cs,t,rfl,_,_,h3,_,_,h6,_⟩
 ·simp [Value.ownBlock] at hb
 ·simp [Value.ownBlock] at hb;subst hb;refine ⟨?_,h6⟩;rcases Nat.lt_or_ge b' F.w.heap.size with Qd|Nd
  ·exact Qd
  ·rw [Array.getElem?_eq_none Nd] at h3;cases h3
theorem SRg.behind (h:SRg base pass F0 m G st a w) {m':Nat→Nat} {w':World} (S:List Nat) (hf:Frame w.heap.size (·∈S) w w') (hm:∀ b,b<w.heap.size→b∉S→m' b=m b) (Yl:∀ b,w'.heap.size≤b→m' b=0)
  (hS:∀ b∈S,m b=0∧(base≤b∨pass b)∧∀ i oi,lk st.objs i=some oi→oi.owns=true→G.γ i≠some b) :
  Fix.le ⟨w,m⟩ ⟨w',m'⟩∧SRg base pass F0 m' G st a w':=by
 have hF:Fix.le ⟨w,m⟩ ⟨w',m'⟩:=by
  refine ⟨fun b=>?_,fun b es c Za5 V3=>?_⟩;rotate_left
  ·have xI:b∉S:=fun xI=>by
    have:=(hS b xI).1;simp only at Za5;omega
   rcases Nat.lt_or_ge b w.heap.size with Qd|Nd
   ·rw [hf.block b Qd xI];exact V3
   ·have:=h.new b Nd;simp only at Za5;omega
  by_cases xI:b∈S
  ·have:=(hS b xI).1;exact ⟨by simp only [this];exact Nat.zero_le _,fun off ho=>by simp only [this] at ho;omega⟩
  ·rcases Nat.lt_or_ge b w.heap.size with Qd|Nd
   ·exact ⟨by simp only;rw [hm b Qd xI];exact Zk _,fun off _=>World.cell?_of_block (a:=⟨b,off,none⟩) (hf.block b Qd xI)⟩
   ·have:=h.new b Nd;exact ⟨by simp only;omega,fun off ho=>by simp only at ho;omega⟩
 refine ⟨hF,?_⟩;constructor
 ·exact h.defers
 ·exact RAs.mono hF (Wc.refl _ _) h.tmps
 ·intro i o hi;refine Z8.mono hF (Wc.refl _ _) rfl rfl (fun ho b V3=>?_) (h.objs i o hi);have Qd:=(h.mine i o b hi ho V3).1;have Zxx:b∉S:=fun xI=>(hS b xI).2.2 i o hi ho V3;exact ⟨hf.block b Qd Zxx,hm b Qd Zxx⟩
 ·exact h.apart
 ·intro i o b hi ho V3;obtain ⟨q1,q2⟩:=h.mine i o b hi ho V3;exact ⟨Nat.lt_of_lt_of_le q1 hf.size,q2⟩
 ·refine h.frame.trans ⟨hf.os,hf.tape,hf.output,hf.size,fun b V3 hp=>hf.block b (Nat.lt_of_lt_of_le V3 h.small) (fun xI=>?_)⟩;rcases (hS b xI).2.1 with h1|h1
  ·omega
  ·exact hp h1
 ·intro b V3 hp;refine (hm b (Nat.lt_of_lt_of_le V3 h.small) (fun xI=>?_)).trans (h.old b V3 hp);rcases (hS b xI).2.1 with h1|h1
  ·omega
  ·exact hp h1
 ·exact Yl
 ·exact Nat.le_trans h.small hf.size
 ·exact h.lent
theorem SRg.adopt (h:SRg base pass F0 m G st a w) {k s:Nat} {l:List D} {v:Value} (hk:lk st.objs k=none) (hv:dE ⟨w,m⟩ s l v)
  (hb:∀ b,v.ownBlock=some b→(base≤b∨pass b)∧∀ i oi,lk st.objs i=some oi→oi.owns=true→G.γ i≠some b) :
  ∃ G',Wc G (lk st.objs) G' (lk (upd st.objs k (.row s l 0)))∧SRg base pass F0 m G' ⟨st.tmps,upd st.objs k (.row s l 0)⟩ a w∧RA ⟨w,m⟩ G' (lk (upd st.objs k (.row s l 0))) (.sl k l.length) v ∧
   (∀ j,j≠k→G'.γ j=G.γ j)∧(∀ b,G'.γ k=some b→v.ownBlock=some b):=by
 have Qd:=fun b V3=>hv.lt (b:=b) V3;have Zvj:v.oneCell'=true:=by
  rcases hv with ⟨rfl,_⟩|⟨_,_,_,_,rfl,_⟩<;>rfl
 obtain ⟨q1,q2⟩:=h.obj k (.row s l 0) (w':=w) (m':=m) (G':=⟨fun j=>if j=k then v.ownBlock else G.γ j,fun j=>if j=k then v else G.hd j⟩) (Fix.le_refl _)
  (fun j hj=>by simp [hj]) (fun o ho=>by rw [hk] at ho;cases ho) (fun _=>by
   simp only [Z8];rcases hv with ⟨rfl,rfl⟩|⟨b,cap,cs,t,rfl,h1,h2,h3,h4,h5,h6,_⟩
   ·exact .inl (by simp [Value.ownBlock])
   ·exact .inr ⟨b,cap,cs,t,by simp [Value.ownBlock],by simp,h1,h2,h3,h4,h5,by rw [Nat.zero_mul];exact h6,Nat.zero_le _⟩)
  (fun _ _ _ _ _ _ _=>⟨rfl,rfl⟩) (fun _ b V3=>by
   simp only [if_true] at V3;obtain ⟨g1,g2⟩:=hb b V3;exact ⟨(Qd b V3).1,g1,fun j o _ hj ho=>g2 j o hj ho⟩)
  (Frame.refl _ _ _) (fun _ _ _=>rfl) h.new
 refine ⟨_,q1,q2,?_,fun j hj=>by simp [hj],fun b V3=>by simpa using V3⟩
 simp only [RA,Jb,if_true];exact ⟨Zvj,Zk _,fun _=>trivial⟩
theorem Dp {F:Fix} {s:Nat}:dE F s [] (.slice none 0 0):=.inl ⟨rfl,rfl⟩
theorem dE.mono {F F':Fix} {s:Nat} {l:List D} {v:Value} (h:F.le F') (hb:∀ b,v.ownBlock=some b→F'.w.heap[b]?=F.w.heap[b]?∧F'.m b=F.m b) (hv:dE F s l v):dE F' s l v:=by
 rcases hv with h1|⟨b,cap,cs,t,rfl,h1,h2,h3,h4,h5,h6,h7⟩
 ·exact .inl h1
 ·obtain ⟨q1,q2⟩:=hb b (by simp [Value.ownBlock])
  exact .inr ⟨b,cap,cs,t,rfl,h1,h2,by rw [q1];exact h3,h4,RE.mono h h5,by rw [q2];exact h6,h7⟩
theorem Fk:∀ {ms:List Bool} {xs:List AV} {c:Prop} {Jj:List CV} {os:Zz} {st:AS} {m:Nat→Nat} {vs:List Value},SRg base pass F0 m G st a w→X8 C ms xs st.objs=some (c,Jj,os)→c →
  RAs ⟨w,m⟩ G (lk st.objs) xs vs→∃ m',SRg base pass F0 m' G ⟨st.tmps,os⟩ a w∧PurOk G st.objs os ⟨w,m⟩ ⟨w,m'⟩∧Wn ⟨w,m'⟩ Jj vs∧(Qf Jj vs).Nodup ∧
   ∀ b∈Qf Jj vs,(base≤b∨pass b)∧(∃ i oi,lk st.objs i=some oi∧oi.owns=true∧G.γ i=some b)∧∀ i oi,lk os i=some oi→oi.owns=true→G.γ i≠some b:=by
 intro ms xs
 induction xs generalizing ms with
 | nil =>
  intro c Jj os st m vs h hi hc hr;have hi':some (True,([]:List CV),st.objs)=some (c,Jj,os):=by cases ms<;>simpa [X8] using hi
  simp only [Zb,Zc] at hi';obtain ⟨rfl,rfl,rfl⟩:=hi';simp only [RAs] at hr;subst hr;exact ⟨m,h,PurOk.refl _ _ _,by simp [Wn],by simp [Qf],by simp [Qf]⟩
 | cons x xs ih =>
  intro c Jj os st m vs h hi hc hr;simp only [RAs] at hr;obtain ⟨v,r,rfl,hx,dG⟩:=hr;have datum:∀ {ms':List Bool} {c1 c2:Prop} {y:D} {o1:Zz} {l:List CV},pur C.dp x st.objs=some (c1,y,o1)→X8 C ms' xs o1=some (c2,l,os)→c1∧c2 →
    ∃ m',SRg base pass F0 m' G ⟨st.tmps,os⟩ a w∧PurOk G st.objs os ⟨w,m⟩ ⟨w,m'⟩∧Wn ⟨w,m'⟩ (.d y::l) (v::r)∧(Qf (.d y::l) (v::r)).Nodup ∧
     ∀ b∈Qf (.d y::l) (v::r),(base≤b∨pass b)∧(∃ i oi,lk st.objs i=some oi∧oi.owns=true∧G.γ i=some b)∧∀ i oi,lk os i=some oi→oi.owns=true→G.γ i≠some b:=by
   intro ms' c1 c2 y o1 l hp Zo9 Zx6;obtain ⟨m1,k1,k2,k3⟩:=pur_sound' h hp Zx6.1 hx;obtain ⟨m2,j1,j2,j3,j4,j5⟩:=ih (st:=⟨st.tmps,o1⟩) k1 Zo9 Zx6.2 (RAs.mono k2.le k2.goes dG);refine ⟨m2,j1,k2.trans j2,?_,by simpa [Qf] using j4,fun b hb=>?_⟩
   ·simp only [Wn,eP];exact ⟨v,r,rfl,k3.mono j2.le,j3⟩
   ·obtain ⟨q1,⟨i,oi,q2,q3,q4⟩,q5⟩:=j5 b (by simpa [Qf] using hb)
    obtain ⟨oj,p1,p2⟩:=k2.sub i oi q2 q3;exact ⟨q1,⟨i,oj,p1,p2,q4⟩,q5⟩
  cases ms with
  | nil=>simp [X8] at hi
  | cons b0 ms =>
   cases b0 with
   | false =>
    simp only [X8] at hi;split at hi
    ·next c1 y o1 hp =>
     split at hi
     ·next c2 l o2 hi3 =>
      simp only [Zb,Zc] at hi;obtain ⟨rfl,rfl,rfl⟩:=hi;exact datum hp hi3 hc
     ·cases hi
    ·cases hi
   | true =>
    cases x with
    | sl i n =>
     simp only [X8] at hi;split at hi
     ·next s els k hl =>
      split at hi
      ·next c2 l o2 Zo9 =>
       simp only [Zb,Zc] at hi;obtain ⟨rfl,rfl,rfl⟩:=hi;obtain ⟨kS,hn,Lf,iN⟩:=hc;subst Lf;simp only [RA,hl] at hx;have hv:=hx.2.2 hn;have Xr:=h.objs i _ hl;simp only [Z8] at Xr;obtain ⟨q1,q2⟩:=h.obj i .gone (w':=w) (m':=m) (G':=G) (Fix.le_refl _) (fun _ _=>⟨rfl,rfl⟩) (fun o ho=>⟨by simp [Obj.isBox],by simp⟩) (fun _=>trivial)
        (fun _ _ _ _ _ _ _=>⟨rfl,rfl⟩) (fun ho=>by simp [Obj.owns] at ho) (Frame.refl _ _ _) (fun _ _ _=>rfl) h.new
       have pk:PurOk G st.objs (upd st.objs i .gone) ⟨w,m⟩ ⟨w,m⟩:=⟨Fix.le_refl _,q1,O4 hl rfl,fun _ _=>rfl⟩;obtain ⟨m2,j1,j2,j3,j4,j5⟩:=ih (st:=⟨st.tmps,upd st.objs i .gone⟩) q2 Zo9 kS (RAs.mono (Fix.le_refl _) q1 dG);have free:∀ b,G.γ i=some b→∀ j oj,lk (upd st.objs i .gone) j=some oj→oj.owns=true→G.γ j≠some b:=by
        intro b hb j oj hj Lr Li;rw [Jb] at hj;by_cases Yd:j=i
        ·subst Yd;rw [if_pos rfl] at hj;injection hj with hj
         subst hj;simp [Obj.owns] at Lr
        ·rw [if_neg Yd] at hj;exact Yd (h.apart j i oj _ b hj hl Lr rfl Li hb)
       have free2:∀ b,G.γ i=some b→∀ j oj,lk o2 j=some oj→oj.owns=true→G.γ j≠some b:=by
        intro b hb j oj hj Lr;obtain ⟨ok,p1,p2⟩:=j2.sub j oj hj Lr;exact free b hb j ok p1 p2
       rcases Xr with ⟨h1,h2,rfl,_⟩|⟨b,cap,cs,t,h1,h2,h3,h4,h5,h6,h7,h8,h9⟩
       ·rw [h2] at hv;subst hv;refine ⟨m2,j1,pk.trans j2,?_,by simpa [Qf,Value.ownBlock] using j4,fun b hb=>?_⟩
        ·simp only [Wn,eP];exact ⟨_,r,rfl,Dp,j3⟩
        ·obtain ⟨p1,⟨i',oi,p2,p3,p4⟩,p5⟩:=j5 b (by simpa [Qf,Value.ownBlock] using hb)
         obtain ⟨oj,u1,u2⟩:=pk.sub i' oi p2 p3;exact ⟨p1,⟨i',oj,u1,u2,p4⟩,p5⟩
       ·rw [h2] at hv;subst hv;have Zvp:m2 b=m b:=j2.same b (fun j oj hj Lr=>free b h1 j oj hj Lr);have oI:dE ⟨w,m2⟩ s els (.slice (some ⟨b,0,none⟩) els.length cap):=.inr ⟨b,cap,cs,t,rfl,h3,h4,h5,h6,RE.mono j2.le h7,by simp only [Zvp];simpa using h8,iN⟩
        have Og:=h.mine i _ b hl rfl h1;refine ⟨m2,j1,pk.trans j2,?_,?_,fun b' hb'=>?_⟩
        ·simp only [Wn,eP];exact ⟨_,r,rfl,oI,j3⟩
        ·simp only [Qf,Value.ownBlock,Option.toList,List.singleton_append,List.nodup_cons];refine ⟨fun Me=>?_,j4⟩;obtain ⟨_,⟨i',oi,p2,p3,p4⟩,_⟩:=j5 b Me;exact free b h1 i' oi p2 p3 p4
        ·simp only [Qf,Value.ownBlock,Option.toList,List.singleton_append,Zm] at hb';rcases hb' with rfl|hb'
         ·exact ⟨Og.2,⟨i,_,hl,rfl,h1⟩,free2 b' h1⟩
         ·obtain ⟨p1,⟨i',oi,p2,p3,p4⟩,p5⟩:=j5 b' hb';obtain ⟨oj,u1,u2⟩:=pk.sub i' oi p2 p3;exact ⟨p1,⟨i',oj,u1,u2,p4⟩,p5⟩
      ·cases hi
     ·cases hi
    | nils s =>
     simp only [X8] at hi;split at hi
     ·next c2 l o2 Zo9 =>
      simp only [Zb,Zc] at hi;obtain ⟨rfl,rfl,rfl⟩:=hi;simp only [RA] at hx;subst hx;obtain ⟨m2,j1,j2,j3,j4,j5⟩:=ih h Zo9 hc dG;refine ⟨m2,j1,j2,?_,by simpa [Qf,Value.ownBlock] using j4,fun b hb=>j5 b (by simpa [Qf,Value.ownBlock] using hb)⟩
      simp only [Wn,eP];exact ⟨_,r,rfl,Dp,j3⟩
     ·cases hi
    | _=>simp [X8] at hi
theorem Ey (h:SRg base pass F0 m G st a w) {k:Nat} {x:CV} {v:Value} {y:AV} {os:Zz} (hx:eP ⟨w,m⟩ x v) (hh:K8 k x st.objs=some (y,os))
  (hb:∀ b∈Qf [x] [v],(base≤b∨pass b)∧∀ i oi,lk st.objs i=some oi→oi.owns=true→G.γ i≠some b) :
  ∃ G',Wc G (lk st.objs) G' (lk os)∧SRg base pass F0 m G' ⟨st.tmps,os⟩ a w∧RA ⟨w,m⟩ G' (lk os) y v ∧
   ∀ i oi b,lk os i=some oi→oi.owns=true→G'.γ i=some b→(∃ oj,lk st.objs i=some oj∧oj.owns=true∧G.γ i=some b)∨b∈Qf [x] [v]:=by
 cases x with
 | d x =>
  simp only [K8,Zb,Zc] at hh;obtain ⟨rfl,rfl⟩:=hh;exact ⟨G,Wc.refl _ _,h,by simpa only [RA,eP] using hx,fun i oi b hi ho hg=>.inl ⟨oi,hi,ho,hg⟩⟩
 | own s l =>
  simp only [K8] at hh;split at hh
  ·next hk =>
   simp only [Zb,Zc] at hh;obtain ⟨rfl,rfl⟩:=hh;obtain ⟨G',q1,q2,q3,q4,q5⟩:=h.adopt hk hx (fun b V3=>hb b (by simp [Qf,V3]))
   refine ⟨G',q1,q2,q3,fun i oi b hi ho hg=>?_⟩;by_cases Zo8:i=k
   ·subst Zo8;exact .inr (by simp [Qf,q5 b hg])
   ·rw [Jb,if_neg Zo8] at hi;rw [q4 i Zo8] at hg;exact .inl ⟨oi,hi,ho,hg⟩
  ·cases hh
 | tup l=>simp [K8] at hh
theorem E0:∀ {l:List CV} {k:Nat} {ys:List AV} {vs:List Value} {os:Zz} {G:Gh} {st:AS},SRg base pass F0 m G st a w→Wn ⟨w,m⟩ l vs→Ui k l st.objs=some (ys,os)→(Qf l vs).Nodup →
  (∀ b∈Qf l vs,(base≤b∨pass b)∧∀ i oi,lk st.objs i=some oi→oi.owns=true→G.γ i≠some b) →
  ∃ G',Wc G (lk st.objs) G' (lk os)∧SRg base pass F0 m G' ⟨st.tmps,os⟩ a w∧RAs ⟨w,m⟩ G' (lk os) ys vs
 | [],k,ys,vs,os,G,st,h,hc,hh,_,_=>by
  simp only [Ui,Zb,Zc] at hh;obtain ⟨rfl,rfl⟩:=hh;simp only [Wn] at hc;exact ⟨G,Wc.refl _ _,h,by simpa only [RAs] using hc⟩
 | x::l,k,ys,vs,os,G,st,h,hc,hh,Ek,hb=>by
  simp only [Wn] at hc;obtain ⟨v,r,rfl,hx,dG⟩:=hc;simp only [Ui] at hh;split at hh
  ·next y o1 h1 =>
   split at hh
   ·next ys2 o2 h2 =>
    simp only [Zb,Zc] at hh;obtain ⟨rfl,rfl⟩:=hh;have Ei:Qf (x::l) (v::r)=Qf [x] [v]++Qf l r:=by cases x<;>simp [Qf]
    rw [Ei] at Ek hb;obtain ⟨n1,n2,n3⟩:=List.nodup_append.1 Ek;obtain ⟨G1,q1,q2,q3,q4⟩:=Ey h hx h1 (fun b V3=>hb b (List.mem_append_left _ V3));obtain ⟨G2,p1,p2,p3⟩:=E0 (st:=⟨st.tmps,o1⟩) q2 dG h2 n2 (fun b V3=>by
     refine ⟨(hb b (List.mem_append_right _ V3)).1,fun i oi hi ho hg=>?_⟩;rcases q4 i oi b hi ho hg with ⟨oj,w1,w2,w3⟩|Me
     ·exact (hb b (List.mem_append_right _ V3)).2 i oj w1 w2 w3
     ·exact n3 b Me b V3 rfl)
    refine ⟨G2,?_,p2,?_⟩
    ·exact Wc.trans q1 p1
    ·simp only [RAs];exact ⟨v,r,rfl,RA.mono (Fix.le_refl _) p1 q3,p3⟩
   ·cases hh
  ·cases hh
theorem Ef (K:He P C) (h:SRg base pass F0 m G st a w) {f k:Nat} {xs:List AV} {vs:List Value} {c:Prop} {z:AV} {os:Zz} (hx:RAs ⟨w,m⟩ G (lk st.objs) xs vs)
  (hh:Fm C f xs k st.objs=some (c,z,os)) (hc:c) :
  Ph P f∧Calls P f vs.toArray w fun e w'=>∃ v m' G',e=.returned v∧SRg base pass F0 m' G' ⟨st.tmps,os⟩ a w'∧RA ⟨w',m'⟩ G' (lk os) z v:=by
 unfold Fm at hh;split at hh
 ·next con hcon =>
  split at hh
  ·next c1 Jj o1 Em =>
   split at hh
   ·next y o2 dM =>
    simp only [Zb,Zc] at hh;obtain ⟨rfl,rfl,rfl⟩:=hh;obtain ⟨Tk,Zou⟩:=K.2.1 f con hcon;refine ⟨Tk,?_⟩;obtain ⟨m1,k1,k2,k3,k4,k5⟩:=Fk h Em hc.1 hx;refine (Zou m1 w Jj vs hc.2 k3 k4 k1.new).mono fun e w' hw=>?_;obtain ⟨v,m',rfl,g1,g2,g3,g4⟩:=hw;have hz:∀ b∈Qf Jj vs,m1 b=0:=by
     have:∀ (l:List CV) (us:List Value),Wn ⟨w,m1⟩ l us→∀ b∈Qf l us,m1 b=0:=by
      intro l
      induction l with
      | nil=>intro us hu b hb;simp [Qf] at hb
      | cons x l ih =>
       intro us hu b hb;simp only [Wn] at hu;obtain ⟨u,r,rfl,oU,Zop⟩:=hu;have Ei:Qf (x::l) (u::r)=Qf [x] [u]++Qf l r:=by cases x<;>simp [Qf]
       rw [Ei] at hb;rcases List.mem_append.1 hb with hb|hb
       ·cases x with
        | own s els =>
         simp [Qf] at hb;exact (dE.lt oU hb).2
        | _=>simp [Qf] at hb
       ·exact ih r Zop b hb
     exact this Jj vs k3
    obtain ⟨hF,hs⟩:=k1.behind (Qf Jj vs) g1 g2 g3 (fun b hb=>⟨hz b hb,(k5 b hb).1,(k5 b hb).2.2⟩);have Znp:∀ b,w.heap.size≤b∨b∈Qf Jj vs→(base≤b∨pass b)∧∀ i oi,lk o1 i=some oi→oi.owns=true→G.γ i≠some b:=by
     intro b hb;rcases hb with hb|hb
     ·refine ⟨.inl (Nat.le_trans k1.small hb),fun i oi hi ho hg=>?_⟩;have:=(k1.mine i oi b hi ho hg).1;omega
     ·exact ⟨(k5 b hb).1,(k5 b hb).2.2⟩
    unfold Ez at dM;split at dM
    ·next l dR =>
     split at dM
     ·next ys o3 Up =>
      simp only [Zb,Zc] at dM;obtain ⟨rfl,rfl⟩:=dM;rw [dR] at g4;simp only [oC] at g4;obtain ⟨cs,rfl,e1,e2,e3⟩:=g4;obtain ⟨G',p1,p2,p3⟩:=E0 hs e1 Up e2 (fun b hb=>Znp b (e3 b hb));exact ⟨_,m',G',rfl,p2,mB p3⟩
     ·cases dM
    ·next x Rt =>
     have g4':Wn ⟨w',m'⟩ [con.fn Jj] [v]∧∀ b∈Qf [con.fn Jj] [v],w.heap.size≤b∨b∈Qf Jj vs:=by
      revert g4;cases hq:con.fn Jj with
      | tup l=>exact absurd hq (Rt l)
      | _=>exact fun g=>g
     obtain ⟨e1,e2⟩:=g4';simp only [Wn] at e1;obtain ⟨v',r,ev,hv',_⟩:=e1;simp only [List.cons.injEq] at ev;rw [←ev.1] at hv';obtain ⟨G',p1,p2,p3,_⟩:=Ey hs hv' dM (fun b hb=>Znp b (e2 b hb));exact ⟨v,m',G',rfl,p2,p3⟩
   ·cases hh
  ·cases hh
 ·cases hh
end
theorem Ai:∀ (l:List Obj) (n i:Nat),lk (Jn n l) i=if n≤i then l[i-n]? else none
 | [],n,i=>by simp [Jn,lk]
 | o::l,n,i=>by
  simp only [Jn,lk,Ai l];by_cases h:i=n
  ·subst h;simp
  ·rw [if_neg h];by_cases h1:n≤i
   ·rw [if_pos (by omega),if_pos h1,show i-n=(i-(n+1))+1 by omega,List.getElem?_cons_succ]
   ·rw [if_neg (by omega),if_neg h1]
theorem Xv {l:List Obj} {i:Nat} {o:Obj} (h:lk (Zq l) i=some o):∃ j,i=90000+j∧l[j]?=some o:=by
 unfold Zq at h;rw [Ai] at h;by_cases h1:90000≤i
 ·rw [if_pos h1] at h;exact ⟨i-90000,by omega,h⟩
 ·rw [if_neg h1] at h;cases h
theorem Yu {l:List Obj} {j:Nat} {o:Obj} (h:l[j]?=some o):lk (Zq l) (90000+j)=some o:=by
 unfold Zq;rw [Ai,if_pos (by omega),show 90000+j-90000=j by omega]
 exact h
theorem Nq {rs:List Nat} {j k:Nat} (h:rs[j]?=some k):rk rs (90000+j)=k:=by
 unfold rk;rw [show 90000+j-90000=j by omega,Zg,h]
 rfl
theorem Wd {rs0:List Nat}:∀ {ks:List Nat} {l:List Obj} {o:Zz},Zh rs0 ks l o→∀ {j:Nat} {x:Obj},l[j]?=some x→∃ k,ks[j]?=some k∧lk o k=some (J7 rs0 x)
 | _,[],_,_,j,x,hx=>by simp at hx
 | [],_::_,_,h,_,_,_=>h.elim
 | k::ks,y::l,o,h,j,x,hx=>by
  cases j with
  | zero=>simp at hx;subst hx;exact ⟨k,rfl,h.1⟩
  | succ j=>simp only [List.getElem?_cons_succ] at hx ⊢;exact Wd h.2 hx
theorem gR:∀ {ks:List Nat} {o:Zz},Zy ks o→∀ {k:Nat},k∈ks→lk o k=none
 | [],_,_,_,hk=>by simp at hk
 | k::ks,o,h,k',hk=>by
  rcases Zm.1 hk with rfl|hk
  ·exact h.1
  ·exact gR h.2 hk
theorem X2 {rs0:List Nat}:∀ {ks:List Nat} {l:List Obj} {o:Zz} {k:Nat},k∉ks→lk (Xn rs0 ks l o) k=lk o k
 | [],l,o,k,_=>by simp [Xn]
 | q::ks,[],o,k,_=>by simp [Xn]
 | q::ks,x::l,o,k,h=>by
  simp only [Zm,not_or] at h;simp only [Xn];rw [X2 h.2,Jb,if_neg h.1]
theorem P2 {rs0:List Nat}:∀ {ks:List Nat} {l:List Obj} {o:Zz} {j k:Nat} {x:Obj},ks.Nodup→ks[j]?=some k→l[j]?=some x→lk (Xn rs0 ks l o) k=some (J7 rs0 x)
 | [],_,_,_,_,_,_,h,_=>by simp at h
 | _::_,[],_,_,_,_,_,_,h=>by simp at h
 | q::ks,y::l,o,j,k,x,hn,hk,hx=>by
  obtain ⟨h1,h2⟩:=List.nodup_cons.1 hn;simp only [Xn];cases j with
  | zero =>
   simp at hk hx;subst hk;subst hx;rw [X2 h1,Jb,if_pos rfl]
  | succ j =>
   simp only [List.getElem?_cons_succ] at hk hx;exact P2 h2 hk hx
theorem H7 (rs:List Nat) (o:Obj):(J7 rs o).isBox=o.isBox:=by cases o<;>rfl
theorem Y8 (rs:List Nat) (o:Obj):(J7 rs o).owns=o.owns:=by cases o<;>rfl
theorem jA {rs:List Nat} {o:Obj} {s k:Nat} {els:List D}:J7 rs o=.row s els k↔o=.row s els k:=by cases o<;>simp [J7]
theorem bZ {rs:List Nat} {o:Obj} {t:Nat} {l:List UInt8}:J7 rs o=.brow t l↔o=.brow t l:=by cases o<;>simp [J7]
structure Alike (rs:List Nat) (l:List Obj) (G Gc:Gh) (Lc:Nat→Option Obj):Prop where
 obj:∀ i o,lk (Zq l) i=some o→Lc (rk rs i)=some (J7 rs o)
 gam:∀ i o,lk (Zq l) i=some o→G.γ i=Gc.γ (rk rs i)∧G.hd i=Gc.hd (rk rs i)
mutual
theorem rn_RA {rs:List Nat} {l:List Obj} {F:Fix} {G Gc:Gh} {Lc:Nat→Option Obj} (h:Alike rs l G Gc Lc):∀ {x:AV} {v:Value},x.kept (Zq l)→(RA F G (lk (Zq l)) x v↔RA F Gc Lc (rnA rs x) v)
 | .d x,v,_=>by simp [RA,rnA]
 | .ref i f,v,hk=>by
  simp only [AV.kept] at hk;simp only [RA,rnA];cases hi:lk (Zq l) i with
  | none=>rw [hi] at hk;cases hk
  | some o =>
   rw [h.obj i o hi,(h.gam i o hi).1];simp only [H7]
 | .rref i n e f,v,hk=>by
  simp only [AV.kept] at hk;simp only [RA,rnA];cases hi:lk (Zq l) i with
  | none=>rw [hi] at hk;cases hk
  | some o =>
   rw [h.obj i o hi,(h.gam i o hi).1];cases o<;>simp [J7]
 | .sl i n,v,hk=>by
  simp only [AV.kept] at hk;simp only [RA,rnA];cases hi:lk (Zq l) i with
  | none=>rw [hi] at hk;cases hk
  | some o =>
   rw [h.obj i o hi,(h.gam i o hi).2];cases o<;>simp [J7]
 | .mpr i,v,hk=>by
  simp only [AV.kept] at hk;simp only [RA,rnA];cases hi:lk (Zq l) i with
  | none=>rw [hi] at hk;cases hk
  | some o =>
   rw [h.obj i o hi,(h.gam i o hi).1];simp only [H7]
 | .sb i n f,v,hk=>by
  simp only [AV.kept] at hk;simp only [RA,rnA];cases hi:lk (Zq l) i with
  | none=>rw [hi] at hk;cases hk
  | some o =>
   rw [h.obj i o hi,(h.gam i o hi).2,(h.gam i o hi).1];cases o<;>simp [J7]
 | .agg xs,v,hk=>by
  simp only [AV.kept] at hk;simp only [RA,rnA];constructor
  ·rintro ⟨cs,h1,h2,h3⟩;exact ⟨cs,h1,(rn_RAs h hk).1 h2,h3⟩
  ·rintro ⟨cs,h1,h2,h3⟩;exact ⟨cs,h1,(rn_RAs h hk).2 h2,h3⟩
 | .tup xs,v,hk=>by
  simp only [AV.kept] at hk;simp only [RA,rnA];constructor
  ·rintro ⟨cs,h1,h2⟩;exact ⟨cs,h1,(rn_RAs h hk).1 h2⟩
  ·rintro ⟨cs,h1,h2⟩;exact ⟨cs,h1,(rn_RAs h hk).2 h2⟩
 | .clo f xs,v,hk=>by
  simp only [AV.kept] at hk;simp only [RA,rnA];constructor
  ·rintro ⟨cs,h1,h2⟩;exact ⟨cs,h1,(rn_RAs h hk).1 h2⟩
  ·rintro ⟨cs,h1,h2⟩;exact ⟨cs,h1,(rn_RAs h hk).2 h2⟩
 | .nils s,v,_=>by simp [RA,rnA]
 | .dead,v,_=>by simp [RA,rnA]
 | .bad t,v,_=>by simp [RA,rnA]
theorem rn_RAs {rs:List Nat} {l:List Obj} {F:Fix} {G Gc:Gh} {Lc:Nat→Option Obj} (h:Alike rs l G Gc Lc):∀ {xs:List AV} {vs:List Value},keptAll (Zq l) xs→(RAs F G (lk (Zq l)) xs vs↔RAs F Gc Lc (rnAs rs xs) vs)
 | [],vs,_=>by simp [RAs,rnAs]
 | x::xs,vs,hk=>by
  simp only [keptAll] at hk;simp only [RAs,rnAs];constructor
  ·rintro ⟨v,r,h1,h2,h3⟩;exact ⟨v,r,h1,(rn_RA h hk.1).1 h2,(rn_RAs h hk.2).1 h3⟩
  ·rintro ⟨v,r,h1,h2,h3⟩;exact ⟨v,r,h1,(rn_RA h hk.1).2 h2,(rn_RAs h hk.2).2 h3⟩
end
theorem P9 {q:Zz}:∀ {l:List Obj},Jm q l→∀ {j:Nat} {o:Obj},l[j]?=some o→o.tied q
 | [],_,_,_,h=>by simp at h
 | x::l,ht,j,o,h=>by
  cases j with
  | zero=>simp at h;subst h;exact ht.1
  | succ j=>simp only [List.getElem?_cons_succ] at h;exact P9 ht.2 h
theorem E2:∀ {l:List Obj},Zx l→∀ {j s k:Nat} {els:List D},l[j]?=some (.row s els k)→k=0
 | [],_,_,_,_,_,h=>by simp at h
 | x::l,ht,j,s,k,els,h=>by
  have Zpv:Zx l:=by cases x<;>first|exact ht.2|exact ht
  cases j with
  | zero=>simp at h;subst h;exact ht.1
  | succ j=>simp only [List.getElem?_cons_succ] at h;exact E2 Zpv h
theorem C8:∀ {l:List Obj},Zx l→∀ {j:Nat} {ks vs:List D} {f:Bool},l[j]?=some (.mp ks vs f)→f=false
 | [],_,_,_,_,_,h=>by simp at h
 | x::l,ht,j,ks,vs,f,h=>by
  have Zpv:Zx l:=by cases x<;>first|exact ht.2|exact ht
  cases j with
  | zero=>simp at h;subst h;exact ht.1
  | succ j=>simp only [List.getElem?_cons_succ] at h;exact C8 Zpv h
theorem Zbq {rs:List Nat}:∀ {cells:List AV} {T:Nat},(rnAs rs cells).head?=some (.bad T)↔cells.head?=some (.bad T)
 | [],_=>by simp [rnAs]
 | x::l,T=>by cases x<;>simp [rnAs,rnA]
theorem Zm9 {rs:List Nat} {cells:List AV} {cs:List Value} {t b:Nat}:rC (rnAs rs cells) cs t b↔rC cells cs t b:=by
 unfold rC;simp only [Zbq]
theorem bQ {rs:List Nat} {l:List Obj} {F:Fix} {G Gc:Gh} {Lc:Nat→Option Obj} (h:Alike rs l G Gc Lc) {i:Nat} {o:Obj} (hi:lk (Zq l) i=some o) (ht:o.tied (Zq l)) :
  Z8 F G (lk (Zq l)) i o↔Z8 F Gc Lc (rk rs i) (J7 rs o):=by
 obtain ⟨g1,g2⟩:=h.gam i o hi;cases o with
 | box ag cells =>
  simp only [Obj.tied] at ht;simp only [Z8,J7,g1];constructor
  ·rintro ⟨b,cs,t,h1,h2,h3,h4⟩;exact ⟨b,cs,t,h1,h2,(rn_RAs h ht).1 h3,h4.1,h4.2.1,Zm9.2 h4.2.2⟩
  ·rintro ⟨b,cs,t,h1,h2,h3,h4⟩;exact ⟨b,cs,t,h1,h2,(rn_RAs h ht).2 h3,h4.1,h4.2.1,Zm9.1 h4.2.2⟩
 | fbox s x=>simp only [Z8,J7,g1]
 | row s els k=>simp only [Z8,J7,g1,g2]
 | mp ks vs f=>simp only [Z8,J7,g1]
 | gone=>simp only [Z8,J7]
 | slot e f=>simp only [Z8,J7]
 | brow t l=>simp only [Z8,J7,g1,g2]
 | hole j n e f x=>exact ht.elim
section
variable {P:Program} {C:Ctx} {G:Gh}
variable {base:Nat} {pass:Nat→Prop} {F0:Anc} {m:Nat→Nat} {st:AS} {a:Act} {w:World}
theorem Zrb {F:Fix} {rs:List Nat} {l:List Obj} {G1 G2:Gh} {L:Nat→Option Obj} (al:Alike rs l G1 G2 L) {j:Nat} {v:Value} (h:RA F G1 (lk (Zq l)) (.mpr (90000+j)) v):RA F G2 L (.mpr (rk rs (90000+j))) v:=by
 simp only [RA] at h ⊢;obtain ⟨h1,h2⟩:=h;refine ⟨h1,?_⟩;cases hl:lk (Zq l) (90000+j) with
 | none=>rw [hl] at h2;exact h2.elim
 | some o =>
  rw [hl] at h2;rw [al.obj _ _ hl];intro hb;rw [H7] at hb;obtain ⟨b,e1,e2⟩:=h2 hb;exact ⟨b,by rw [←(al.gam _ _ hl).1];exact e1,e2⟩
theorem Tg (K:He P C) (h:SRg base pass F0 m G st a w) {f:FuncId} {bc:BCon} (hf:C.Δ f=some bc) {x:bc.X} {rs:List Nat} {vs:List Value} (Xr:bc.ok x)
  (hx:RAs ⟨w,m⟩ G (lk st.objs) (rnAs rs (bc.args x)) vs) (Ek:rs.Nodup) (Js:rs.length=(bc.post x).length) (Uf:Zh rs rs (bc.objs x) st.objs) (O2:Zy (rs.drop (bc.objs x).length) st.objs) :
  Ph P f∧Calls P f vs.toArray w fun e w'=>∃ v m' G',e=.returned v∧SRg base pass F0 m' G' ⟨st.tmps,Xn rs rs (bc.post x) st.objs⟩ a w'∧RA ⟨w',m'⟩ G' (lk (Xn rs rs (bc.post x) st.objs)) (bc.rvr rs x) v:=by
 obtain ⟨Tk,Zou⟩:=K.2.2.2 f bc hf;refine ⟨Tk,?_⟩;obtain ⟨Zts,Zxw,Zu5,Pj,Zs7⟩:=Zou x Xr;have Zcy:∀ {j j' k:Nat},rs[j]?=some k→rs[j']?=some k→j=j':=by
  intro j j' k h1 h2;obtain ⟨hj,e1⟩:=List.getElem?_eq_some_iff.1 h1;obtain ⟨hj',e2⟩:=List.getElem?_eq_some_iff.1 h2;have hp:=List.pairwise_iff_getElem.1 Ek;rcases Nat.lt_trichotomy j j' with Qd|eX|Zpa
  ·exact absurd (e1.trans e2.symm) (hp j j' hj hj' Qd)
  ·exact eX
  ·exact absurd (e2.trans e1.symm) (hp j' j hj' hj Zpa)
 let G1:Gh:=⟨fun i=>G.γ (rk rs i),fun i=>G.hd (rk rs i)⟩
 have al1:Alike rs (bc.objs x) G1 G (lk st.objs):=⟨fun i o hi=>by
  obtain ⟨j,rfl,hj⟩:=Xv hi;obtain ⟨k,hk,eZ⟩:=Wd Uf hj;rw [Nq hk];exact eZ,fun i o hi=>⟨rfl,rfl⟩⟩
 have own1:∀ {b:Nat},U5 G1 (bc.objs x) b→∃ k o,k∈rs∧lk st.objs k=some o∧o.owns=true∧G.γ k=some b:=by
  rintro b ⟨i,o,hi,ho,hg⟩;obtain ⟨j,rfl,hj⟩:=Xv hi;obtain ⟨k,hk,eZ⟩:=Wd Uf hj;have hg':G.γ (rk rs (90000+j))=some b:=hg;rw [Nq hk] at hg';exact ⟨k,_,List.mem_of_getElem? hk,eZ,by rw [Y8];exact ho,hg'⟩
 have zero1:∀ {b:Nat},U5 G1 (bc.objs x) b→m b=0:=by
  rintro b ⟨i,o,hi,ho,hg⟩;obtain ⟨j,rfl,hj⟩:=Xv hi;obtain ⟨k,hk,eZ⟩:=Wd Uf hj;have hg':G.γ (rk rs (90000+j))=some b:=hg;rw [Nq hk] at hg';have X3:=h.objs k _ eZ;cases o with
  | box ag cells =>
   simp only [Z8,J7] at X3;obtain ⟨b',cs,t,h1,_,_,_,h5⟩:=X3;rw [hg'] at h1;injection h1 with h1
   subst h1;exact h5.1
  | row s els k0 =>
   have:=E2 Zxw hj;subst this;simp only [Z8,J7] at X3;rcases X3 with ⟨h1,_⟩|⟨b',cap,cs,t,h1,_,_,_,_,_,_,h8,_⟩
   ·rw [hg'] at h1;cases h1
   ·rw [hg'] at h1;injection h1 with h1
    subst h1;simpa using h8
  | mp ks vs fr =>
   have:=C8 Zxw hj;subst this;simp only [Z8,J7] at X3;obtain ⟨b',es,cl,h1,_,_,_,h5,_⟩:=X3;rw [hg'] at h1;injection h1 with h1
   subst h1;simpa using h5
  | brow t l =>
   simp only [Z8,J7] at X3;rcases X3 with ⟨h1,_⟩|⟨b',cap,cs,h1,_,_,_,_,_,_,h8⟩
   ·rw [hg'] at h1;cases h1
   ·rw [hg'] at h1;injection h1 with h1
    subst h1;exact h8
  | fbox s y=>simp [Obj.owns] at ho
  | gone=>simp [Obj.owns] at ho
  | slot e f=>simp [Obj.owns] at ho
  | hole j' n e f x=>simp [Obj.owns] at ho
 have Oy:SRg w.heap.size (U5 G1 (bc.objs x)) ⟨⟨w,m⟩,G1,lk (Zq (bc.objs x))⟩ m G1 ⟨bc.args x,Zq (bc.objs x)⟩ ⟨vs.toArray,[]⟩ w:=by
  constructor
  ·rfl
  ·simpa using (rn_RAs al1 Zts.1).2 hx
  ·intro i o hi;obtain ⟨j,rfl,hj⟩:=Xv hi;exact (bQ al1 hi (P9 Zts.2 hj)).2 (h.objs _ _ (al1.obj _ _ hi))
  ·intro i i' o o' b hi hi' ho ho' hb hb';have e:=h.apart _ _ _ _ b (al1.obj _ _ hi) (al1.obj _ _ hi') (by rw [Y8];exact ho) (by rw [Y8];exact ho') hb hb'
   obtain ⟨j,rfl,hj⟩:=Xv hi;obtain ⟨j',rfl,hj'⟩:=Xv hi';obtain ⟨k,hk,_⟩:=Wd Uf hj;obtain ⟨k',hk',_⟩:=Wd Uf hj';rw [Nq hk,Nq hk'] at e;subst e;rw [Zcy hk hk']
  ·intro i o b hi ho hb;exact ⟨(h.mine _ _ b (al1.obj _ _ hi) (by rw [Y8];exact ho) hb).1,.inr ⟨i,o,hi,ho,hb⟩⟩
  ·exact Frame.refl _ _ _
  ·exact fun _ _ _=>rfl
  ·exact h.new
  ·exact Zk _
  ·intro i o hi;obtain ⟨j,rfl,hj⟩:=Xv hi;exact ⟨by omega,o,hi,eM.refl _ _ _⟩
 refine (Zs7 m w G1 vs Oy).mono ?_;rintro e w' ⟨v,m',G2,rfl,hr,eQ⟩;have old2:∀ b,b<w.heap.size→¬ U5 G1 (bc.objs x) b→m' b=m b:=eQ.old;have hF:Fix.le ⟨w,m⟩ ⟨w',m'⟩:=by
  refine ⟨fun b=>?_,fun b es c Za5 V3=>?_⟩;rotate_left
  ·have hp:¬ U5 G1 (bc.objs x) b:=fun hp=>by
    have hz:=zero1 hp;simp only [hz] at Za5;omega
   rcases Nat.lt_or_ge b w.heap.size with Qd|Nd
   ·rw [eQ.frame.block b Qd hp];exact V3
   ·have:=h.new b Nd;simp only at Za5;omega
  by_cases hp:U5 G1 (bc.objs x) b
  ·have hz:=zero1 hp;exact ⟨by simp only [hz];exact Nat.zero_le _,fun off ho=>by simp only [hz] at ho;omega⟩
  ·rcases Nat.lt_or_ge b w.heap.size with Qd|Nd
   ·exact ⟨by simp only;rw [old2 b Qd hp];exact Zk _,fun off _=>World.cell?_of_block (a:=⟨b,off,none⟩) (eQ.frame.block b Qd hp)⟩
   ·have:=h.new b Nd;exact ⟨by simp only;omega,fun off ho=>by simp only at ho;omega⟩
 let G':Gh:=⟨fun k=>if k∈rs then G2.γ (90000+rs.idxOf k) else G.γ k,fun k=>if k∈rs then G2.hd (90000+rs.idxOf k) else G.hd k⟩
 have Zs2:∀ {j k:Nat},rs[j]?=some k→rs.idxOf k=j:=by
  intro j k hk;have Me:=List.mem_of_getElem? hk;have h1:rs[rs.idxOf k]?=some k:=by
   rw [Zd (List.idxOf_lt_length_of_mem Me),List.getElem_idxOf]
  exact Zcy h1 hk
 have gin:∀ {j k:Nat},rs[j]?=some k→G'.γ k=G2.γ (90000+j)∧G'.hd k=G2.hd (90000+j):=by
  intro j k hk;have Me:=List.mem_of_getElem? hk;exact ⟨by show (if k∈rs then _ else _)=_;rw [if_pos Me,Zs2 hk],by show (if k∈rs then _ else _)=_;rw [if_pos Me,Zs2 hk]⟩
 have gout:∀ {k:Nat},k∉rs→G'.γ k=G.γ k∧G'.hd k=G.hd k:=by
  intro k hk;exact ⟨by show (if k∈rs then _ else _)=_;rw [if_neg hk],by show (if k∈rs then _ else _)=_;rw [if_neg hk]⟩
 have Znr:∀ {k:Nat},k∈rs→∃ (j:Nat) (o:Obj),rs[j]?=some k∧(bc.post x)[j]?=some o∧lk (Xn rs rs (bc.post x) st.objs) k=some (J7 rs o):=by
  intro k hk;obtain ⟨j,hj,e⟩:=List.getElem_of_mem hk;have hk':rs[j]?=some k:=by rw [Zd hj,e]
  have Zvv:j<(bc.post x).length:=by omega
  have ho:=Zd (l:=bc.post x) Zvv;exact ⟨j,_,hk',ho,P2 Ek hk' ho⟩
 have al2:Alike rs (bc.post x) G2 G' (lk (Xn rs rs (bc.post x) st.objs)):=by
  constructor
  ·intro i o hi;obtain ⟨j,rfl,hj⟩:=Xv hi;have Cw:j<rs.length:=by rw [Js];exact (List.getElem?_eq_some_iff.1 hj).1
   have xF:=Zd (l:=rs) Cw;rw [Nq xF];exact P2 Ek xF hj
  ·intro i o hi;obtain ⟨j,rfl,hj⟩:=Xv hi;have Cw:j<rs.length:=by rw [Js];exact (List.getElem?_eq_some_iff.1 hj).1
   have xF:=Zd (l:=rs) Cw;rw [Nq xF];obtain ⟨g1,g2⟩:=gin xF;exact ⟨g1.symm,g2.symm⟩
 have P8:Wc G (lk st.objs) G' (lk (Xn rs rs (bc.post x) st.objs)):=by
  intro k o hk;by_cases Rz:k∈rs
  ·obtain ⟨j,o1,hj,Zbe,oT⟩:=Znr Rz;have Zs0:j<(bc.objs x).length:=by
    rcases Nat.lt_or_ge j (bc.objs x).length with Qd|Nd
    ·exact Qd
    ·have:k∈rs.drop (bc.objs x).length:=by
      refine List.mem_iff_getElem?.2 ⟨j-(bc.objs x).length,?_⟩;rw [List.getElem?_drop,show (bc.objs x).length+(j-(bc.objs x).length)=j by omega]
      exact hj
     rw [gR O2 this] at hk;cases hk
   have X3:=Zd (l:=bc.objs x) Zs0;obtain ⟨k',hk',eZ⟩:=Wd Uf X3;rw [hj] at hk';injection hk' with hk'
   subst hk';rw [hk] at eZ;injection eZ with eZ
   subst eZ;obtain ⟨_,o2,kO,Zax⟩:=eQ.lent _ _ (Yu X3);rw [Yu Zbe] at kO;injection kO with kO
   subst kO;obtain ⟨g1,g2⟩:=gin hj;have e1:G1.γ (90000+j)=G.γ k:=by show G.γ (rk rs (90000+j))=_;rw [Nq hj]
   have e2:G1.hd (90000+j)=G.hd k:=by show G.hd (rk rs (90000+j))=_;rw [Nq hj]
   refine ⟨_,oT,fun hb=>?_,fun s els' k' he=>?_,fun t l' he=>?_⟩;rotate_left 2
   ·rw [bZ] at he;obtain ⟨l,f1,f2,f3⟩:=Zax.2.2 t l' he;refine ⟨l,by rw [bZ];exact f1,f2,fun eX=>?_⟩
    obtain ⟨q1,q2⟩:=f3 eX;exact ⟨by rw [g1,←e1];exact q1,by rw [g2,←e2];exact q2⟩
   ·rw [H7] at hb;obtain ⟨w1,w2⟩:=Zax.1 hb;exact ⟨by rw [H7];exact w1,by rw [g1,←e1];exact w2⟩
   ·rw [jA] at he;obtain ⟨els,k0,f1,f2,f3⟩:=Zax.2.1 s els' k' he;refine ⟨els,k0,by rw [jA];exact f1,f2,fun eX=>?_⟩
    obtain ⟨q1,q2⟩:=f3 eX;exact ⟨by rw [g1,←e1];exact q1,by rw [g2,←e2];exact q2⟩
  ·obtain ⟨g1,g2⟩:=gout Rz;refine ⟨o,by rw [X2 Rz];exact hk,fun hb=>⟨hb,g1⟩,fun s els' k' he=>⟨els',k',he,Zk _,fun _=>⟨g1,g2⟩⟩,fun t l' he=>⟨l',he,Zk _,fun _=>⟨g1,g2⟩⟩⟩
 have notB:∀ {k:Nat} {o:Obj} {b:Nat},k∉rs→lk st.objs k=some o→o.owns=true→G.γ k=some b→¬ U5 G1 (bc.objs x) b:=by
  intro k o b hk ho hw hg hp;obtain ⟨k',o',hm',ho',hw',hg'⟩:=own1 hp;have:=h.apart k k' o o' b ho ho' hw hw' hg hg';subst this;exact hk hm'
 refine ⟨v,m',G',rfl,?_,by
  unfold BCon.rv at hr;unfold BCon.rvr;cases ho:bc.out x with
  | none=>rw [ho] at hr;simpa only [RA] using hr
  | some j=>rw [ho] at hr;exact Zrb al2 hr⟩
 constructor
 ·exact h.defers
 ·exact RAs.mono hF P8 h.tmps
 ·intro k o hk;by_cases Rz:k∈rs
  ·obtain ⟨j,o1,hj,Zbe,oT⟩:=Znr Rz;simp only at hk;rw [oT] at hk;injection hk with hk
   subst hk;have:=(bQ al2 (Yu Zbe) (P9 Zu5.2 Zbe)).1 (eQ.objs _ _ (Yu Zbe));rw [Nq hj] at this;exact this
  ·simp only [X2 Rz] at hk;obtain ⟨g1,g2⟩:=gout Rz;refine Z8.mono hF P8 g1 g2 (fun ho b V3=>?_) (h.objs k o hk);have Qd:=(h.mine k o b hk ho V3).1;have Zpx:=notB Rz hk ho V3;exact ⟨eQ.frame.block b Qd Zpx,old2 b Qd Zpx⟩
 ·intro k k' o o' b hk hk' ho ho' hb hb';simp only at hk hk';by_cases Rz:k∈rs
  ·obtain ⟨j,o1,hj,Zbe,oT⟩:=Znr Rz;rw [oT] at hk;injection hk with hk
   subst hk;rw [Y8] at ho;rw [(gin hj).1] at hb;by_cases hkr':k'∈rs
   ·obtain ⟨j',o1',hj',ho1',hb1'⟩:=Znr hkr';rw [hb1'] at hk';injection hk' with hk'
    subst hk';rw [Y8] at ho';rw [(gin hj').1] at hb';have:=eQ.apart _ _ _ _ b (Yu Zbe) (Yu ho1') ho ho' hb hb';have e:j=j':=by omega
    subst e;rw [hj] at hj';injection hj'
   ·rw [X2 hkr'] at hk';rw [(gout hkr').1] at hb';have Qd:=(h.mine k' o' b hk' ho' hb').1;have Zpx:=notB hkr' hk' ho' hb';rcases (eQ.mine _ _ b (Yu Zbe) ho hb).2 with h1|h1
    ·omega
    ·exact absurd h1 Zpx
  ·rw [X2 Rz] at hk;rw [(gout Rz).1] at hb;by_cases hkr':k'∈rs
   ·obtain ⟨j',o1',hj',ho1',hb1'⟩:=Znr hkr';rw [hb1'] at hk';injection hk' with hk'
    subst hk';rw [Y8] at ho';rw [(gin hj').1] at hb';have Qd:=(h.mine k o b hk ho hb).1;have Zpx:=notB Rz hk ho hb;rcases (eQ.mine _ _ b (Yu ho1') ho' hb').2 with h1|h1
    ·omega
    ·exact absurd h1 Zpx
   ·rw [X2 hkr'] at hk';rw [(gout hkr').1] at hb';exact h.apart k k' o o' b hk hk' ho ho' hb hb'
 ·intro k o b hk ho hb;simp only at hk;by_cases Rz:k∈rs
  ·obtain ⟨j,o1,hj,Zbe,oT⟩:=Znr Rz;rw [oT] at hk;injection hk with hk
   subst hk;rw [Y8] at ho;rw [(gin hj).1] at hb;obtain ⟨q1,q2⟩:=eQ.mine _ _ b (Yu Zbe) ho hb;refine ⟨q1,?_⟩;rcases q2 with q2|q2
   ·exact .inl (Nat.le_trans h.small q2)
   ·obtain ⟨k',o',_,ho',hw',hg'⟩:=own1 q2;exact (h.mine k' o' b ho' hw' hg').2
  ·rw [X2 Rz] at hk;rw [(gout Rz).1] at hb;obtain ⟨q1,q2⟩:=h.mine k o b hk ho hb;exact ⟨Nat.lt_of_lt_of_le q1 eQ.frame.size,q2⟩
 ·refine h.frame.trans ⟨eQ.frame.os,eQ.frame.tape,eQ.frame.output,eQ.frame.size,fun b V3 hp=>eQ.frame.block b (Nat.lt_of_lt_of_le V3 h.small) (fun hB=>?_)⟩;obtain ⟨k',o',_,ho',hw',hg'⟩:=own1 hB;rcases (h.mine k' o' b ho' hw' hg').2 with h1|h1
  ·omega
  ·exact hp h1
 ·intro b V3 hp;refine (old2 b (Nat.lt_of_lt_of_le V3 h.small) (fun hB=>?_)).trans (h.old b V3 hp);obtain ⟨k',o',_,ho',hw',hg'⟩:=own1 hB;rcases (h.mine k' o' b ho' hw' hg').2 with h1|h1
  ·omega
  ·exact hp h1
 ·exact eQ.new
 ·exact Nat.le_trans h.small eQ.frame.size
 ·exact h.lent.goes P8
end
mutual
theorem RA.off {F:Fix} {G G':Gh} {L L':Nat→Option Obj} {i:Nat} (hL:∀ j,j≠i→L' j=L j∧G'.γ j=G.γ j∧G'.hd j=G.hd j):∀ {x:AV} {v:Value},x.off i=true→RA F G L x v→RA F G' L' x v
 | .d x,_,_,h=>by simpa only [RA] using h
 | .ref j f,_,ho,h=>by
  simp only [AV.off,bne_iff_ne] at ho;obtain ⟨h1,h2,_⟩:=hL j ho;simp only [RA,h1,h2] at h ⊢;exact h
 | .rref j n e f,_,ho,h=>by
  simp only [AV.off,bne_iff_ne] at ho;obtain ⟨h1,h2,_⟩:=hL j ho;simp only [RA,h1,h2] at h ⊢;exact h
 | .sl j n,_,ho,h=>by
  simp only [AV.off,bne_iff_ne] at ho;obtain ⟨h1,_,h3⟩:=hL j ho;simp only [RA,h1,h3] at h ⊢;exact h
 | .mpr j,_,ho,h=>by
  simp only [AV.off,bne_iff_ne] at ho;obtain ⟨h1,h2,_⟩:=hL j ho;simp only [RA,h1,h2] at h ⊢;exact h
 | .sb j n f,_,ho,h=>by
  simp only [AV.off,bne_iff_ne] at ho;obtain ⟨h1,h2,h3⟩:=hL j ho;simp only [RA,h1,h2,h3] at h ⊢;exact h
 | .agg l,_,ho,h=>by
  simp only [AV.off] at ho;simp only [RA] at h ⊢;obtain ⟨cs,h1,h2,h3⟩:=h;exact ⟨cs,h1,RAs.off hL ho h2,h3⟩
 | .tup l,_,ho,h=>by
  simp only [AV.off] at ho;simp only [RA] at h ⊢;obtain ⟨cs,h1,h2⟩:=h;exact ⟨cs,h1,RAs.off hL ho h2⟩
 | .clo f l,_,ho,h=>by
  simp only [AV.off] at ho;simp only [RA] at h ⊢;obtain ⟨cs,h1,h2⟩:=h;exact ⟨cs,h1,RAs.off hL ho h2⟩
 | .nils _,_,_,h=>by simpa only [RA] using h
 | .dead,_,_,_=>by simp [RA]
 | .bad _,_,_,h=>by simpa only [RA] using h
theorem RAs.off {F:Fix} {G G':Gh} {L L':Nat→Option Obj} {i:Nat} (hL:∀ j,j≠i→L' j=L j∧G'.γ j=G.γ j∧G'.hd j=G.hd j):∀ {l:List AV} {vs:List Value},offAll i l=true→RAs F G L l vs→RAs F G' L' l vs
 | [],_,_,h=>by simpa only [RAs] using h
 | x::l,vs,ho,h=>by
  simp only [offAll,Ze] at ho;simp only [RAs] at h ⊢;obtain ⟨v,r,h1,h2,h3⟩:=h;exact ⟨v,r,h1,RA.off hL ho.1 h2,RAs.off hL ho.2 h3⟩
end
theorem RAs.kill {F:Fix} {G G':Gh} {L L':Nat→Option Obj} {i:Nat} (hL:∀ j,j≠i→L' j=L j∧G'.γ j=G.γ j∧G'.hd j=G.hd j):∀ {l:List AV} {vs:List Value},RAs F G L l vs→RAs F G' L' (Vd i l) vs
 | [],_,h=>by simpa only [RAs,Vd] using h
 | x::l,vs,h=>by
  simp only [RAs] at h;obtain ⟨v,r,h1,h2,h3⟩:=h;simp only [Vd,RAs];refine ⟨v,r,h1,?_,RAs.kill hL h3⟩;cases ho:x.off i with
  | true=>exact RA.off hL ho h2
  | false=>simp [RA]
theorem bW {i:Nat}:∀ {o:Zz},W6 i o=true→∀ {j:Nat} {ag:Bool} {cells:List AV},lk o j=some (.box ag cells)→offAll i cells=true
 | [],_,j,ag,cells,hj=>by simp [lk] at hj
 | (k,q)::r,h,j,ag,cells,hj=>by
  simp only [lk] at hj;by_cases Ay:j=k
  ·subst Ay;rw [if_pos rfl] at hj;injection hj with hj
   subst hj;simp only [W6,Ze] at h;exact h.1
  ·rw [if_neg Ay] at hj;have hr:W6 i r=true:=by
    cases q<;>simp only [W6,Ze] at h<;>first|exact h|exact h.2
   exact bW hr hj
theorem E1 {i:Nat}:∀ {o:Zz},W6 i o=true→∀ {j k n e f:Nat} {x:AV},lk o j=some (.hole k n e f x)→k≠i∧x.off i=true
 | [],_,j,k,n,e,f,x,hj=>by simp [lk] at hj
 | (q0,q)::r,h,j,k,n,e,f,x,hj=>by
  simp only [lk] at hj;by_cases Ay:j=q0
  ·subst Ay;rw [if_pos rfl] at hj;injection hj with hj
   subst hj;simp only [W6,Ze,bne_iff_ne] at h;exact h.1
  ·rw [if_neg Ay] at hj;have hr:W6 i r=true:=by
    cases q<;>simp only [W6,Ze] at h<;>first|exact h|exact h.2
   exact E1 hr hj
section
variable {P:Program} {C:Ctx} {G:Gh}
variable {base:Nat} {pass:Nat→Prop} {F0:Anc} {m:Nat→Nat} {st:AS} {a:Act} {w:World}
theorem SRg.cut (h:SRg base pass F0 m G st a w) {i s k c:Nat} {els:List D} (hi:lk st.objs i=some (.row s els k)) {n:Nat} (hn:n≤els.length) (hk:k≤n) (ho:W6 i st.objs=true) (hi9:i<90000) {A:Option Addr} (hd:G.hd i=.slice A els.length c) :
  SRg base pass F0 m ⟨G.γ,fun j=>if j=i then .slice A n c else G.hd j⟩ ⟨Vd i st.tmps,upd st.objs i (.row s (els.take n) k)⟩ a w:=by
 have hL:∀ j,j≠i→lk (upd st.objs i (.row s (els.take n) k)) j=lk st.objs j∧(⟨G.γ,fun j=>if j=i then .slice A n c else G.hd j⟩:Gh).γ j=G.γ j∧(⟨G.γ,fun j=>if j=i then .slice A n c else G.hd j⟩:Gh).hd j=G.hd j:=by
  intro j hj;exact ⟨by rw [Jb,if_neg hj],rfl,by simp [hj]⟩
 have own:∀ j o',lk (upd st.objs i (.row s (els.take n) k)) j=some o'→∃ o,lk st.objs j=some o∧o.owns=o'.owns:=by
  intro j o' hj;rw [Jb] at hj;by_cases Yd:j=i
  ·subst Yd;rw [if_pos rfl] at hj;injection hj with hj
   subst hj;exact ⟨_,hi,rfl⟩
  ·rw [if_neg Yd] at hj;exact ⟨o',hj,rfl⟩
 constructor
 ·exact h.defers
 ·exact RAs.kill hL h.tmps
 ·intro j o' hj;simp only at hj;by_cases Yd:j=i
  ·subst Yd;rw [Jb,if_pos rfl] at hj;injection hj with hj
   subst hj;have X3:=h.objs j _ hi;simp only [Z8] at X3 ⊢;have Js:(els.take n).length=n:=by rw [List.length_take];omega
   rcases X3 with ⟨h1,h2,h3,h4⟩|⟨b,cap,cs,t,h1,h2,h3,h4,h5,h6,h7,h8,h9⟩
   ·left;subst h3;simp only [List.length_nil,Nat.le_zero_eq] at hn;subst hn;rw [h2] at hd;simp only [List.length_nil,Value.slice.injEq] at hd;obtain ⟨rfl,_,rfl⟩:=hd;exact ⟨h1,by simp,by simp,h4⟩
   ·right;rw [h2] at hd;simp only [Value.slice.injEq,true_and] at hd;obtain ⟨rfl,rfl⟩:=hd;refine ⟨b,cap,cs,t,h1,by simp [Js],by omega,h4,h5,h6,?_,h8,by omega⟩
    rw [Js];have:=(h7.split n).1;rw [List.take_take] at this;have e:min (n*s) (els.length*s)=n*s:=Nat.min_eq_left (Nat.mul_le_mul_right _ hn);rw [e] at this;exact this
  ·rw [(hL j Yd).1] at hj;have X3:=h.objs j _ hj;obtain ⟨e1,e2,e3⟩:=hL j Yd;cases o' with
   | box ag cells =>
    simp only [Z8] at X3 ⊢;obtain ⟨b,cs,t,h1,h2,h3,h4,h5⟩:=X3;exact ⟨b,cs,t,h1,h2,RAs.off hL (bW ho hj) h3,h4,h5⟩
   | fbox s' x=>exact X3
   | row s' els' k' =>
    simp only [Z8,if_neg Yd] at X3 ⊢;exact X3
   | mp ks vs f=>exact X3
   | gone=>trivial
   | slot e f=>trivial
   | brow t l =>
    simp only [Z8,if_neg Yd] at X3 ⊢;exact X3
   | hole j' n' e f x =>
    obtain ⟨o1,o2⟩:=E1 ho hj;simp only [Z8] at X3 ⊢;obtain ⟨b,off,v,g1,g2,g3,g4⟩:=X3;exact ⟨b,off,v,RA.off hL (by simp only [AV.off,bne_iff_ne];exact o1) g1,g2,g3,RA.off hL o2 g4⟩
 ·intro j j' o o' b hj hj' Zvi hoo' hb hb';obtain ⟨q,q1,q2⟩:=own j o hj;obtain ⟨q',q1',q2'⟩:=own j' o' hj';exact h.apart j j' q q' b q1 q1' (q2.trans Zvi) (q2'.trans hoo') hb hb'
 ·intro j o b hj Zvi hb;obtain ⟨q,q1,q2⟩:=own j o hj;exact h.mine j q b q1 (q2.trans Zvi) hb
 ·exact h.frame
 ·exact h.old
 ·exact h.new
 ·exact h.small
 ·intro j o hj;obtain ⟨h1,o1,h2,h3⟩:=h.lent j o hj;have Yd:j≠i:=by omega
  refine ⟨h1,o1,by rw [(hL j Yd).1];exact h2,?_⟩
  refine h3.trans ⟨fun hb=>⟨hb,rfl⟩,fun s' els' k' he=>⟨els',k',he,Zk _,fun _=>⟨rfl,by simp [Yd]⟩⟩,fun t l' he=>⟨l',he,Zk _,fun _=>⟨rfl,by simp [Yd]⟩⟩⟩
theorem SRg.move (h:SRg base pass F0 m G st a w) {i d s k c:Nat} {els:List D} (hi:lk st.objs i=some (.row s els k)) (Yl:lk st.objs d=none) {n:Nat} (hn:n≤els.length) (hk:k≤n) {A:Option Addr} (hd:G.hd i=.slice A els.length c) :
  SRg base pass F0 m ⟨fun j=>if j=d then G.γ i else G.γ j,fun j=>if j=d then .slice A n c else G.hd j⟩ ⟨st.tmps,upd (upd st.objs i .gone) d (.row s (els.take n) k)⟩ a w:=by
 have Zpi:d≠i:=by
  intro e;rw [e,hi] at Yl;cases Yl
 have Zzu:lk (upd (upd st.objs i .gone) d (.row s (els.take n) k)) d=some (.row s (els.take n) k):=by rw [Jb,if_pos rfl]
 have Zte:lk (upd (upd st.objs i .gone) d (.row s (els.take n) k)) i=some .gone:=by rw [Jb,if_neg (Ne.symm Zpi),Jb,if_pos rfl]
 have Zwd:∀ j,j≠d→j≠i→lk (upd (upd st.objs i .gone) d (.row s (els.take n) k)) j=lk st.objs j:=fun j h1 h2=>by rw [Jb,if_neg h1,Jb,if_neg h2]
 have P8:Wc G (lk st.objs) ⟨fun j=>if j=d then G.γ i else G.γ j,fun j=>if j=d then .slice A n c else G.hd j⟩ (lk (upd (upd st.objs i .gone) d (.row s (els.take n) k))):=by
  intro j o hj;have pJ:j≠d:=by
   intro e;rw [e,Yl] at hj;cases hj
  by_cases Yd:j=i
  ·subst Yd;exact ⟨.gone,Zte,fun hb=>(by cases hb),fun s' els' k' he=>(by cases he),fun t l' he=>(by cases he)⟩
  ·refine ⟨o,by rw [Zwd j pJ Yd];exact hj,fun hb=>⟨hb,by simp [pJ]⟩,fun s' els' k' he=>⟨els',k',he,Zk _,fun _=>⟨by simp [pJ],by simp [pJ]⟩⟩,fun t l' he=>⟨l',he,Zk _,fun _=>⟨by simp [pJ],by simp [pJ]⟩⟩⟩
 have own:∀ j o',lk (upd (upd st.objs i .gone) d (.row s (els.take n) k)) j=some o'→o'.owns=true→∃ q o,lk st.objs q=some o∧o.owns=true∧(if j=d then G.γ i else G.γ j)=G.γ q∧(j=d∧q=i∨j≠d∧q=j∧q≠i):=by
  intro j o' hj ho;by_cases pJ:j=d
  ·subst pJ;exact ⟨i,_,hi,rfl,by simp,.inl ⟨rfl,rfl⟩⟩
  ·by_cases Yd:j=i
   ·subst Yd;rw [Zte] at hj;injection hj with hj
    subst hj;cases ho
   ·rw [Zwd j pJ Yd] at hj;exact ⟨j,o',hj,ho,by simp [pJ],.inr ⟨pJ,rfl,Yd⟩⟩
 constructor
 ·exact h.defers
 ·exact RAs.mono (Fix.le_refl _) P8 h.tmps
 ·intro j o' hj;simp only at hj;by_cases pJ:j=d
  ·subst pJ;rw [Zzu] at hj;injection hj with hj
   subst hj;have X3:=h.objs i _ hi;simp only [Z8,if_true] at X3 ⊢;have Js:(els.take n).length=n:=by rw [List.length_take];omega
   rcases X3 with ⟨h1,h2,h3,h4⟩|⟨b,cap,cs,t,h1,h2,h3,h4,h5,h6,h7,h8,h9⟩
   ·left;subst h3;simp only [List.length_nil,Nat.le_zero_eq] at hn;subst hn;rw [h2] at hd;simp only [List.length_nil,Value.slice.injEq] at hd;obtain ⟨rfl,_,rfl⟩:=hd;exact ⟨h1,rfl,by simp,h4⟩
   ·right;rw [h2] at hd;simp only [Value.slice.injEq,true_and] at hd;obtain ⟨rfl,rfl⟩:=hd;refine ⟨b,cap,cs,t,h1,by simp [Js],by omega,h4,h5,h6,?_,h8,by omega⟩
    rw [Js];have:=(h7.split n).1;rw [List.take_take] at this;have e:min (n*s) (els.length*s)=n*s:=Nat.min_eq_left (Nat.mul_le_mul_right _ hn);rw [e] at this;exact this
  ·by_cases Yd:j=i
   ·subst Yd;rw [Zte] at hj;injection hj with hj
    subst hj;simp only [Z8]
   ·rw [Zwd j pJ Yd] at hj;exact Z8.mono (Fix.le_refl _) P8 (by simp [pJ]) (by simp [pJ]) (fun _ _ _=>⟨rfl,rfl⟩) (h.objs j _ hj)
 ·intro j j' o o' b hj hj' ho ho' hb hb';obtain ⟨q,oq,g1,g2,g3,g4⟩:=own j o hj ho;obtain ⟨q',oq',g1',g2',g3',g4'⟩:=own j' o' hj' ho';simp only at hb hb';rw [g3] at hb;rw [g3'] at hb';have:=h.apart q q' oq oq' b g1 g1' g2 g2' hb hb';rcases g4 with ⟨e1,e2⟩|⟨e1,e2,e3⟩<;>rcases g4' with ⟨e1',e2'⟩|⟨e1',e2',e3'⟩
  ·rw [e1,e1']
  ·exact absurd (this.symm.trans e2) e3'
  ·exact absurd (this.trans e2') e3
  ·rw [←e2,←e2',this]
 ·intro j o b hj ho hb;obtain ⟨q,oq,g1,g2,g3,_⟩:=own j o hj ho;simp only at hb;rw [g3] at hb;exact h.mine q oq b g1 g2 hb
 ·exact h.frame
 ·exact h.old
 ·exact h.new
 ·exact h.small
 ·exact h.lent.goes P8
end
section
variable {P:Program} {C:Ctx} {G:Gh}
variable {base:Nat} {pass:Nat→Prop} {F0:Anc} {m:Nat→Nat} {st:AS} {a:Act} {w:World}
theorem lA {F:Fix}:∀ {xs:List D} {vs:List Value},Zm1 xs→RE F 1 xs vs→vs=(xs.map D.i).map (Value.int .u8)∧Zbl xs=(xs.map D.i).map fun n=>UInt8.ofNat n.toNat
 | [],vs,_,h=>by
  simp only [RE] at h;subst h;exact ⟨rfl,rfl⟩
 | x::l,vs,⟨h1,h2⟩,h=>by
  simp only [RE] at h;obtain ⟨v,r,rfl,-,-,hv,hr⟩:=h;obtain ⟨e1,e2⟩:=lA h2 hr;have Zu1:=hv.of_int h1;subst Zu1;subst e1;exact ⟨rfl,by rw [Zbl,e2];rfl⟩
theorem nI (T:J1 P C.τ) (h:SRg base pass F0 m G st a w) {s t:Nat} {x z:AV} {v:Value} {c:Prop} {os:Zz} (hh:S1 C s t x st.objs=some (c,z,os)) (hc:c) (hx:RA ⟨w,m⟩ G (lk st.objs) x v) :
  ∃ u,(convert s t v).run P w=.ok u w∧RA ⟨w,m⟩ G (lk st.objs) z u∧os=st.objs:=by
 unfold S1 at hh;split at hh
 ·next e hk hk' =>
  split at hh
  ·next c1 xs xG dH =>
   simp only [Zb,Zc] at hh;obtain ⟨rfl,rfl,rfl⟩:=hh;obtain ⟨d,hd,Xb⟩:=T.kind hk rfl;obtain ⟨d',hd',hkd'⟩:=T.kind hk' rfl;obtain ⟨d2,Zv8,Zsy⟩:=T.kind xG rfl;simp only [TK.is] at Xb hkd' Zsy;obtain ⟨rfl,-⟩:=Xb;subst hkd';subst Zsy;obtain ⟨B,cap,rfl,hB⟩:=Bc h hx dH hc.1;rcases hB with rfl|⟨b,off,vs,rfl,hE,Lt⟩
   ·refine ⟨.string .empty,?_,by simp only [RA,R];rfl,rfl⟩
    rw [run_convert_bytes_string w s t e B _ cap hd Zv8 hd'];cases B with
    | none=>simp [Conv.bytesToString]
    | some B =>
     exact run_bytesToString w B 0 cap [] (by simp [loadCells,loadCellsFrom])
   ·obtain ⟨e1,e2⟩:=lA hc.2 hE;refine ⟨_,run_convert_bytes_arg w s e hd Zv8 b off xs.length cap (xs.map D.i) (by simp) (fun i hi=>Lt i _ ?_) t hd',?_,rfl⟩
    ·rw [e1];simp [hi]
    ·simp only [RA,R,strOfNums];rw [e2]
  ·cases hh
 ·unfold Xu at hh;split at hh
  ·next c1 d hb =>
   simp only [Zb,Zc] at hh;obtain ⟨rfl,rfl,rfl⟩:=hh;obtain ⟨v,hr,hv⟩:=rY (w:=w) T hb hc hx;exact ⟨v,hr,by simpa only [RA] using hv,rfl⟩
  ·cases hh
theorem Vw {F:Fix} {L:Nat→Option Obj} (h:RAs F G L st.tmps a.tmps.toList):∀ (xs:List Operand) (ts:List Nat),RAs F G L (Rw C st xs ts) (xs.map a.eval)
 | [],ts=>by cases ts<;>simp [Rw,RAs]
 | x::xs,[]=>by simp only [Rw,List.map_cons,RAs];exact ⟨_,_,rfl,Xj h x,Vw h xs []⟩
 | x::xs,t::ts=>by simp only [Rw,List.map_cons,RAs];exact ⟨_,_,rfl,Xj h x,Vw h xs ts⟩
theorem M8 {F:Fix} {L:Nat→Option Obj} (h:RAs F G L st.tmps a.tmps.toList) (hint:Nat):∀ (ps:List (Nat×Operand)) (j i:Nat) (x:AV),(Xw C st hint ps)[j]?=some (i,x) →
  ∃ v,(ps.map fun p=>(p.1,a.eval p.2))[j]?=some (i,v)∧RA F G L x v
 | [],j,i,x,hj=>by simp [Xw] at hj
 | (i0,y)::ps,0,i,x,hj=>by
  simp only [Xw,List.getElem?_cons_zero,Zb,Zc] at hj;obtain ⟨rfl,rfl⟩:=hj;exact ⟨a.eval y,rfl,Xj h y⟩
 | (i0,y)::ps,j+1,i,x,hj=>by
  simp only [Xw,List.getElem?_cons_succ] at hj;simpa using M8 h hint ps j i x hj
theorem N2 (hint:Nat):∀ (ps:List (Nat×Operand)),(Xw C st hint ps).length=ps.length
 | []=>rfl
 | (i,x)::ps=>by simp [Xw,N2 hint ps]
theorem Aq {F:Fix} {L:Nat→Option Obj} (h:RAs F G L st.tmps a.tmps.toList) (t:Nat) (x:Option Operand):Wo F G L (tQ C st t x) (x.map a.eval):=by
 cases x with
 | none=>simp [tQ,Wo]
 | some x=>simp only [tQ,Option.map_some,Wo];exact Xj h x
def Rq (base:Nat) (pass:Nat→Prop) (F0:Anc) (a:Act) (tm:List AV) (dst:Option Tmp) (z:AV) (os:Zz) (K:Act→World→Prop):Prop :=
 ∀ v w' m' G',SRg base pass F0 m' G' ⟨tm,os⟩ a w'→RA ⟨w',m'⟩ G' (lk os) z v→K (a.put dst v) w'
theorem Qy {o:Oper} {s:Sem Value} {z:AV} {os:Zz} {K:Act→World→Prop} {Q:Exit→Act→World→Prop} (he:execOp a.eval o=(do pure (.value (←s)))) (ht:Vr P base pass F0 a st.tmps s w z os)
  (hn:Rq base pass F0 a st.tmps o.dst z os K):o.wp P a w K Q:=by
 obtain ⟨v,w',m',G',hr,hs,hz⟩:=ht;unfold Oper.wp;rw [he];simp only [Sem.run_bind,hr,Result.andThen_ok,Sem.run_pure,Oper.upon];exact hn v w' m' G' hs hz
theorem fX {o:Oper} {s:Sem Unit} {os:Zz} {K:Act→World→Prop} {Q:Exit→Act→World→Prop} (he:execOp a.eval o=(do s;pure .skip)) (ht:dD P base pass F0 a st.tmps s w os)
  (hn:Rq base pass F0 a st.tmps o.dst .dead os K):o.wp P a w K Q:=by
 obtain ⟨w',m',G',hr,hs⟩:=ht;unfold Oper.wp;rw [he];simp only [Sem.run_bind,hr,Result.andThen_ok,Sem.run_pure,Oper.upon];exact hn _ w' m' G' hs (by simp [RA])
theorem H6 {o:Oper} {f:FuncId} {args:Array Value} {z:AV} {os:Zz} {K:Act→World→Prop} {Q:Exit→Act→World→Prop} (he:(execOp a.eval o).run P w=.ok (.enter f args) w)
  (hc:Calls P f args w fun e w'=>∃ v m' G',e=.returned v∧SRg base pass F0 m' G' ⟨st.tmps,os⟩ a w'∧RA ⟨w',m'⟩ G' (lk os) z v) (hn:Rq base pass F0 a st.tmps o.dst z os K):o.wp P a w K Q:=by
 unfold Oper.wp;rw [he];simp only [Oper.upon];refine hc.mono fun e w' ⟨v,m',G',he',hs,hz⟩=>?_;subst he';exact hn v w' m' G' hs hz
theorem Cu {α:Type} {a:Array α} {x:α} (h:a.toList=[x]):a=#[x]:=by cases a;simp_all
theorem Ct {α:Type} {a:Array α} {x y:α} (h:a.toList=[x,y]):a=#[x,y]:=by cases a;simp_all
theorem mJ (K:He P C) (h:SRg base pass F0 m G st a w) {o:Oper} {c:Prop} {z:AV} {os:Zz} {N:Act→World→Prop} {Q:Exit→Act→World→Prop} (hh:Va C o st=some (c,z,os)) (hc:c)
  (hn:Rq base pass F0 a st.tmps o.dst z os N):o.wp P a w N Q:=by
 have T:=K.1;have ev:∀ (hint:Nat) (x:Operand),RA ⟨w,m⟩ G (lk st.objs) (st.ev C hint x) (a.eval x):=fun hint x=>Xj h.tmps x;unfold Va at hh;split at hh
 case h_1 x Qv =>
  simp only [Zb,Zc] at hh;obtain ⟨rfl,rfl,rfl⟩:=hh;exact Qy (st:=st) (s:=pure (a.eval x)) (by simp [execOp,Qv]) (Z4 h rfl (ev _ x)) hn
 case h_2 x Qv =>
  simp only [Zb,Zc] at hh;obtain ⟨rfl,rfl,rfl⟩:=hh;exact Qy (st:=st) (s:=pure (a.eval x)) (by simp [execOp,Qv]) (Z4 h rfl (ev _ x)) hn
 case h_3 cnd x y Qv =>
  split at hh
  ·next r hr =>
   simp only [Zb,Zc] at hh;obtain ⟨rfl,rfl,rfl⟩:=hh;have h0:=ev 0 cnd;unfold sO at hr;split at hr
   ·next hb =>
    simp only [Zb] at hr;subst hr;rw [hb] at h0;simp only [RA,R] at h0;exact Qy (st:=st) (s:=pure (a.eval x)) (by simp [execOp,Qv,h0,asBool]) (Z4 h rfl (ev _ x)) hn
   ·next hb =>
    simp only [Zb] at hr;subst hr;rw [hb] at h0;simp only [RA,R] at h0;exact Qy (st:=st) (s:=pure (a.eval y)) (by simp [execOp,Qv,h0,asBool]) (Z4 h rfl (ev _ y)) hn
   ·cases hr
  ·cases hh
 case h_4 e Qv =>
  split at hh
  ·next k hd=>exact Qy (st:=st) (by simp only [execOp,Qv]) (oB T h hh hc) hn
  ·cases hh
 case h_5 e x Qv =>
  split at hh
  ·next k hd=>exact Qy (st:=st) (by simp only [execOp,Qv]) (iE h (ev _ x) hh hc) hn
  ·cases hh
 case h_6 t ps Qv =>
  refine Qy (st:=st) (s:=Instr.build t (ps.toList.map fun p=>(p.1,a.eval p.2)).toArray) ?_ (nS T h (by rw [N2];simp) (M8 h.tmps 0 ps.toList) hh hc) hn
  simp only [execOp,Qv]
  congr 2
  cases ps;simp
 case h_7 t n ps Qv =>
  split at hh
  ·next k hd =>
   refine Qy (st:=st) (s:=Instr.buildSlice t n (ps.toList.map fun p=>(p.1,a.eval p.2)).toArray) ?_ (Au T h (by rw [N2];simp) (M8 h.tmps _ ps.toList) hh hc) hn
   simp only [execOp,Qv]
   congr 2
   cases ps;simp
  ·cases hh
 case h_8 t p Qv=>exact Qy (st:=st) (by simp only [execOp,Qv]) (qY T h (ev _ p) hh hc) hn
 case h_9 t p x Qv =>
  obtain ⟨rfl,hs⟩:=lI (P:=P) T h (ev 0 p) (ev t x) hh hc;exact fX (st:=st) (by simp only [execOp,Qv]) hs hn
 case h_10 op t x y ty Qv =>
  unfold Xu at hh;split at hh
  ·next c1 d hb =>
   simp only [Zb,Zc] at hh;obtain ⟨rfl,rfl,rfl⟩:=hh;obtain ⟨v,hr,hv⟩:=xX (w:=w) (ox:=x) (oy:=y) T hb hc (ev t x) (ev t y);exact Qy (st:=st) (s:=Xf op t x y (a.eval x) (a.eval y)) (by simp only [execOp,Qv,Xf]) (Z4 h hr (by simpa only [RA] using hv)) hn
  ·cases hh
 case h_11 op t x Qv =>
  unfold Xu at hh;split at hh
  ·next c1 d hb =>
   simp only [Zb,Zc] at hh;obtain ⟨rfl,rfl,rfl⟩:=hh;obtain ⟨v,hr,hv⟩:=yW (P:=P) (w:=w) hb hc (ev t x);exact Qy (st:=st) (by simp only [execOp,Qv]) (Z4 h hr (by simpa only [RA] using hv)) hn
  ·cases hh
 case h_12 s t x Qv =>
  obtain ⟨v,hr,hv,rfl⟩:=nI T h hh hc (ev s x);exact Qy (st:=st) (by simp only [execOp,Qv]) (Z4 h hr hv) hn
 case h_13 f first caps Qv =>
  split at hh
  ·next hf =>
   simp only [Zb,Zc] at hh;obtain ⟨rfl,rfl,rfl⟩:=hh;refine Qy (st:=st) (s:=Instr.makeFunc (.func f) (first.map a.eval) (caps.map a.eval)) (by simp only [execOp,Qv]) (Z4 h (v:=.func (.func f) #[] (caps.toList.map a.eval).toArray) ?_ (mC (Vw h.tmps caps.toList []))) hn
   have hf':first=#[]:=by cases first;simp_all
   subst hf';simp [Instr.makeFunc];cases caps;simp
  ·cases hh
 case h_14 t l cp Qv =>
  split at hh
  ·next k hd=>exact Qy (st:=st) (by simp only [execOp,Qv]) (On T h (ev _ l) (ev _ cp) hh hc) hn
  ·cases hh
 case h_15 t x lo hi mx Qv =>
  exact Qy (st:=st) (by simp only [execOp,Qv]) (lL T h (ev _ x) (Aq h.tmps _ lo) (Aq h.tmps _ hi) (Aq h.tmps _ mx) hh hc) hn
 case h_16 t Qv =>
  split at hh
  ·next k hd=>exact Qy (st:=st) (by simp [execOp,Qv]) (eA (t:=t) h hh) hn
  ·cases hh
 case h_17 t x i ok Qv=>exact Qy (st:=st) (by simp only [execOp,Qv]) (jF T h (ev _ x) (ev _ i) hh hc) hn
 case h_18 t x i y Qv =>
  obtain ⟨rfl,hs⟩:=Om (P:=P) T h (ev 0 x) (ev 0 i) (ev _ y) hh hc;exact fX (st:=st) (by simp only [execOp,Qv]) hs hn
 case h_19 t p f Qv=>exact Qy (st:=st) (by simp only [execOp,Qv]) (Ou T h (ev _ p) hh hc) hn
 case h_20 t x f Qv=>exact Qy (st:=st) (by simp only [execOp,Qv]) (nD T h (ev _ x) hh hc) hn
 case h_21 t x i Qv=>exact Qy (st:=st) (by simp only [execOp,Qv]) (Oq T h (ev _ x) (ev _ i) hh hc) hn
 case h_22 t x i Qv=>exact Qy (st:=st) (by simp only [execOp,Qv]) (nQ T h (ev _ x) (ev _ i) hh hc) hn
 case h_23 x i Qv=>exact Qy (st:=st) (by simp only [execOp,Qv]) (eG h (ev _ x) hh) hn
 case h_24 cl Qv =>
  split at hh
  case h_1 hcal =>
   split at hh
   ·next x t hx ht =>
    have e1:=Cu hx;have e2:=Cu ht;refine Qy (st:=st) (s:=Builtin.len_ #[t] o.type #[a.eval x]) ?_ (vH T h (ev t x) hh hc o.type) hn;simp [execOp,Qv,resolve,hcal,e1,e2,invoke,builtin]
   ·cases hh
  case h_2 hcal =>
   split at hh
   ·next s x t t' k hx ht hk =>
    split at hh
    ·next htt =>
     subst htt;have e1:=Ct hx;have e2:=Ct ht;refine Qy (st:=st) (s:=Builtin.append_ #[t,t] o.type #[a.eval s,a.eval x]) ?_ (kC T h (ev t s) (ev t x) hh hc o.type) hn;simp [execOp,Qv,resolve,hcal,e1,e2,invoke,builtin]
    ·cases hh
   ·cases hh
  case h_3 hcal =>
   split at hh
   ·next x y t ts hx ht =>
    unfold Xu at hh;split at hh
    ·next c1 d hb =>
     simp only [Zb,Zc] at hh;obtain ⟨rfl,rfl,rfl⟩:=hh;have e1:=Ct hx;obtain ⟨v,hr,hv⟩:=vW (P:=P) (w:=w) hb hc (ev t x) (ev t y) cl.argTypes o.type;refine Qy (st:=st) (s:=Builtin.min_ cl.argTypes o.type #[a.eval x,a.eval y]) ?_ (Z4 h hr (by simpa only [RA] using hv)) hn
     simp [execOp,Qv,resolve,hcal,e1,invoke,builtin]
    ·cases hh
   ·cases hh
  case h_4 hcal =>
   split at hh
   ·next x y t ts hx ht =>
    unfold Xu at hh;split at hh
    ·next c1 d hb =>
     simp only [Zb,Zc] at hh;obtain ⟨rfl,rfl,rfl⟩:=hh;have e1:=Ct hx;obtain ⟨v,hr,hv⟩:=vK (P:=P) (w:=w) hb hc (ev t x) (ev t y) cl.argTypes o.type;refine Qy (st:=st) (s:=Builtin.max_ cl.argTypes o.type #[a.eval x,a.eval y]) ?_ (Z4 h hr (by simpa only [RA] using hv)) hn
     simp [execOp,Qv,resolve,hcal,e1,invoke,builtin]
    ·cases hh
   ·cases hh
  case h_5 f hcal =>
   split at hh
   ·next k hk =>
    obtain ⟨Tk,Ma⟩:=Ef K h (Vw h.tmps cl.args.toList cl.argTypes.toList) hh hc;refine H6 (st:=st) (args:=(cl.args.toList.map a.eval).toArray) ?_ Ma hn;have:=Tk (cl.args.toList.map a.eval).toArray w;have e:cl.args.map a.eval=(cl.args.toList.map a.eval).toArray:=by cases cl.args;simp
    simp only [execOp,Qv,resolve,hcal,Act.eval,Deferred.ofValue];simpa [invoke,e] using this
   ·cases hh
  case h_6 f hcal =>
   split at hh
   ·next k hk =>
    have hf:=ev 0 (.tmp f);unfold cK at hh;have e:cl.args.map a.eval=(cl.args.toList.map a.eval).toArray:=by cases cl.args;simp
    split at hh
    ·next g caps hfv =>
     rw [hfv] at hf;simp only [RA,R] at hf;obtain ⟨cs,Zpd,Lg⟩:=hf;obtain ⟨Tk,Ma⟩:=Ef K h (RAs.append (Vw h.tmps cl.args.toList cl.argTypes.toList) (RAs.of_Rs Lg)) hh hc;refine H6 (st:=st) (args:=(cl.args.toList.map a.eval++cs).toArray) ?_ Ma hn;have:=Tk (cl.args.toList.map a.eval++cs).toArray w;simp only [execOp,Qv,resolve,hcal,Zpd,Deferred.ofValue];simpa [invoke,e] using this
    ·next g caps hfv =>
     rw [hfv] at hf;simp only [RA] at hf;obtain ⟨cs,Zpd,Lg⟩:=hf;obtain ⟨Tk,Ma⟩:=Ef K h (RAs.append (Vw h.tmps cl.args.toList cl.argTypes.toList) Lg) hh hc;refine H6 (st:=st) (args:=(cl.args.toList.map a.eval++cs).toArray) ?_ Ma hn;have:=Tk (cl.args.toList.map a.eval++cs).toArray w;simp only [execOp,Qv,resolve,hcal,Zpd,Deferred.ofValue];simpa [invoke,e] using this
    ·cases hh
   ·cases hh
  case h_7=>cases hh
 case h_25 x Qv =>
  have hx:=ev 0 x;unfold qD at hh;split at hh
  ·next i f hi =>
   split at hh
   ·next ob hl =>
    split at hh
    ·next hb =>
     simp only [Zb,Zc] at hh;obtain ⟨rfl,rfl,rfl⟩:=hh;rw [hi] at hx;have hx':=hx;simp only [RA,hl] at hx;obtain ⟨b,g1,g2⟩:=hx.2 hb;rw [g2] at hx';refine Qy (st:=st) (s:=pure (.pointer (some ⟨b,f,none⟩))) (by simp [execOp,Qv,g2]) (Z4 h (by simp) hx') hn
    ·cases hh
   ·cases hh
  ·next s y hi =>
   simp only [Zb,Zc] at hh;obtain ⟨rfl,rfl,rfl⟩:=hh;rw [hi] at hx;have hx':=hx;simp only [RA,R] at hx;obtain ⟨b,off,u,g2,_⟩:=hx;rw [g2] at hx';refine Qy (st:=st) (s:=pure (.pointer (some ⟨b,off,none⟩))) (by simp [execOp,Qv,g2]) (Z4 h (by simp) hx') hn
  ·cases hh
 case h_26=>cases hh
end
def Qb {α:Type} (S:Nat→Prop) (f:Zz→Option (Prop×α×Zz)):Prop :=
 ∀ o o' c x p,(∀ k,S k→lk o k=lk o' k)→f o=some (c,x,p)→∃ p',f o'=some (c,x,p')∧(∀ k,S k→lk p k=lk p' k)∧(∀ k,¬ S k→lk p k=lk o k∧lk p' k=lk o' k)
section
variable {α β:Type} {S:Nat→Prop}
theorem Qb.ret (c:Prop) (x:α):Qb S (fun o=>some (c,x,o)):=by
 intro o o' c' x' p h he;simp only [Zb,Zc] at he;obtain ⟨rfl,rfl,rfl⟩:=he;exact ⟨o',rfl,h,fun k _=>⟨rfl,rfl⟩⟩
theorem Qb.none:Qb (α:=α) S (fun _=>none):=by
 intro o o' c' x' p h he;cases he
theorem Qb.upd {i:Nat} (hi:S i) (c:Prop) (x:α) (b:Obj):Qb S (fun o=>some (c,x,upd o i b)):=by
 intro o o' c' x' p h he;simp only [Zb,Zc] at he;obtain ⟨rfl,rfl,rfl⟩:=he;refine ⟨_,rfl,fun k hk=>?_,fun k hk=>?_⟩
 ·rw [Jb,Jb,h k hk]
 ·have:k≠i:=fun e=>hk (e▸hi);rw [Jb,Jb,if_neg this,if_neg this];exact ⟨rfl,rfl⟩
theorem Qb.lk {i:Nat} (hi:S i) {g:Option Obj→Zz→Option (Prop×α×Zz)} (h:∀ v,Qb S (g v)):Qb S (fun o=>g (lk o i) o):=by
 intro o o' c x p ho he;have:=h (Go.Am.lk o i) o o' c x p ho he;rw [ho i hi] at this;exact this
theorem Qb.bind {f:Zz→Option (Prop×α×Zz)} {g:Prop→α→Zz→Option (Prop×β×Zz)} (hf:Qb S f) (hg:∀ c x,Qb S (g c x)) :
  Qb S (fun o=>match f o with|some (c,x,p)=>g c x p|Option.none=>Option.none):=by
 intro o o' c x p ho he;simp only at he;split at he
 ·next c1 x1 p1 Zt2 =>
  obtain ⟨p1',k1,k2,k3⟩:=hf o o' c1 x1 p1 ho Zt2;obtain ⟨p',j1,j2,j3⟩:=hg c1 x1 p1 p1' c x p k2 he;refine ⟨p',?_,j2,fun k hk=>⟨(j3 k hk).1.trans (k3 k hk).1,(j3 k hk).2.trans (k3 k hk).2⟩⟩;simp only [k1];exact j1
 ·cases he
theorem Qb.bindE {f:Zz→Option (Prop×α×Zz)} {g:Prop→α→Zz→Option (Prop×β×Zz)} {F:Zz→Option (Prop×β×Zz)} (hf:Qb S f) (hg:∀ c x,Qb S (g c x))
  (h0:∀ o,f o=Option.none→F o=Option.none) (h1:∀ o c x p,f o=some (c,x,p)→F o=g c x p):Qb S F:=by
 have:F=fun o=>match f o with|some (c,x,p)=>g c x p|Option.none=>Option.none:=by
  funext o
  split
  ·next c x p h=>exact h1 o c x p h
  ·next h=>exact h0 o h
 rw [this];exact Qb.bind hf hg
theorem Qb.lkE {i:Nat} (hi:S i) {g:Option Obj→Zz→Option (Prop×α×Zz)} {F:Zz→Option (Prop×α×Zz)} (h:∀ v,Qb S (g v)) (hF:∀ o v,Go.Am.lk o i=v→F o=g v o):Qb S F:=by
 have:F=fun o=>g (Go.Am.lk o i) o:=by
  funext o
  exact hF o _ rfl
 rw [this];exact Qb.lk hi h
theorem Qb.congr {f g:Zz→Option (Prop×α×Zz)} (h:Qb S f) (e:∀ o,f o=g o):Qb S g:=by
 have:f=g:=funext e;exact this▸h
theorem Qb.mono {S':Nat→Prop} {f:Zz→Option (Prop×α×Zz)} (h:Qb S f) (hs:∀ k,S k→S' k):Qb S' f:=by
 intro o o' c x p ho he;obtain ⟨p',k1,k2,k3⟩:=h o o' c x p (fun k hk=>ho k (hs k hk)) he;refine ⟨p',k1,fun k hk=>?_,fun k hk=>k3 k (fun h=>hk (hs k h))⟩;by_cases hs:S k
 ·exact k2 k hs
 ·rw [(k3 k hs).1,(k3 k hs).2,ho k hk]
end
section
variable {C:Ctx} {S:Nat→Prop}
theorem iG {e key:Nat} {x:AV} (hk:S key):Qb S (Bo C e key x):=by
 refine Qb.congr (Qb.lk (g:=fun v o=>match C.ag e,v with
  | some ag,none=>some (x.fits (C.size e),AV.ref key 0,upd o key (.box ag (x.cells ag (C.size e))))
  | _,_=>none) hk fun v=>?_) (fun o=>rfl)
 split
 ·exact Qb.upd hk _ _ _
 ·exact Qb.none
theorem Ah {t:Nat} {p:AV} (hk:∀ k∈p.keys,S k):Qb S (Un C t p):=by
 cases p with
 | d x =>
  cases x with
  | ptr s x =>
   refine Qb.congr (f:=fun o=>match C.ag t with
    | some true=>if s=C.size t then some (True,.d x.asAgg,o) else none
    | some false=>if s=1 then some (True,.d (x.cell 0),o) else none
    | none=>none) ?_ (fun o=>rfl)
   repeat' split
   all_goals first|exact Qb.ret _ _|exact Qb.none
  | _=>exact Qb.none
 | ref i f =>
  have hi:=hk i (by simp [AV.keys])
  refine Qb.congr (Qb.lk (g:=fun v o=>match v with
   | some (.box _ cells)=>match C.ag t with
    | some true=>if f+C.size t≤cells.length then some (True,I1 ((cells.drop f).take (C.size t)),o) else none
    | some false=>if f<cells.length then some (True,cells.getD f .dead,o) else none
    | none=>none
   | some (.fbox s x)=>match C.ag t with
    | some true=>if f=0∧s=C.size t then some (True,.d x.asAgg,o) else none
    | some false=>if f<s then some (True,.d (x.cell f),o) else none
    | none=>none
   | _=>none) hi fun v=>?_) (fun o=>rfl)
  repeat' split
  all_goals first|exact Qb.ret _ _|exact Qb.none
 | rref i n e f =>
  have hi:=hk i (by simp [AV.keys])
  refine Qb.congr (Qb.lk (g:=fun v o=>match v with
   | some (.row s els _)=>match C.ag t with
    | some true=>if f=0∧s=C.size t then some (n=els.length∧e<els.length,.d (el els e).asAgg,o) else none
    | some false=>if f<s then some (n=els.length∧e<els.length,.d ((el els e).cell f),o) else none
    | none=>none
   | _=>none) hi fun v=>?_) (fun o=>rfl)
  repeat' split
  all_goals first|exact Qb.ret _ _|exact Qb.none
 | _=>exact Qb.none
theorem zJ {t:Nat} {p:AV} (hk:∀ k∈p.keys,S k):Qb S (De C t p):=by
 cases p with
 | rref i n e f =>
  have hi:=hk i (by simp [AV.keys])
  have hj:=hk (50000+i) (by simp [AV.keys])
  refine Qb.lkE hj (g:=fun v o=>match v with
   | some (.hole i' n0 e0 f0 x)=>if i'=i∧f0=f then match lk o i,C.ag t with
     | some (.row s els _),some false=>some (n=n0∧n=els.length∧e=e0,x,o)
     | _,_=>none
    else Un C t (.rref i n e f) o
   | _=>Un C t (.rref i n e f) o) (fun v=>?_) (fun o v h=>by simp only [De,h];rcases v with _|(_|_|_|_|_|_|_)<;>rfl)
  split
  ·next i' n0 e0 f0 x =>
   split
   ·refine Qb.lkE hi (g:=fun v o=>match v,C.ag t with
     | some (.row s els _),some false=>some (n=n0∧n=els.length∧e=e0,x,o)
     | _,_=>none) (fun v=>?_) (fun o v h=>by simp only [h])
    split
    ·exact Qb.ret _ _
    ·exact Qb.none
   ·exact Ah hk
  ·exact Ah hk
 | _=>exact Qb.congr (Ah (C:=C) (t:=t) hk) (fun o=>rfl)
theorem vI {x:AV} (hk:∀ k∈x.keys,S k):Qb S (Lm x):=by
 cases x with
 | d x=>exact Qb.ret _ _
 | nils s=>exact Qb.ret _ _
 | sl i n =>
  have hi:=hk i (by simp [AV.keys])
  refine Qb.lkE hi (g:=fun v o=>match v with
   | some (.row s els _)=>some (n=els.length,D.list s els,upd o i (.row s els els.length))
   | _=>none) (fun v=>?_) (fun o v h=>?_)
  ·split
   ·exact Qb.upd hi _ _ _
   ·exact Qb.none
  ·simp only [Lm,h];rcases v with _|(_|_|_|_|_|_|_)<;>rfl
 | _=>exact Qb.none
theorem bL:∀ {l:List AV} (_:∀ k∈keysAll l,S k),Qb S (Nw l)
 | [],_=>Qb.ret _ _
 | x::r,h=>by
  simp only [keysAll,List.mem_append] at h;refine Qb.bindE (g:=fun c y o'=>match Nw r o' with
   | some (c',l,o'')=>some (c∧c',y::l,o'')
   | none=>none) (vI (fun k hk=>h k (.inl hk))) (fun c y=>?_) (fun o e=>by simp only [Nw,e]) (fun o c x p e=>by simp only [Nw,e];try rfl)
  refine Qb.bindE (g:=fun c' l o''=>some (c∧c',y::l,o'')) (bL (fun k hk=>h k (.inr hk))) (fun c y=>Qb.ret _ _) (fun o e=>by simp only [e]) (fun o c x p e=>by simp only [e];try rfl)
theorem Po {x:AV} (hk:∀ k∈x.keys,S k):Qb S (pur 1 x):=by
 cases x with
 | d x=>exact Qb.ret _ _
 | nils s=>exact Qb.ret _ _
 | sl i n =>
  have hi:=hk i (by simp [AV.keys])
  refine Qb.lkE hi (g:=fun v o=>match v with
   | some (.row s els _)=>some (n=els.length,D.list s els,upd o i (.row s els els.length))
   | _=>none) (fun v=>?_) (fun o v h=>?_)
  ·split
   ·exact Qb.upd hi _ _ _
   ·exact Qb.none
  ·simp only [pur,h];rcases v with _|(_|_|_|_|_|_|_)<;>rfl
 | ref i f =>
  have hi:=hk i (by simp [AV.keys])
  cases f with
  | succ f=>exact Qb.none
  | zero =>
   refine Qb.lkE hi (g:=fun v o=>match v with
    | some (.fbox s x)=>some (True,D.ptr s x,o)
    | _=>none) (fun v=>?_) (fun o v h=>?_)
   ·split
    ·exact Qb.ret _ _
    ·exact Qb.none
   ·simp only [pur,h];cases v with
    | none=>rfl
    | some ob=>cases ob<;>simp [purs]
 | mpr i =>
  have hi:=hk i (by simp [AV.keys])
  refine Qb.lkE hi (g:=fun v o=>match v with
   | some (.mp ks vs _)=>some (True,D.map ks vs,upd o i (.mp ks vs true))
   | _=>none) (fun v=>?_) (fun o v h=>?_)
  ·split
   ·exact Qb.upd hi _ _ _
   ·exact Qb.none
  ·simp only [pur,h];rcases v with _|(_|_|_|_|_|_|_)<;>rfl
 | agg l =>
  cases hf:S5 l with
  | some xs=>exact Qb.congr (Qb.ret True (D.agg xs)) (fun o=>by simp only [pur,hf])
  | none =>
   refine Qb.bindE (g:=fun c xs o'=>some (c,D.agg xs,o')) (bL (l:=l) (fun k h=>hk k (by simpa [AV.keys] using h))) (fun c y=>Qb.ret _ _) (fun o e=>by simp only [pur,hf,e];cases l<;>simp [purs]) (fun o c x p e=>by simp only [pur,hf,e])
 | tup l=>exact Qb.congr Qb.none (fun o=>by cases l<;>simp [pur,purs])
 | clo f l=>exact Qb.congr Qb.none (fun o=>by cases l<;>simp [pur,purs])
 | rref a b c d=>exact Qb.none
 | bad t=>exact Qb.none
 | sb a b c=>exact Qb.none
 | dead=>exact Qb.none
theorem Bb {C:Ctx} (hC:C.dp=1) {t:Nat} {p x:AV} (hp:∀ k∈p.keys,S k) (hx:∀ k∈x.keys,S k):Qb S (Y4 C t p x):=by
 cases p with
 | ref i f =>
  have hi:=hp i (by simp [AV.keys])
  refine Qb.lkE hi (g:=fun v o=>match v with
   | some (.box ag cells)=>match C.ag t with
    | some true=>if f+C.size t≤cells.length then some (x.fits (C.size t),AV.dead,upd o i (.box ag (Nk cells f (x.cells true (C.size t))))) else none
    | some false=>if f<cells.length then some (x.fits 1∧C.size t=1,AV.dead,upd o i (.box ag (Nk cells f (x.cells false 1)))) else none
    | none=>none
   | _=>none) (fun v=>?_) (fun o v h=>?_)
  ·repeat' split
   all_goals first|exact Qb.upd hi _ _ _|exact Qb.none
  ·simp only [Y4,h];rcases v with _|(_|_|_|_|_|_|_)<;>rfl
 | rref i n e f =>
  have hi:=hp i (by simp [AV.keys])
  refine Qb.lkE hi (g:=fun v o=>match v with
   | some (.row _ _ _)=>(match pur 1 x o with
    | some (c,y,o')=>(match lk o' i with
     | some (.row s els k)=>match C.ag t with
      | some true=>if f=0∧s=C.size t then some (c∧n=els.length∧e<els.length∧k≤e∧y.fits s,AV.dead,upd o' i (.row s (els.set e y) k)) else none
      | some false=>if f<s then some (c∧n=els.length∧e<els.length∧k≤e∧y.fits 1∧C.size t=1,AV.dead,upd o' i (.row s (els.set e ((el els e).setCell f (y.cell 0))) k)) else none
      | none=>none
     | _=>none)
    | none=>none)
   | _=>none) (fun v=>?_) (fun o v h=>?_)
  ·split
   ·refine Qb.bindE (g:=fun c y o'=>(match lk o' i with
     | some (.row s els k)=>match C.ag t with
      | some true=>if f=0∧s=C.size t then some (c∧n=els.length∧e<els.length∧k≤e∧y.fits s,AV.dead,upd o' i (.row s (els.set e y) k)) else none
      | some false=>if f<s then some (c∧n=els.length∧e<els.length∧k≤e∧y.fits 1∧C.size t=1,AV.dead,upd o' i (.row s (els.set e ((el els e).setCell f (y.cell 0))) k)) else none
      | none=>none
     | _=>none)) (Po hx) (fun c y=>?_) (fun o h=>by simp only [h]) (fun o c x p h=>by simp only [h];try rfl)
    refine Qb.lkE hi (g:=fun v o'=>match v with
     | some (.row s els k)=>match C.ag t with
      | some true=>if f=0∧s=C.size t then some (c∧n=els.length∧e<els.length∧k≤e∧y.fits s,AV.dead,upd o' i (.row s (els.set e y) k)) else none
      | some false=>if f<s then some (c∧n=els.length∧e<els.length∧k≤e∧y.fits 1∧C.size t=1,AV.dead,upd o' i (.row s (els.set e ((el els e).setCell f (y.cell 0))) k)) else none
      | none=>none
     | _=>none) (fun v=>?_) (fun o v h=>by simp only [h];try rfl)
    repeat' split
    all_goals first|exact Qb.upd hi _ _ _|exact Qb.none
   ·exact Qb.none
  ·simp only [Y4,hC,h];cases v with
   | none=>rfl
   | some ob =>
    cases ob with
    | row s els k =>
     simp only;cases pur 1 x o with
     | none=>rfl
     | some r=>rfl
    | _=>rfl
 | _=>exact Qb.none
theorem uF {C:Ctx} (hC:C.dp=1) {t:Nat} {p x:AV} (hp:∀ k∈p.keys,S k) (hx:∀ k∈x.keys,S k):Qb S (D8 C t p x):=by
 cases p with
 | rref i n e f =>
  have hi:=hp i (by simp [AV.keys])
  have hj:=hp (50000+i) (by simp [AV.keys])
  cases x with
  | sl j jm =>
   refine Qb.lkE hj (g:=fun v o=>match v with
    | some (.slot e0 f0)=>if f0=f then match lk o i,C.ag t with
      | some (.row s els k),some false=>if f<s then some (e=e0∧k≤e∧n=els.length∧e<els.length∧C.size t=1,AV.dead,upd (upd o i (.row s (els.set e ((el els e).setCell f .any)) (e+1))) (50000+i) (.hole i n e f (.sl j jm))) else none
      | _,_=>none
     else Y4 C t (.rref i n e f) (.sl j jm) o
    | _=>Y4 C t (.rref i n e f) (.sl j jm) o) (fun v=>?_) (fun o v h=>by simp only [D8,h];rcases v with _|(_|_|_|_|_|_|_)<;>rfl)
   split
   ·next e0 f0 =>
    split
    ·refine Qb.lkE hi (g:=fun v o=>match v,C.ag t with
      | some (.row s els k),some false=>if f<s then some (e=e0∧k≤e∧n=els.length∧e<els.length∧C.size t=1,AV.dead,upd (upd o i (.row s (els.set e ((el els e).setCell f .any)) (e+1))) (50000+i) (.hole i n e f (.sl j jm))) else none
      | _,_=>none) (fun v=>?_) (fun o v h=>by simp only [h])
     split
     ·split
      ·next s els k _ _ =>
       refine Qb.bindE (f:=fun o=>some (True,(),upd o i (.row s (els.set e ((el els e).setCell f .any)) (e+1)))) (g:=fun _ _ o=>some (e=e0∧k≤e∧n=els.length∧e<els.length∧C.size t=1,AV.dead,upd o (50000+i) (.hole i n e f (.sl j jm)))) (Qb.upd hi _ _ _) (fun _ _=>Qb.upd hj _ _ _) (fun o h=>by cases h) (fun o c x p h=>by
        simp only [Zb,Zc] at h;obtain ⟨-,-,rfl⟩:=h;rfl)
      ·exact Qb.none
     ·exact Qb.none
    ·exact Bb hC hp hx
   ·exact Bb hC hp hx
  | _=>exact Qb.congr (Bb hC (t:=t) hp hx) (fun o=>rfl)
 | _=>cases x<;>exact Qb.congr (Bb hC (t:=t) hp hx) (fun o=>rfl)
theorem eF {t f:Nat} {p:AV} (hp:∀ k∈p.keys,S k):Qb S (Vh C t p f):=by
 unfold Vh;split
 ·next off sz _ =>
  cases p with
  | ref i f0 =>
   have hi:=hp i (by simp [AV.keys])
   refine Qb.lkE hi (g:=fun v o=>match v with
    | some ob=>if ob.isBox=true then some (True,.ref i (f0+off),o) else none
    | none=>none) (fun v=>?_) (fun o v h=>by simp only [h];cases v<;>rfl)
   repeat' split
   all_goals first|exact Qb.ret _ _|exact Qb.none
  | rref i n e f0 =>
   have hi:=hp i (by simp [AV.keys])
   refine Qb.lkE hi (g:=fun v o=>match v with
    | some (.row _ els _)=>some (n=els.length,.rref i n e (f0+off),o)
    | _=>none) (fun v=>?_) (fun o v h=>by simp only [h];rcases v with _|(_|_|_|_|_|_|_)<;>rfl)
   repeat' split
   all_goals first|exact Qb.ret _ _|exact Qb.none
  | d x =>
   cases x with
   | ptr s x =>
    simp only;repeat' split
    all_goals first|exact Qb.ret _ _|exact Qb.none
   | _=>exact Qb.none
  | _=>exact Qb.none
 ·exact Qb.none
theorem bD {kt et:Nat} {ks vs:List D} {i:D} {ok:Bool}:Qb S (Nt C kt et ks vs i ok):=by
 unfold Nt;repeat' split
 all_goals first|exact Qb.ret _ _|exact Qb.none
theorem qJ {t:Nat} {x ix:AV} {ok:Bool} (hp:∀ k∈x.keys,S k):Qb S (Mr C t x ix ok):=by
 unfold Mr;split
 ·split
  ·exact bD
  ·next j =>
   have hi:=hp j (by simp [AV.keys])
   refine Qb.lkE hi (g:=fun v o=>match v with
    | some (.mp ks vs _)=>Nt C _ _ ks vs _ ok o
    | _=>none) (fun v=>?_) (fun o v h=>by simp only [h];rcases v with _|(_|_|_|_|_|_|_)<;>rfl)
   split
   ·exact bD
   ·exact Qb.none
  ·exact Qb.none
 ·exact Qb.none
theorem mG {key:Nat} (hk:S key):Qb S (Px key):=by
 refine Qb.congr (Qb.lk (g:=fun v o=>match v with
  | none=>some (True,AV.mpr key,upd o key (.mp [] [] false))
  | some _=>none) hk fun v=>?_) (fun o=>rfl)
 split
 ·exact Qb.upd hk _ _ _
 ·exact Qb.none
theorem eW (hC:C.dp=1) {t:Nat} {x ix y:AV} (hp:∀ k∈x.keys,S k) (hy:∀ k∈y.keys,S k):Qb S (Ul C t x ix y):=by
 unfold Ul;split
 ·next kt et i j _ =>
  have hi:=hp j (by simp [AV.keys])
  refine Qb.bindE (g:=fun c z o'=>(match lk o' j with
   | some (.mp ks vs false)=>some (c∧Yo (C.τ kt).kind i∧Yi (C.τ kt).kind ks,AV.dead,upd o' j (.mp (I2 i ks) (Ml i z ks vs) false))
   | _=>none)) (Po hy) (fun c z=>?_) (fun o h=>by simp only [hC,h]) (fun o c x p h=>by simp only [hC,h];try rfl)
  refine Qb.lkE hi (g:=fun v o'=>match v with
   | some (.mp ks vs false)=>some (c∧Yo (C.τ kt).kind i∧Yi (C.τ kt).kind ks,AV.dead,upd o' j (.mp (I2 i ks) (Ml i z ks vs) false))
   | _=>none) (fun v=>?_) (fun o v h=>by simp only [h];try rfl)
  repeat' split
  all_goals first|exact Qb.upd hi _ _ _|exact Qb.none
 ·exact Qb.none
theorem eC {t:Nat} {x ix:AV} (hp:∀ k∈x.keys,S k):Qb S (Vg C t x ix):=by
 unfold Vg;split
 ·next e i _ =>
  cases x with
  | d y=>exact Qb.ret _ _
  | sl k n =>
   have hi:=hp k (by simp [AV.keys])
   refine Qb.lkE hi (g:=fun v o=>match v with
    | some (.row s els _)=>if s=C.size e then some (n=els.length∧i.isAnyInt∧0≤i.i∧i.i<els.length,.rref k n i.i.toNat 0,o) else none
    | _=>none) (fun v=>?_) (fun o v h=>by simp only [h];rcases v with _|(_|_|_|_|_|_|_)<;>rfl)
   repeat' split
   all_goals first|exact Qb.ret _ _|exact Qb.none
  | sb k n f =>
   have hi:=hp k (by simp [AV.keys])
   refine Qb.lkE hi (g:=fun v o=>match v with
    | some (.row s els _)=>if s=C.size e then some (n=els.length∧i.isAnyInt∧0≤i.i∧(f:Int)+i.i<els.length,.rref k n (f+i.i.toNat) 0,o) else none
    | _=>none) (fun v=>?_) (fun o v h=>by simp only [h];rcases v with _|(_|_|_|_|_|_|_)<;>rfl)
   repeat' split
   all_goals first|exact Qb.ret _ _|exact Qb.none
  | _=>exact Qb.none
 ·next n e k j _ =>
  split
  ·cases x with
   | ref i f0 =>
    have hi:=hp i (by simp [AV.keys])
    refine Qb.lkE hi (g:=fun v o=>match v with
     | some ob=>if ob.isBox=true then some (True,.ref i (f0+j.toNat),o) else none
     | none=>none) (fun v=>?_) (fun o v h=>by simp only [h];cases v<;>rfl)
    repeat' split
    all_goals first|exact Qb.ret _ _|exact Qb.none
   | d y =>
    cases y with
    | ptr s y =>
     simp only;repeat' split
     all_goals first|exact Qb.ret _ _|exact Qb.none
    | _=>exact Qb.none
   | _=>exact Qb.none
  ·exact Qb.none
 ·exact Qb.none
theorem vP {t:Nat} {x ix:AV}:Qb S (Sy C t x ix):=by
 unfold Sy;repeat' split
 all_goals first|exact Qb.ret _ _|exact Qb.none
theorem uI (hC:C.dp=1) {t:Nat} {x:AV} {lo hi mx:Option AV} (hp:∀ k∈x.keys,S k):Qb S (D9 C t x lo hi mx):=by
 unfold D9;split
 ·split
  ·split;all_goals first|exact Qb.ret _ _|exact Qb.none
  ·exact Qb.none
 ·next e _ =>
  refine Qb.bindE (g:=fun c y o'=>match lo,hi with
   | some (.d a),some (.d b)=>some (c∧y.isList (C.size e)∧a.isAnyInt∧b.isAnyInt∧0≤a.i∧a.i≤b.i∧b.i≤y.l.length,.d (.list (C.size e) ((y.l.take b.i.toNat).drop a.i.toNat)),o')
   | some (.d a),none=>some (c∧y.isList (C.size e)∧a.isAnyInt∧0≤a.i∧a.i≤y.l.length,.d (.list (C.size e) (y.l.drop a.i.toNat)),o')
   | none,some (.d b)=>some (c∧y.isList (C.size e)∧b.isAnyInt∧0≤b.i∧b.i≤y.l.length,.d (.list (C.size e) (y.l.take b.i.toNat)),o')
   | _,_=>none) (Po hp) (fun c y=>?_) (fun o h=>by simp only [hC,h]) (fun o c x p h=>by simp only [hC,h];try rfl)
  split;all_goals first|exact Qb.ret _ _|exact Qb.none
 ·next e m _ =>
  refine Qb.bindE (g:=fun c y o'=>match lo,hi with
   | some (.d a),some (.d b)=>some (c∧y.isList (C.size e)∧a.isAnyInt∧b.isAnyInt∧m.isAnyInt∧0≤a.i∧a.i≤b.i∧b.i≤m.i∧m.i≤y.l.length,.d (.list (C.size e) ((y.l.take b.i.toNat).drop a.i.toNat)),o')
   | _,_=>none) (Po hp) (fun c y=>?_) (fun o h=>by simp only [hC,h]) (fun o c x p h=>by simp only [hC,h];try rfl)
  split;all_goals first|exact Qb.ret _ _|exact Qb.none
 ·exact Qb.none
theorem nE {x:AV} {i:Nat}:Qb S (G6 x i):=by
 unfold G6;split
 ·split;all_goals first|exact Qb.ret _ _|exact Qb.none
 ·split;all_goals first|exact Qb.ret _ _|exact Qb.none
 ·exact Qb.none
theorem wK {t f:Nat} {x:AV}:Qb S (S0 C t x f):=by
 unfold S0;split
 ·split
  ·split
   ·exact Qb.ret _ _
   ·split;all_goals first|exact Qb.ret _ _|exact Qb.none
   ·exact Qb.none
  ·exact Qb.none
 ·exact Qb.none
theorem Ex (hC:C.dp=1):∀ {ps:List (Nat×AV)} (_:∀ k∈keysAll (ps.map (·.2)),S k),Qb S (Y9 C ps)
 | [],_=>Qb.ret _ _
 | (i,x)::r,h=>by
  simp only [List.map_cons,keysAll,List.mem_append] at h;refine Qb.bindE (g:=fun c y o'=>match Y9 C r o' with
   | some (c',l,o'')=>some (c∧c',(i,y)::l,o'')
   | none=>none) (Po (fun k hk=>h k (.inl hk))) (fun c y=>?_) (fun o e=>by simp only [Y9,hC,e]) (fun o c x p e=>by simp only [Y9,hC,e];try rfl)
  refine Qb.bindE (g:=fun c' l o''=>some (c∧c',(i,y)::l,o'')) (Ex hC (fun k hk=>h k (.inr hk))) (fun c y=>Qb.ret _ _) (fun o e=>by simp only [e]) (fun o c x p e=>by simp only [e];try rfl)
theorem dQ (hC:C.dp=1) {t n key:Nat} {ps:List (Nat×AV)} (hp:∀ k∈keysAll (ps.map (·.2)),S k) (hk:S key):Qb S (Vi C t n ps key):=by
 unfold Vi;split
 ·next e _ =>
  refine Qb.bindE (g:=fun c qs o'=>match lk o' key with
   | none=>if n*C.size e≤16777216∧Oc n ps=true then
     some (c∧Pg (C.size e) (qs.map (·.2)),AV.sl key n,upd o' key (.row (C.size e) (M3 (Nf (C.τ e).zd n) qs) 0)) else none
   | some _=>none) (Ex hC hp) (fun c y=>?_) (fun o e=>by simp only [e]) (fun o c x p e=>by simp only [e];try rfl)
  refine Qb.lkE hk (g:=fun v o'=>match v with
   | none=>if n*C.size e≤16777216∧Oc n ps=true then
     some (c∧Pg (C.size e) (y.map (·.2)),AV.sl key n,upd o' key (.row (C.size e) (M3 (Nf (C.τ e).zd n) y) 0)) else none
   | some _=>none) (fun v=>?_) (fun o v h=>by simp only [h];try rfl)
  repeat' split
  all_goals first|exact Qb.upd hk _ _ _|exact Qb.none
 ·exact Qb.none
theorem eK {t key:Nat} {l c:AV} (hk:S key):Qb S (Um C t l c key):=by
 unfold Um;split
 ·next e a b _ =>
  refine Qb.lkE hk (g:=fun v o=>match v with
   | none=>some (a.isAnyInt∧b.isAnyInt∧0≤a.i∧a.i=b.i∧(C.τ e).bytes*b.i≤281474976710656∧b.i≤4294967296,
     AV.sl key a.i.toNat,upd o key (.row (C.size e) (List.replicate a.i.toNat (C.τ e).zd) 0))
   | some _=>none) (fun v=>?_) (fun o v h=>by simp only [h];cases v<;>rfl)
  repeat' split
  all_goals first|exact Qb.upd hk _ _ _|exact Qb.none
 ·exact Qb.none
theorem pD {s:Nat} {x:AV} (hx:∀ k∈x.keys,S k) {o o':Zz} (h:∀ k,S k→lk o k=lk o' k):Y5 s x o=Y5 s x o':=by
 cases x with
 | sl i n=>simp only [Y5,h i (hx i (by simp [AV.keys]))]
 | _=>rfl
theorem rE {t key:Nat} {s x:AV} (hs:∀ k∈s.keys,S k) (hx:∀ k∈x.keys,S k) (hk:S key):Qb S (Bn C t s x key):=by
 intro o o' c z p ho he;have dH:∀ s',Y5 s' x o'=Y5 s' x o:=fun s'=>(pD hx ho).symm;unfold Bn at he ⊢;simp only [dH];revert he;split
 ·next e _ =>
  split
  ·next c1 xs _ =>
   cases s with
   | nils s =>
    have h2:Qb S (fun o=>match lk o key with
     | none=>some (c1∧xs.length*(C.τ e).bytes≤140737488355328∧xs.length≤4611686018427387904,AV.sl key xs.length,upd o key (.row (C.size e) xs 0))
     | some _=>none):=by
     refine Qb.lkE hk (g:=fun v o=>match v with
      | none=>some (c1∧xs.length*(C.τ e).bytes≤140737488355328∧xs.length≤4611686018427387904,AV.sl key xs.length,upd o key (.row (C.size e) xs 0))
      | some _=>none) (fun v=>?_) (fun o v h=>by simp only [h];try rfl)
     repeat' split
     all_goals first|exact Qb.upd hk _ _ _|exact Qb.none
    exact h2 o o' c z p ho
   | sl i n =>
    have hi:=hs i (by simp [AV.keys])
    have h2:Qb S (fun o=>match lk o i with
     | some (.row s' els k)=>if s'=C.size e then
       some (c1∧n=els.length∧(els.length+xs.length)*(C.τ e).bytes≤140737488355328∧els.length+xs.length≤4611686018427387904,AV.sl i (els++xs).length,upd o i (.row s' (els++xs) k)) else none
     | _=>none):=by
     refine Qb.lkE hi (g:=fun v o=>match v with
      | some (.row s' els k)=>if s'=C.size e then
       some (c1∧n=els.length∧(els.length+xs.length)*(C.τ e).bytes≤140737488355328∧els.length+xs.length≤4611686018427387904,AV.sl i (els++xs).length,upd o i (.row s' (els++xs) k)) else none
      | _=>none) (fun v=>?_) (fun o v h=>by simp only [h];try rfl)
     repeat' split
     all_goals first|exact Qb.upd hi _ _ _|exact Qb.none
    exact h2 o o' c z p ho
   | _=>intro he;cases he
  ·intro he;cases he
 ·intro he;cases he
theorem Zbt {x:AV} (hx:∀ k∈x.keys,S k):Qb S (qD x):=by
 unfold qD;split
 ·next i f =>
  exact Qb.lkE (hx i (by simp [AV.keys])) (g:=fun v o=>match v with
   | some ob=>if ob.isBox=true then some (True,AV.ref i f,o) else none
   | none=>none) (fun v=>by
    cases v with
    | none=>exact Qb.none
    | some ob =>
     simp only;split
     ·exact Qb.ret _ _
     ·exact Qb.none) (fun o v h=>by simp only [h];cases v<;>rfl)
 ·exact Qb.ret _ _
 ·exact Qb.none
theorem Qb.eqf {α:Type} {f g:Zz→Option (Prop×α×Zz)} (h:∀ o,f o=g o) (hg:Qb S g):Qb S f:=by
 rw [show f=g from funext h];exact hg
theorem Zbo {α:Type} {x:AV} (hx:∀ k∈x.keys,S k) {n:Nat} {f:Prop×List D→Option (Prop×α)}:Qb S (fun o=>match Y5 n x o with
  | some y=>(f y).map fun z=>(z.1,z.2,o)
  | none=>none):=by
 have Ti:∀ y:Prop×List D,Qb S fun o=>(f y).map fun z=>(z.1,z.2,o):=fun y=>by
  cases f y with
  | none=>exact Qb.none
  | some z=>exact Qb.ret _ _
 unfold Y5;split
 ·exact Ti _
 ·exact Ti _
 ·next i n' =>
  have hi:=hx i (by simp [AV.keys])
  refine Qb.lkE hi (g:=fun v o=>match (match v with
   | some (.row s' els _)=>if s'=n then some (n'=els.length,els) else none
   | _=>none:Option (Prop×List D)) with
   | some y=>(f y).map fun z=>(z.1,z.2,o)
   | none=>none) (fun v=>?_) (fun o v h=>by simp only [h];rcases v with _|(_|_|_|_|_|_|_)<;>rfl)
  rcases v with _|(_|_|_|_|_)
  all_goals first|exact Qb.none|skip
  all_goals
   simp only;split
   ·next h=>split at h<;>first|(cases h;exact Ti _)|cases h
   ·exact Qb.none
 ·exact Qb.none
theorem wI {s t:Nat} {x:AV} (hx:∀ k∈x.keys,S k):Qb S (S1 C s t x):=by
 unfold S1;split
 ·next e _ _ =>
  by_cases hk:(C.τ e).kind=.int .u8
  ·have:=Zbo (S:=S) (α:=AV) hx (n:=1) (f:=fun y=>some (y.1∧Zm1 y.2,AV.d (.str (Zbl y.2))));simp only [Option.map_some] at this;rw [hk];exact Qb.eqf (fun o=>by cases Y5 1 x o<;>rfl) this
  ·refine Qb.eqf (g:=fun _=>none) (fun o=>?_) Qb.none;split
   ·next h _=>exact absurd h hk
   ·rfl
 ·unfold Xu;split<;>first|exact Qb.ret _ _|exact Qb.none
theorem Zb2 {t:Nat} {x:AV} (hx:∀ k∈x.keys,S k):Qb S (nZ C t x):=by
 unfold nZ;split
 ·exact Qb.ret _ _
 ·exact Qb.ret _ _
 ·exact Qb.ret _ _
 ·next i n _ =>
  have hi:=hx i (by simp [AV.keys])
  refine Qb.lkE hi (g:=fun v o=>match v with
   | some (.row _ els _)=>some (n=els.length,AV.d (.int .i64 els.length),o)
   | _=>none) (fun v=>?_) (fun o v h=>by simp only [h];rcases v with _|(_|_|_|_|_|_|_)<;>rfl)
  repeat' split
  all_goals first|exact Qb.ret _ _|exact Qb.none
 ·next i n f _ =>
  have hi:=hx i (by simp [AV.keys])
  refine Qb.lkE hi (g:=fun v o=>match v with
   | some (.row _ els _)=>some (n=els.length,AV.d (.int .i64 (els.length-f:Nat)),o)
   | _=>none) (fun v=>?_) (fun o v h=>by simp only [h];rcases v with _|(_|_|_|_|_|_|_)<;>rfl)
  repeat' split
  all_goals first|exact Qb.ret _ _|exact Qb.none
 ·exact Qb.none
theorem D7 (hC:C.dp=1):∀ {xs:List AV} {ms:List Bool} (_:∀ k∈keysAll xs,S k),Qb S (X8 C ms xs)
 | [],ms,_=>by cases ms<;>exact Qb.ret _ _
 | x::r,[],_=>Qb.none
 | x::r,false::ms,h=>by
  simp only [keysAll,List.mem_append] at h;refine Qb.bindE (g:=fun c y o'=>match X8 C ms r o' with
   | some (c',l,o'')=>some (c∧c',CV.d y::l,o'')
   | none=>none) (Po (fun k hk=>h k (.inl hk))) (fun c y=>?_) (fun o e=>by simp only [X8,hC,e]) (fun o c x p e=>by simp only [X8,hC,e];try rfl)
  refine Qb.bindE (g:=fun c' l o''=>some (c∧c',CV.d y::l,o'')) (D7 hC (xs:=r) (ms:=ms) (fun k hk=>h k (.inr hk))) (fun c y=>Qb.ret _ _) (fun o e=>by simp only [e]) (fun o c x p e=>by simp only [e];try rfl)
 | x::r,true::ms,h=>by
  simp only [keysAll,List.mem_append] at h;have ih:=D7 hC (ms:=ms) (fun k hk=>h k (.inr hk));cases x with
  | sl i n =>
   have hi:=h i (.inl (by simp [AV.keys]))
   refine Qb.lkE hi (g:=fun v o=>match v with
    | some (.row s els k)=>(match X8 C ms r (upd o i .gone) with
     | some (c,l,o')=>some (c∧n=els.length∧k=0∧0<s,CV.own s els::l,o')
     | none=>none)
    | _=>none) (fun v=>?_) (fun o v h=>by simp only [X8,h];try rfl)
   split
   ·next s els k =>
    refine Qb.bindE (f:=fun o=>some (True,(),upd o i .gone)) (g:=fun _ _ o=>match X8 C ms r o with
     | some (c,l,o')=>some (c∧n=els.length∧k=0∧0<s,CV.own s els::l,o')
     | none=>none) (Qb.upd hi _ _ _) (fun _ _=>?_) (fun o e=>by cases e) (fun o c x p e=>by
      simp only [Zb,Zc] at e;obtain ⟨_,_,rfl⟩:=e;rfl)
    refine Qb.bindE (g:=fun c l o'=>some (c∧n=els.length∧k=0∧0<s,CV.own s els::l,o')) ih (fun c y=>Qb.ret _ _) (fun o e=>by simp only [e]) (fun o c x p e=>by simp only [e];try rfl)
   ·exact Qb.none
  | nils s =>
   refine Qb.bindE (g:=fun c l o'=>some (c,CV.own s []::l,o')) ih (fun c y=>Qb.ret _ _) (fun o e=>by simp only [X8,e]) (fun o c x p e=>by simp only [X8,e];try rfl)
  | _=>exact Qb.none
theorem bY:∀ {l:List CV} {key:Nat} (_:∀ j,S (key+4096*j)),Qb S (fun o=>match Ui key l o with
  | some (ys,o')=>some (True,ys,o')
  | none=>none)
 | [],key,_=>Qb.congr (Qb.ret True []) (fun o=>rfl)
 | x::r,key,hk=>by
  have Lf:S key:=hk 0;have ih:=bY (l:=r) (key:=key+4096) (fun j=>by have:=hk (j+1);rwa [Nat.mul_add,Nat.mul_one,Nat.add_comm (4096*j),←Nat.add_assoc] at this)
  cases x with
  | tup l=>exact Qb.congr Qb.none (fun o=>by simp only [Ui,K8])
  | d y =>
   refine Qb.bindE (g:=fun _ ys o'=>some (True,AV.d y::ys,o')) ih (fun c y=>Qb.ret _ _) (fun o h=>?_) (fun o c x p h=>?_)
   ·simp only [Ui,K8];split at h
    ·cases h
    ·next h2=>simp only [h2]
   ·simp only [Ui,K8];split at h
    ·next h2 =>
     simp only [Zb,Zc] at h;obtain ⟨_,rfl,rfl⟩:=h;simp only [h2]
    ·cases h
  | own s l =>
   refine Qb.lkE Lf (g:=fun v o=>match v with
    | none=>(match Ui (key+4096) r (upd o key (.row s l 0)) with
     | some (ys,o')=>some (True,AV.sl key l.length::ys,o')
     | none=>none)
    | some _=>none) (fun v=>?_) (fun o v h=>?_)
   ·split
    ·refine Qb.bindE (f:=fun o=>some (True,(),upd o key (.row s l 0))) (g:=fun _ _ o=>match Ui (key+4096) r o with
      | some (ys,o')=>some (True,AV.sl key l.length::ys,o')
      | none=>none) (Qb.upd Lf _ _ _) (fun _ _=>?_) (fun o e=>by cases e) (fun o c x p e=>by
       simp only [Zb,Zc] at e;obtain ⟨_,_,rfl⟩:=e;rfl)
     refine Qb.bindE (g:=fun _ ys o'=>some (True,AV.sl key l.length::ys,o')) ih (fun c y=>Qb.ret _ _) (fun o h=>?_) (fun o c x p h=>?_)
     ·split at h
      ·cases h
      ·next h2=>simp only [h2]
     ·split at h
      ·next h2 =>
       simp only [Zb,Zc] at h;obtain ⟨_,rfl,rfl⟩:=h;simp only [h2]
      ·cases h
    ·exact Qb.none
   ·simp only [Ui,K8,h];cases v with
    | some _=>rfl
    | none =>
     simp only;cases Ui (key+4096) r (upd o key (.row s l 0)) with
     | none=>rfl
     | some q=>rfl
theorem uU {x:CV} {key:Nat} (hk:∀ j,S (key+4096*j)):Qb S (fun o=>match Ez key x o with
  | some (y,o')=>some (True,y,o')
  | none=>none):=by
 cases x with
 | tup l =>
  refine Qb.bindE (g:=fun _ ys o'=>some (True,fO ys,o')) (bY (l:=l) hk) (fun c y=>Qb.ret _ _) (fun o h=>?_) (fun o c x p h=>?_)
  ·simp only [Ez];split at h
   ·cases h
   ·next h2=>simp only [h2]
  ·simp only [Ez];split at h
   ·next h2 =>
    simp only [Zb,Zc] at h;obtain ⟨_,rfl,rfl⟩:=h;simp only [h2]
   ·cases h
 | d y=>exact Qb.congr (Qb.ret True (AV.d y)) (fun o=>rfl)
 | own s l =>
  refine Qb.lkE (hk 0) (g:=fun v o=>match v with
   | none=>some (True,AV.sl key l.length,upd o key (.row s l 0))
   | some _=>none) (fun v=>?_) (fun o v h=>?_)
  ·split
   ·exact Qb.upd (hk 0) _ _ _
   ·exact Qb.none
  ·have h':lk o key=v:=by simpa using h
   simp only [Ez,K8,h'];cases v<;>rfl
theorem cU (hC:C.dp=1) {f key:Nat} {args:List AV} (ha:∀ k∈keysAll args,S k) (hk:∀ j,S (key+4096*j)):Qb S (Fm C f args key):=by
 unfold Fm;split
 ·next con _ =>
  refine Qb.bindE (g:=fun c Jj o'=>match Ez key (con.fn Jj) o' with
   | some (y,o'')=>some (c∧con.pre Jj,y,o'')
   | none=>none) (D7 hC (ms:=con.modes) ha) (fun c Jj=>?_) (fun o h=>by simp only [h]) (fun o c x p h=>by simp only [h];try rfl)
  refine Qb.bindE (g:=fun _ y o'=>some (c∧con.pre Jj,y,o')) (uU (x:=con.fn Jj) hk) (fun c y=>Qb.ret _ _) (fun o h=>?_) (fun o c x p h=>?_)
  ·split at h
   ·cases h
   ·next h2=>simp only [h2]
  ·split at h
   ·next h2 =>
    simp only [Zb,Zc] at h;obtain ⟨_,rfl,rfl⟩:=h;simp only [h2]
   ·cases h
 ·exact Qb.none
theorem Nz:∀ {a b:List AV},keysAll (a++b)=keysAll a++keysAll b
 | [],b=>rfl
 | x::a,b=>by simp [keysAll,Nz (a:=a),List.append_assoc]
theorem gC:∀ (l:List D),keysAll (l.map .d)=[]
 | []=>rfl
 | x::l=>by simp [keysAll,AV.keys,gC l]
theorem wT (hC:C.dp=1) {f:AV} {key:Nat} {args:List AV} (hf:∀ k∈f.keys,S k) (ha:∀ k∈keysAll args,S k) (hk:∀ j,S (key+4096*j)):Qb S (cK C f args key):=by
 cases f with
 | d x =>
  cases x with
  | clo g caps =>
   refine cU hC (fun k h=>?_) hk;rw [Nz,gC,List.append_nil] at h;exact ha k h
  | _=>exact Qb.none
 | clo g caps =>
  refine cU hC (fun k h=>?_) hk;rw [Nz,List.mem_append] at h;rcases h with h|h
  ·exact ha k h
  ·exact hf k (by simpa [AV.keys] using h)
 | _=>exact Qb.none
def Yg (l:List Nat) (k:Nat):Prop:=k % 4096∈l
theorem kQ {st:AS} (hint:Nat) (x:Operand):(st.ev C hint x).keys=(st.ev C 0 x).keys:=by
 cases x with
 | const v =>
  simp only [AS.ev];unfold Ud;split
  ·rfl
  ·rfl
 | _=>rfl
theorem Mk {k:Nat}:∀ {l:List AV},k∈keysAll l↔∃ x∈l,k∈x.keys
 | []=>by simp [keysAll]
 | x::l=>by simp [keysAll,Mk (l:=l)]
theorem cG {st:AS}:∀ (xs:List Operand) (ts:List Nat),keysAll (Rw C st xs ts)=keysAll (xs.map (st.ev C 0))
 | [],ts=>by cases ts<;>rfl
 | x::xs,[]=>by simp [Rw,keysAll,cG xs []]
 | x::xs,t::ts=>by simp [Rw,keysAll,cG xs ts,kQ t x]
theorem F6 {st:AS} (h:Nat):∀ (ps:List (Nat×Operand)),keysAll ((Xw C st h ps).map (·.2))=keysAll ((ps.map (·.2)).map (st.ev C 0))
 | []=>rfl
 | (i,x)::ps=>by simp [Xw,keysAll,F6 h ps,kQ h x]
theorem bV (hC:C.dp=1) (o:Oper) (st:AS):Qb (Yg (G7 C o st)) (fun os=>Va C o ⟨st.tmps,os⟩):=by
 have kP:∀ (hint:Nat) (x:Operand),x∈Xe o.op→∀ k∈(AS.ev C st hint x).keys,Yg (G7 C o st) k:=by
  intro hint x hx k hk;unfold Yg G7;rw [List.mem_map];refine ⟨k,List.mem_append_left _ (Mk.2 ⟨_,List.mem_map.2 ⟨x,hx,rfl⟩,?_⟩),rfl⟩;rwa [kQ] at hk
 have oI:∀ k,o.dst=some k→Pq o.op=true→∀ j,Yg (G7 C o st) (k+4096*j):=by
  intro k hk hm j;unfold Yg G7;rw [List.mem_map];refine ⟨k,List.mem_append_right _ (by simp [hk,jD,hm]),by omega⟩
 have iP:∀ k,o.dst=some k→Pq o.op=true→Yg (G7 C o st) k:=fun k hk hm=>by simpa using oI k hk hm 0
 have E:∀ (os:Zz) (hint:Nat) (x:Operand),AS.ev C ⟨st.tmps,os⟩ hint x=AS.ev C st hint x:=fun os hint x=>by cases x<;>rfl
 have ES:∀ (os:Zz) (xs:List Operand) (ts:List Nat),Rw C ⟨st.tmps,os⟩ xs ts=Rw C st xs ts:=by
  intro os xs
  induction xs with
  | nil=>intro ts;cases ts<;>rfl
  | cons x xs ih=>intro ts;cases ts<;>simp [Rw,ih,E]
 have EP:∀ (os:Zz) (h:Nat) (ps:List (Nat×Operand)),Xw C ⟨st.tmps,os⟩ h ps=Xw C st h ps:=by
  intro os h ps
  induction ps with
  | nil=>rfl
  | cons p ps ih=>obtain ⟨i,x⟩:=p;simp [Xw,ih,E]
 have EO:∀ (os:Zz) (t:Nat) (x:Option Operand),tQ C ⟨st.tmps,os⟩ t x=tQ C st t x:=by
  intro os t x;cases x<;>simp [tQ,E]
 unfold Va;simp only [E,ES,EP,EO];have args:∀ (xs:List Operand) (ts:List Nat),(∀ x∈xs,x∈Xe o.op)→∀ k∈keysAll (Rw C st xs ts),Yg (G7 C o st) k:=by
  intro xs ts hx k hk;rw [cG,Mk] at hk;obtain ⟨a,ha,uZ⟩:=hk;obtain ⟨x,oU,rfl⟩:=List.mem_map.1 ha;exact kP 0 x (hx x oU) k uZ
 have parts:∀ (h:Nat) (ps:List (Nat×Operand)),(∀ x∈ps.map (·.2),x∈Xe o.op)→∀ k∈keysAll ((Xw C st h ps).map (·.2)),Yg (G7 C o st) k:=by
  intro h ps hx k hk;rw [F6,Mk] at hk;obtain ⟨a,ha,uZ⟩:=hk;obtain ⟨x,oU,rfl⟩:=List.mem_map.1 ha;exact kP 0 x (hx x oU) k uZ
 split
 case h_1=>exact Qb.ret _ _
 case h_2=>exact Qb.ret _ _
 case h_3=>split<;>first|exact Qb.ret _ _|exact Qb.none
 case h_4 e Qv =>
  split
  ·next k hk=>exact iG (iP k hk (by simp [Qv,Pq]))
  ·exact Qb.none
 case h_5 e x Qv =>
  split
  ·next k hk=>exact iG (iP k hk (by simp [Qv,Pq]))
  ·exact Qb.none
 case h_6 t ps Qv =>
  unfold Ea;split
  ·next fs _ =>
   have:∀ (r:List (Nat×AV)) (cells:List AV) (c:Prop),Qb (Yg (G7 C o st)) (fun os=>Ww os fs cells r c):=by
    intro r
    induction r with
    | nil=>intro cells c;exact Qb.ret _ _
    | cons p r ih =>
     intro cells c;obtain ⟨i,x⟩:=p;simp only [Ww];split
     ·split
      ·exact ih _ _
      ·exact Qb.none
     ·exact Qb.none
   exact this _ _ _
  ·have:∀ (r:List (Nat×AV)) (cells:List AV) (c:Prop),Qb (Yg (G7 C o st)) (fun os=>Kj os cells r c):=by
    intro r
    induction r with
    | nil=>intro cells c;exact Qb.ret _ _
    | cons p r ih =>
     intro cells c;obtain ⟨i,x⟩:=p;simp only [Kj];split
     ·exact ih _ _
     ·exact Qb.none
   split
   ·exact this _ _ _
   ·exact Qb.none
  ·exact Qb.none
 case h_7 t n ps Qv =>
  split
  ·next k hk=>exact dQ hC (parts _ _ (fun x hx=>by simpa [Qv,Xe,Qt] using hx)) (iP k hk (by simp [Qv,Pq]))
  ·exact Qb.none
 case h_8 t p Qv=>exact zJ (kP 0 p (by simp [Qv,Xe,Qt]))
 case h_9 t p x Qv=>exact uF hC (kP 0 p (by simp [Qv,Xe,Qt])) (kP t x (by simp [Qv,Xe,Qt]))
 case h_10 =>
  unfold Xu;split<;>first|exact Qb.ret _ _|exact Qb.none
 case h_11 =>
  unfold Xu;split<;>first|exact Qb.ret _ _|exact Qb.none
 case h_12 s1 t x Qv=>exact wI (kP s1 x (by simp [Qv,Xe,Qt]))
 case h_13=>split<;>first|exact Qb.ret _ _|exact Qb.none
 case h_14 t l c Qv =>
  split
  ·next k hk=>exact eK (iP k hk (by simp [Qv,Pq]))
  ·exact Qb.none
 case h_15 t x lo hi mx Qv=>exact uI hC (kP t x (by simp [Qv,Xe,Qt]))
 case h_16 t Qv =>
  split
  ·next k hk=>exact mG (iP k hk (by simp [Qv,Pq]))
  ·exact Qb.none
 case h_17 t x i ok Qv=>exact qJ (kP 0 x (by simp [Qv,Xe,Qt]))
 case h_18 t x i y Qv=>exact eW hC (kP 0 x (by simp [Qv,Xe,Qt])) (kP _ y (by simp [Qv,Xe,Qt]))
 case h_19 t p f Qv=>exact eF (kP 0 p (by simp [Qv,Xe,Qt]))
 case h_20 t x f Qv=>exact wK
 case h_21 t x i Qv=>exact eC (kP t x (by simp [Qv,Xe,Qt]))
 case h_22 t x i Qv=>exact vP
 case h_23 x i Qv=>exact nE
 case h_24 cl Qv =>
  split
  case h_1 hcal =>
   split
   ·next x t hx ht=>exact Zb2 (kP t x (by simp [Qv,Xe,Qt,hcal,hx]))
   ·exact Qb.none
  case h_2 hcal =>
   split
   ·next s x t t' k hx ht hk =>
    split
    ·exact rE (kP t s (by simp [Qv,Xe,Qt,hcal,hx])) (kP t' x (by simp [Qv,Xe,Qt,hcal,hx])) (iP k hk (by simp [Qv,Pq,hcal]))
    ·exact Qb.none
   ·exact Qb.none
  case h_3 =>
   split
   ·unfold Xu;split<;>first|exact Qb.ret _ _|exact Qb.none
   ·exact Qb.none
  case h_4 =>
   split
   ·unfold Xu;split<;>first|exact Qb.ret _ _|exact Qb.none
   ·exact Qb.none
  case h_5 f hcal =>
   split
   ·next k hk=>exact cU hC (args _ _ (fun x hx=>by simp only [Qv,Xe,Qt,hcal];exact List.mem_cons_of_mem _ hx)) (oI k hk (by simp [Qv,Pq,hcal]))
   ·exact Qb.none
  case h_6 f hcal =>
   split
   ·next k hk=>exact wT hC (kP 0 (.tmp f) (by simp [Qv,Xe,Qt,hcal])) (args _ _ (fun x hx=>by simp only [Qv,Xe,Qt,hcal];exact List.mem_cons_of_mem _ hx)) (oI k hk (by simp [Qv,Pq,hcal]))
   ·exact Qb.none
  case h_7=>exact Qb.none
 case h_25 x Qv=>exact Zbt (kP 0 x (by simp [Qv,Xe,Qt]))
 case h_26=>exact Qb.none
theorem gQ {kt et:Nat} {ks vs:List D} {i:D} {ok:Bool} {os p:Zz} {c:Prop} {x:AV} (h:Nt C kt et ks vs i ok os=some (c,x,p)):p=os:=by
 unfold Nt at h;split at h
 ·cases ok<;>simp only [Zb,Zc] at h<;>exact h.2.2.symm
 ·cases h
theorem vQ {o:Oper} {st:AS} {c:Prop} {x:AV} {p:Zz} (hr:M4 o.op=true) (h:Va C o st=some (c,x,p)):p=st.objs:=by
 unfold Va at h;split at h
 case h_1=>simp only [Zb,Zc] at h;exact h.2.2.symm
 case h_2=>simp only [Zb,Zc] at h;exact h.2.2.symm
 case h_3=>split at h<;>simp_all
 case h_4 Qv=>simp [Qv,M4] at hr
 case h_5 Qv=>simp [Qv,M4] at hr
 case h_6 t ps Qv =>
  unfold Ea at h;split at h
  ·next fs _ =>
   have:∀ (r:List (Nat×AV)) (cells:List AV) (c0:Prop),Ww st.objs fs cells r c0=some (c,x,p)→p=st.objs:=by
    intro r
    induction r with
    | nil =>
     intro cells c0 h;simp only [Ww,Zb,Zc] at h;exact h.2.2.symm
    | cons q r ih =>
     intro cells c0 h;obtain ⟨i,y⟩:=q;simp only [Ww] at h;split at h
     ·split at h
      ·exact ih _ _ h
      ·cases h
     ·cases h
   exact this _ _ _ h
  ·have:∀ (r:List (Nat×AV)) (cells:List AV) (c0:Prop),Kj st.objs cells r c0=some (c,x,p)→p=st.objs:=by
    intro r
    induction r with
    | nil =>
     intro cells c0 h;simp only [Kj,Zb,Zc] at h;exact h.2.2.symm
    | cons q r ih =>
     intro cells c0 h;obtain ⟨i,y⟩:=q;simp only [Kj] at h;split at h
     ·exact ih _ _ h
     ·cases h
   split at h
   ·exact this _ _ _ h
   ·cases h
  ·cases h
 case h_7 Qv=>simp [Qv,M4] at hr
 case h_8 t q Qv =>
  unfold De Un at h;repeat' split at h
  all_goals first|(simp only [Zb,Zc] at h;exact h.2.2.symm)|cases h
 case h_9 Qv=>simp [Qv,M4] at hr
 case h_10 =>
  unfold Xu at h;split at h;all_goals first|(simp only [Zb,Zc] at h;exact h.2.2.symm)|cases h
 case h_11 =>
  unfold Xu at h;split at h;all_goals first|(simp only [Zb,Zc] at h;exact h.2.2.symm)|cases h
 case h_12 =>
  unfold S1 at h;split at h
  ·split at h
   ·simp only [Zb,Zc] at h;exact h.2.2.symm
   ·cases h
  ·unfold Xu at h;split at h;all_goals first|(simp only [Zb,Zc] at h;exact h.2.2.symm)|cases h
 case h_13 =>
  split at h;all_goals first|(simp only [Zb,Zc] at h;exact h.2.2.symm)|cases h
 case h_14 Qv=>simp [Qv,M4] at hr
 case h_15 Qv=>simp [Qv,M4] at hr
 case h_16 Qv=>simp [Qv,M4] at hr
 case h_17 =>
  unfold Mr at h;split at h
  ·split at h
   ·exact gQ h
   ·split at h
    ·exact gQ h
    ·cases h
   ·cases h
  ·cases h
 case h_18 Qv=>simp [Qv,M4] at hr
 case h_19 =>
  unfold Vh at h;repeat' split at h
  all_goals first|(simp only [Zb,Zc] at h;exact h.2.2.symm)|cases h
 case h_20 =>
  unfold S0 at h;repeat' split at h
  all_goals first|(simp only [Zb,Zc] at h;exact h.2.2.symm)|cases h
 case h_21 =>
  unfold Vg at h;repeat' split at h
  all_goals first|(simp only [Zb,Zc] at h;exact h.2.2.symm)|cases h
 case h_22 =>
  unfold Sy at h;repeat' split at h
  all_goals first|(simp only [Zb,Zc] at h;exact h.2.2.symm)|cases h
 case h_23 =>
  unfold G6 at h;repeat' split at h
  all_goals first|(simp only [Zb,Zc] at h;exact h.2.2.symm)|cases h
 case h_24 cl Qv =>
  split at h
  case h_1 =>
   split at h
   ·unfold nZ at h;repeat' split at h
    all_goals first|(simp only [Zb,Zc] at h;exact h.2.2.symm)|cases h
   ·cases h
  case h_2 hcal=>simp [Qv,M4,hcal] at hr
  case h_3 hcal=>simp [Qv,M4,hcal] at hr
  case h_4 hcal=>simp [Qv,M4,hcal] at hr
  case h_5 hcal=>simp [Qv,M4,hcal] at hr
  case h_6 hcal=>simp [Qv,M4,hcal] at hr
  case h_7=>cases h
 case h_25 =>
  unfold qD at h;repeat' split at h
  all_goals first|(simp only [Zb,Zc] at h;exact h.2.2.symm)|cases h
 case h_26=>cases h
theorem jE {o:Oper} {s s':AS} (ho:s.objs=s'.objs) (h:∀ x∈Qt o.op,∀ hint,s.ev C hint x=s'.ev C hint x):Va C o s=Va C o s':=by
 have args:∀ (xs:List Operand) (ts:List Nat),(∀ x∈xs,x∈Qt o.op)→Rw C s xs ts=Rw C s' xs ts:=by
  intro xs
  induction xs with
  | nil=>intro ts _;cases ts<;>rfl
  | cons x xs ih =>
   intro ts hx;have h1:=fun hint=>h x (hx x (by simp)) hint
   cases ts<;>simp [Rw,h1,ih _ (fun y hy=>hx y (List.mem_cons_of_mem _ hy))]
 have parts:∀ (hint:Nat) (ps:List (Nat×Operand)),(∀ x∈ps.map (·.2),x∈Qt o.op)→Xw C s hint ps=Xw C s' hint ps:=by
  intro hint ps
  induction ps with
  | nil=>intro _;rfl
  | cons q ps ih =>
   intro hx;obtain ⟨i,x⟩:=q;have h1:=h x (hx x (by simp)) hint
   simp [Xw,h1,ih (fun y hy=>hx y (by simp only [List.map_cons];exact List.mem_cons_of_mem _ hy))]
 have opt:∀ (t:Nat) (x:Option Operand),(∀ y∈x.toList,y∈Qt o.op)→tQ C s t x=tQ C s' t x:=by
  intro t x hx;cases x with
  | none=>rfl
  | some x=>simp [tQ,h x (hx x (by simp))]
 unfold Va;rw [ho];split
 case h_1 x Qv=>rw [h x (by simp [Qv,Qt])]
 case h_2 x Qv=>rw [h x (by simp [Qv,Qt])]
 case h_3 c a b Qv=>rw [h c (by simp [Qv,Qt]),h a (by simp [Qv,Qt]),h b (by simp [Qv,Qt])]
 case h_4=>rfl
 case h_5 e x Qv=>rw [h x (by simp [Qv,Qt])]
 case h_6 t ps Qv=>rw [parts _ _ (fun x hx=>by simpa [Qv,Qt] using hx)]
 case h_7 t n ps Qv=>rw [parts _ _ (fun x hx=>by simpa [Qv,Qt] using hx)]
 case h_8 t p Qv=>rw [h p (by simp [Qv,Qt])]
 case h_9 t p x Qv=>rw [h p (by simp [Qv,Qt]),h x (by simp [Qv,Qt])]
 case h_10 op t x y ty Qv=>rw [h x (by simp [Qv,Qt]),h y (by simp [Qv,Qt])]
 case h_11 op t x Qv=>rw [h x (by simp [Qv,Qt])]
 case h_12 s1 t x Qv=>rw [h x (by simp [Qv,Qt])]
 case h_13 f first caps Qv=>rw [args _ _ (fun x hx=>by simpa [Qv,Qt] using hx)]
 case h_14 t l c Qv=>rw [h l (by simp [Qv,Qt]),h c (by simp [Qv,Qt])]
 case h_15 t x lo hi mx Qv =>
  rw [h x (by simp [Qv,Qt]),opt 0 lo (fun y hy=>by simp only [Qv,Qt];simp only [Zm,List.mem_append];exact .inr (.inl (.inl hy))),
   opt 0 hi (fun y hy=>by simp only [Qv,Qt];simp only [Zm,List.mem_append];exact .inr (.inl (.inr hy))),
   opt 0 mx (fun y hy=>by simp only [Qv,Qt];simp only [Zm,List.mem_append];exact .inr (.inr hy))]
 case h_16=>rfl
 case h_17 t x i ok Qv=>rw [h x (by simp [Qv,Qt]),h i (by simp [Qv,Qt])]
 case h_18 t x i y Qv=>rw [h x (by simp [Qv,Qt]),h i (by simp [Qv,Qt]),h y (by simp [Qv,Qt])]
 case h_19 t p f Qv=>rw [h p (by simp [Qv,Qt])]
 case h_20 t x f Qv=>rw [h x (by simp [Qv,Qt])]
 case h_21 t x i Qv=>rw [h x (by simp [Qv,Qt]),h i (by simp [Qv,Qt])]
 case h_22 t x i Qv=>rw [h x (by simp [Qv,Qt]),h i (by simp [Qv,Qt])]
 case h_23 x i Qv=>rw [h x (by simp [Qv,Qt])]
 case h_24 cl Qv =>
  split
  case h_1 hcal =>
   split
   ·next x t hx ht=>rw [h x (by simp [Qv,Qt,hcal,hx])]
   ·rfl
  case h_2 hcal =>
   split
   ·next a x t t' k hx ht hk=>rw [h a (by simp [Qv,Qt,hcal,hx]),h x (by simp [Qv,Qt,hcal,hx])]
   ·rfl
  case h_3 hcal =>
   split
   ·next x y t ts hx ht=>rw [h x (by simp [Qv,Qt,hcal,hx]),h y (by simp [Qv,Qt,hcal,hx])]
   ·rfl
  case h_4 hcal =>
   split
   ·next x y t ts hx ht=>rw [h x (by simp [Qv,Qt,hcal,hx]),h y (by simp [Qv,Qt,hcal,hx])]
   ·rfl
  case h_5 f hcal=>rw [args _ _ (fun x hx=>by simp only [Qv,Qt,hcal];exact List.mem_cons_of_mem _ hx)]
  case h_6 f hcal=>rw [args _ _ (fun x hx=>by simp only [Qv,Qt,hcal];exact List.mem_cons_of_mem _ hx),h (.tmp f) (by simp [Qv,Qt,hcal])]
  case h_7=>rfl
 case h_25 x Qv=>rw [h x (by simp [Qv,Qt])]
 case h_26=>rfl
def AS.same (s s':AS):Prop:=s.tmps=s'.tmps∧∀ k,lk s.objs k=lk s'.objs k
theorem AS.same.refl (s:AS):s.same s:=⟨rfl,fun _=>rfl⟩
theorem AS.same.trans {a b c:AS} (h:a.same b) (k:b.same c):a.same c:=⟨h.1.trans k.1,fun i=>(h.2 i).trans (k.2 i)⟩
theorem AS.same.symm {a b:AS} (h:a.same b):b.same a:=⟨h.1.symm,fun i=>(h.2 i).symm⟩
theorem SRg.same {base:Nat} {pass:Nat→Prop} {F0:Anc} {m:Nat→Nat} {G:Gh} {s s':AS} {a:Act} {w:World} (h:SRg base pass F0 m G s a w) (e:s.same s'):SRg base pass F0 m G s' a w:=by
 have el:lk s.objs=lk s'.objs:=funext e.2;obtain ⟨a1,a2,a3,a4,a5,a6,a7,a8,a9,a10⟩:=h;constructor
 ·exact a1
 ·rw [←e.1,←el];exact a2
 ·rw [←el];exact a3
 ·rw [←el];exact a4
 ·rw [←el];exact a5
 ·exact a6
 ·exact a7
 ·exact a8
 ·exact a9
 ·rw [←el];exact a10
theorem SR.same {base:Nat} {pass:Nat→Prop} {F0:Anc} {s s':AS} {a:Act} {w:World} (h:SR base pass F0 s a w) (e:s.same s'):SR base pass F0 s' a w:=by
 obtain ⟨m,G,h⟩:=h;exact ⟨m,G,h.same e⟩
def oG (C:Ctx) (o:Oper) (s:AS) (bc:BCon) (x:bc.X) (rs:List Nat):Prop :=
 Zbb C o s=some (bc,rnAs rs (bc.args x))∧bc.ok x∧rs.Nodup∧rs.length=(bc.post x).length∧(bc.objs x).length≤rs.length∧Zh rs rs (bc.objs x) s.objs∧Zy (rs.drop (bc.objs x).length) s.objs
theorem T6 {s s':AS}:∀ (xs:List Operand) (ts:List Nat),(∀ x∈xs,∀ hint,s.ev C hint x=s'.ev C hint x)→Rw C s xs ts=Rw C s' xs ts
 | [],_,_=>rfl
 | x::r,[],h=>by simp only [Rw];rw [h x (by simp),T6 r [] (fun y hy=>h y (List.mem_cons_of_mem _ hy))]
 | x::r,t::ts,h=>by simp only [Rw];rw [h x (by simp),T6 r ts (fun y hy=>h y (List.mem_cons_of_mem _ hy))]
theorem xV {o:Oper} {s s':AS} (h:∀ y∈Qt o.op,∀ hint,s.ev C hint y=s'.ev C hint y):Zbb C o s=Zbb C o s':=by
 unfold Zbb;cases Qv:o.op with
 | call c =>
  rw [Qv] at h;simp only;cases hc:c.callee with
  | value f =>
   simp only [Qt,hc] at h;have ha:∀ x∈c.args.toList,∀ hint,s.ev C hint x=s'.ev C hint x:=fun x hx=>h x (List.mem_cons_of_mem _ hx);have hf:=h f (by simp)
   cases f with
   | func f=>simp only [T6 _ _ ha]
   | tmp f=>simp only [T6 _ _ ha,hf]
   | _=>rfl
  | _=>rfl
 | _=>rfl
theorem C3 {rs0:List Nat} {o o':Zz}:∀ {ks:List Nat} {l:List Obj},(∀ k∈ks,lk o k=lk o' k)→Zh rs0 ks l o→Zh rs0 ks l o'
 | _,[],_,_=>by unfold Zh;trivial
 | [],_::_,_,h=>by simp [Zh] at h
 | k::ks,x::l,hk,h=>by
  simp only [Zh] at h ⊢;exact ⟨by rw [←hk k (by simp)];exact h.1,C3 (fun q hq=>hk q (List.mem_cons_of_mem _ hq)) h.2⟩
theorem Fv {o o':Zz}:∀ {ks:List Nat},(∀ k∈ks,lk o k=lk o' k)→Zy ks o→Zy ks o'
 | [],_,_=>by unfold Zy;trivial
 | k::ks,hk,h=>by
  simp only [Zy] at h ⊢;exact ⟨by rw [←hk k (by simp)];exact h.1,Fv (fun q hq=>hk q (List.mem_cons_of_mem _ hq)) h.2⟩
theorem oA {rs:List Nat} {k:Nat} (h:k∈rs):Yg (rs.map (· % 4096)) k:=List.mem_map.2 ⟨k,h,rfl⟩
theorem oG.move {o:Oper} {s s':AS} {bc:BCon} {x:bc.X} {rs:List Nat} (h:oG C o s bc x rs) (Qv:∀ y∈Qt o.op,∀ hint,s'.ev C hint y=s.ev C hint y)
  (ho:∀ k,Yg (rs.map (· % 4096)) k→lk s.objs k=lk s'.objs k):oG C o s' bc x rs∧(∀ k,Yg (rs.map (· % 4096)) k→lk (Xn rs rs (bc.post x) s.objs) k=lk (Xn rs rs (bc.post x) s'.objs) k) ∧
   (∀ k,¬ Yg (rs.map (· % 4096)) k→lk (Xn rs rs (bc.post x) s.objs) k=lk s.objs k∧lk (Xn rs rs (bc.post x) s'.objs) k=lk s'.objs k):=by
 obtain ⟨h1,h2,h3,h4,h5,h6,h7⟩:=h;have hk:∀ k∈rs,lk s.objs k=lk s'.objs k:=fun k hk=>ho k (oA hk);refine ⟨⟨by rw [xV Qv];exact h1,h2,h3,h4,h5,C3 hk h6,Fv (fun k hk'=>hk k (List.mem_of_mem_drop hk')) h7⟩,fun k uZ=>?_,fun k uZ=>?_⟩
 ·by_cases Rz:k∈rs
  ·obtain ⟨j,hj⟩:=List.getElem?_of_mem Rz;have Cw:j<(bc.post x).length:=by rw [←h4];exact (List.getElem?_eq_some_iff.1 hj).1
   have hp:=Zd Cw;rw [P2 h3 hj hp,P2 h3 hj hp]
  ·rw [X2 Rz,X2 Rz];exact ho k uZ
 ·have Rz:k∉rs:=fun Rz=>uZ (oA Rz);exact ⟨X2 Rz,X2 Rz⟩
def eO (C:Ctx) (ops:List Oper) (i:Nat) (fp:List Nat) (ro:Bool) (s s':AS):Prop:=∃ o,ops[i]?=some o ∧
 ((match o.guard with
  | none=>False
  | some (j,want)=>(Jp ops s j).skips want∧fp=[]∧ro=true∧s'=s.put o.dst (.d (.tup [])) s.objs) ∨
 ((match o.guard with
  | none=>True
  | some (j,want)=>(Jp ops s j).runs want)∧fp=G7 C o s∧ro=M4 o.op∧∃ c x os,Va C o s=some (c,x,os)∧c∧s'=s.put o.dst x os) ∨
 ((match o.guard with
  | none=>True
  | some (j,want)=>(Jp ops s j).runs want)∧ro=false∧∃ (bc:BCon) (x:bc.X) (rs:List Nat),oG C o s bc x rs∧fp=rs.map (· % 4096)∧s'=s.put o.dst (bc.rvr rs x) (Xn rs rs (bc.post x) s.objs)))
inductive Tr (C:Ctx) (ops:List Oper):List (Nat×List Nat×Bool)→AS→AS→Prop
 | nil (s:AS):Tr C ops [] s s
 | cons {i:Nat} {fp:List Nat} {ro:Bool} {l:List (Nat×List Nat×Bool)} {s t u:AS} (h:eO C ops i fp ro s t) (k:Tr C ops l t u):Tr C ops ((i,fp,ro)::l) s u
theorem pI {s:AS} {dst:Option Nat} {x:AV} {os:Zz} {y:Operand} {hint:Nat} (h:∀ d,dst=some d→d∉rS y):(s.put dst x os).ev C hint y=s.ev C hint y:=by
 cases y with
 | tmp t =>
  cases dst with
  | none=>rfl
  | some d =>
   have:d≠t:=by simpa [rS] using h d rfl
   simp [AS.put,AS.ev,Zg,List.getElem?_set_ne this]
 | _=>rfl
theorem D3 {ops:List Oper} {o:Oper} {d:Nat} (h:d∉I3 ops o):∀ y∈Qt o.op,d∉rS y:=by
 intro y hy hd;exact h (List.mem_append_left _ (List.mem_flatMap.2 ⟨y,hy,hd⟩))
theorem fH {ops:List Oper} {s:AS} {o:Oper} {j:Nat} {want:Bool} (hg:o.guard=some (j,want)) {dst:Option Nat} {x:AV} {os:Zz} (h:∀ d,dst=some d→d∉I3 ops o):Jp ops (s.put dst x os) j=Jp ops s j:=by
 unfold Jp;cases hj:ops[j]? with
 | none=>rfl
 | some g =>
  simp only;cases hd:g.dst with
  | none=>rfl
  | some t =>
   simp only;cases dst with
   | none=>rfl
   | some d =>
    have Gk:d≠t:=by
     intro e;exact h d rfl (by simp [I3,hg,hj,hd,e])
    simp [AS.put,Zg,List.getElem?_set_ne Gk]
theorem Bq {ops:List Oper} {s s':AS} (h:s.tmps=s'.tmps) (j:Nat):Jp ops s j=Jp ops s' j:=by
 unfold Jp;rw [h]
theorem pU {o:Op}:∀ y∈Xe o,y∈Qt o:=by
 intro y hy;cases o<;>first|exact hy|(simp [Xe] at hy)
theorem nA {ops:List Oper} {s:AS} {o:Oper} {dst:Option Nat} {x:AV} {os:Zz} (h:∀ d,dst=some d→d∉I3 ops o):G7 C o (s.put dst x os)=G7 C o s:=by
 have:(Xe o.op).map ((s.put dst x os).ev C 0)=(Xe o.op).map (s.ev C 0):=List.map_congr_left fun y hy=>pI (fun d hd=>D3 (h d hd) y (pU y hy));unfold G7;rw [this]
theorem wQ {s s':AS} (h:s.tmps=s'.tmps) (o:Oper):G7 C o s=G7 C o s':=by
 have:(Xe o.op).map (s.ev C 0)=(Xe o.op).map (s'.ev C 0):=List.map_congr_left fun y hy=>by cases y<;>simp [AS.ev,h]
 unfold G7;rw [this]
theorem J3 {s:AS} {dst:Option Nat} {x:AV} {os:Zz}:(s.put dst x os).objs=os:=by cases dst<;>rfl
theorem yO {s:AS} {a b:Option Nat} {x y:AV} {p q r u:Zz} (h:∀ d,a=some d→b≠some d):((s.put a x p).put b y q).tmps=((s.put b y r).put a x u).tmps:=by
 cases a with
 | none=>cases b<;>rfl
 | some d =>
  cases b with
  | none=>rfl
  | some e =>
   have Gk:d≠e:=fun he=>h d rfl (he▸rfl);simp [AS.put,List.set_comm _ _ Gk]
theorem eO.same (hC:C.dp=1) {ops:List Oper} {i:Nat} {fp:List Nat} {ro:Bool} {s s' t:AS} (h:eO C ops i fp ro s t) (e:s.same s'):∃ t',eO C ops i fp ro s' t'∧t.same t':=by
 obtain ⟨o,ho,h⟩:=h;rcases h with h|⟨hg,oP,Cz,c,x,os,h1,hc,rfl⟩|⟨hg,Cz,bc,x,rs,hb,oP,rfl⟩
 rotate_right
 ·have kP:∀ y∈Qt o.op,∀ hint,s'.ev C hint y=s.ev C hint y:=fun y _ hint=>by cases y<;>simp [AS.ev,e.1]
  obtain ⟨b1,b2,b3⟩:=hb.move kP (fun k _=>e.2 k);refine ⟨s'.put o.dst (bc.rvr rs x) (Xn rs rs (bc.post x) s'.objs),⟨o,ho,.inr (.inr ⟨?_,Cz,bc,x,rs,b1,oP,rfl⟩)⟩,?_,fun k=>?_⟩
  ·cases Mf:o.guard with
   | none=>trivial
   | some jw =>
    obtain ⟨j,want⟩:=jw;simp only [Mf] at hg ⊢;rw [←Bq e.1];exact hg
  ·cases o.dst<;>simp [AS.put,e.1]
  ·rw [J3,J3];by_cases hk:Yg (rs.map (· % 4096)) k
   ·exact b2 k hk
   ·rw [(b3 k hk).1,(b3 k hk).2];exact e.2 k
 ·cases Mf:o.guard with
  | none=>simp only [Mf] at h
  | some jw =>
   obtain ⟨j,want⟩:=jw;simp only [Mf] at h;obtain ⟨h1,h3,h4,rfl⟩:=h;refine ⟨s'.put o.dst (.d (.tup [])) s'.objs,⟨o,ho,.inl ?_⟩,?_⟩
   ·simp only [Mf];exact ⟨by rw [←Bq e.1];exact h1,h3,h4,trivial⟩
   ·refine ⟨?_,fun k=>?_⟩
    ·cases o.dst<;>simp [AS.put,e.1]
    ·rw [J3,J3];exact e.2 k
 ·have h1':Va C o ⟨s.tmps,s.objs⟩=some (c,x,os):=h1;obtain ⟨os',k1,k2,k3⟩:=bV hC o s s.objs s'.objs c x os (fun k _=>e.2 k) h1';have k1':Va C o s'=some (c,x,os'):=by
   have:s'=⟨s.tmps,s'.objs⟩:=by cases s';simp only [AS.mk.injEq,and_true];exact e.1.symm
   rw [this];exact k1
  refine ⟨s'.put o.dst x os',⟨o,ho,.inr (.inl ⟨?_,by rw [←wQ e.1];exact oP,Cz,c,x,os',k1',hc,rfl⟩)⟩,?_,fun k=>?_⟩
  ·cases Mf:o.guard with
   | none=>trivial
   | some jw =>
    obtain ⟨j,want⟩:=jw;simp only [Mf] at hg ⊢;rw [←Bq e.1];exact hg
  ·cases o.dst<;>simp [AS.put,e.1]
  ·rw [J3,J3];by_cases hk:Yg (G7 C o s) k
   ·exact k2 k hk
   ·rw [(k3 k hk).1,(k3 k hk).2];exact e.2 k
theorem Tr.same (hC:C.dp=1) {ops:List Oper} {l:List (Nat×List Nat×Bool)} {s s' t:AS} (h:Tr C ops l s t) (e:s.same s'):∃ t',Tr C ops l s' t'∧t.same t':=by
 induction h generalizing s' with
 | nil s=>exact ⟨s',.nil s',e⟩
 | cons h _ ih =>
  obtain ⟨t1,k1,k2⟩:=h.same hC e;obtain ⟨t2,j1,j2⟩:=ih k2;exact ⟨t2,.cons k1 j1,j2⟩
def tO (ops:List Oper) (a b:Nat×List Nat×Bool):Prop:=(∀ x y,ops[a.1]?=some x→ops[b.1]?=some y→Nl ops x y=true)∧((∀ k,k∈a.2.1→k∉b.2.1)∨(a.2.2=true∧b.2.2=true))
theorem Oi {ops:List Oper} {x y:Oper} (h:Nl ops x y=true) :
  (∀ d,x.dst=some d→d∉I3 ops y)∧(∀ d,x.dst=some d→y.dst≠some d)∧(∀ d,y.dst=some d→d∉I3 ops x):=by
 refine ⟨fun d hd=>?_,fun d hd=>?_,fun d hd=>?_⟩<;>simp [Nl,hd] at h
 ·exact h.1.1
 ·exact h.1.2
 ·exact h.2
def iL (C:Ctx) (ops:List Oper) (o:Oper) (fp:List Nat) (ro:Bool) (s:AS) (x:AV) (os:Zz):Prop :=
 (match o.guard with
  | none=>False
  | some (j,want)=>(Jp ops s j).skips want∧fp=[]∧ro=true∧x=.d (.tup [])∧os=s.objs) ∨
 ((match o.guard with
  | none=>True
  | some (j,want)=>(Jp ops s j).runs want)∧fp=G7 C o s∧ro=M4 o.op∧∃ c,Va C o s=some (c,x,os)∧c) ∨
 ((match o.guard with
  | none=>True
  | some (j,want)=>(Jp ops s j).runs want)∧ro=false∧∃ (bc:BCon) (q:bc.X) (rs:List Nat),oG C o s bc q rs∧fp=rs.map (· % 4096)∧x=bc.rvr rs q∧os=Xn rs rs (bc.post q) s.objs)
theorem Eu {ops:List Oper} {i:Nat} {fp:List Nat} {ro:Bool} {s t:AS}:eO C ops i fp ro s t↔∃ o x os,ops[i]?=some o∧iL C ops o fp ro s x os∧t=s.put o.dst x os:=by
 constructor
 ·rintro ⟨o,ho,h⟩;rcases h with h|⟨hg,oP,Cz,c,x,os,h1,hc,rfl⟩|⟨hg,Cz,bc,x,rs,hb,oP,rfl⟩
  rotate_right
  ·exact ⟨o,bc.rvr rs x,Xn rs rs (bc.post x) s.objs,ho,.inr (.inr ⟨hg,Cz,bc,x,rs,hb,oP,rfl,rfl⟩),rfl⟩
  ·refine ⟨o,.d (.tup []),s.objs,ho,.inl ?_,?_⟩
   ·cases Mf:o.guard with
    | none=>simp only [Mf] at h
    | some jw=>simp only [Mf] at h ⊢;obtain ⟨h1,h3,h4,_⟩:=h;exact ⟨h1,h3,h4,trivial,trivial⟩
   ·cases Mf:o.guard with
    | none=>simp only [Mf] at h
    | some jw=>simp only [Mf] at h;exact h.2.2.2
  ·exact ⟨o,x,os,ho,.inr (.inl ⟨hg,oP,Cz,c,h1,hc⟩),rfl⟩
 ·rintro ⟨o,x,os,ho,h,rfl⟩;refine ⟨o,ho,?_⟩;rcases h with h|⟨hg,oP,Cz,c,h1,hc⟩|⟨hg,Cz,bc,q,rs,hb,oP,rfl,rfl⟩
  ·refine .inl ?_;cases Mf:o.guard with
   | none=>simp only [Mf] at h
   | some jw=>simp only [Mf] at h ⊢;obtain ⟨h1,h3,h4,rfl,rfl⟩:=h;exact ⟨h1,h3,h4,rfl⟩
  ·exact .inr (.inl ⟨hg,oP,Cz,c,x,os,h1,hc,rfl⟩)
  ·exact .inr (.inr ⟨hg,Cz,bc,q,rs,hb,oP,rfl⟩)
theorem iL.move (hC:C.dp=1) {ops:List Oper} {o:Oper} {fp:List Nat} {ro:Bool} {s:AS} {x:AV} {os:Zz} (h:iL C ops o fp ro s x os) {s':AS}
  (hg:∀ j want,o.guard=some (j,want)→Jp ops s' j=Jp ops s j) (hf:G7 C o s'=G7 C o s) (Qv:∀ y∈Qt o.op,∀ hint,s'.ev C hint y=s.ev C hint y)
  (ho:∀ k,Yg fp k→lk s.objs k=lk s'.objs k):∃ os',iL C ops o fp ro s' x os'∧(∀ k,Yg fp k→lk os k=lk os' k)∧(∀ k,¬ Yg fp k→lk os k=lk s.objs k∧lk os' k=lk s'.objs k):=by
 rcases h with h|⟨Mf,oP,Cz,c,h1,hc⟩|⟨Mf,Cz,bc,q,rs,hb,oP,rfl,rfl⟩
 rotate_right
 ·subst oP;obtain ⟨b1,b2,b3⟩:=hb.move Qv ho;refine ⟨Xn rs rs (bc.post q) s'.objs,.inr (.inr ⟨?_,Cz,bc,q,rs,b1,rfl,rfl,rfl⟩),b2,b3⟩;cases hgd':o.guard with
  | none=>trivial
  | some jw =>
   obtain ⟨j,want⟩:=jw;simp only [hgd'] at Mf ⊢;rw [hg j want hgd'];exact Mf
 ·cases Mf:o.guard with
  | none=>simp only [Mf] at h
  | some jw =>
   obtain ⟨j,want⟩:=jw;simp only [Mf] at h;obtain ⟨h1,h3,h4,rfl,rfl⟩:=h;refine ⟨s'.objs,.inl ?_,fun k hk=>ho k hk,fun k _=>⟨rfl,rfl⟩⟩;simp only [Mf];exact ⟨by rw [hg j want Mf];exact h1,h3,h4,trivial,trivial⟩
 ·subst oP;obtain ⟨os',k1,k2,k3⟩:=bV hC o s s.objs s'.objs c x os ho h1;refine ⟨os',.inr (.inl ⟨?_,hf.symm,Cz,c,?_,hc⟩),k2,k3⟩
  ·cases hgd':o.guard with
   | none=>trivial
   | some jw =>
    obtain ⟨j,want⟩:=jw;simp only [hgd'] at Mf ⊢;rw [hg j want hgd'];exact Mf
  ·rw [←k1];exact jE rfl (fun y hy hint=>by rw [Qv y hy hint];cases y<;>rfl)
theorem iL.ro {ops:List Oper} {o:Oper} {fp:List Nat} {s:AS} {x:AV} {os:Zz} (h:iL C ops o fp true s x os):os=s.objs:=by
 rcases h with h|⟨_,_,Cz,c,h1,_⟩|⟨_,Cz,_⟩
 ·cases Mf:o.guard with
  | none=>simp only [Mf] at h
  | some jw=>simp only [Mf] at h;obtain ⟨h1,h3,h4,rfl,rfl⟩:=h;rfl
 ·exact vQ Cz.symm h1
 ·cases Cz
theorem uH (hC:C.dp=1) {ops:List Oper} {a b:Nat×List Nat×Bool} {s t u:AS} (h1:eO C ops a.1 a.2.1 a.2.2 s t) (h2:eO C ops b.1 b.2.1 b.2.2 t u) (hi:tO ops a b) :
  ∃ t' u',eO C ops b.1 b.2.1 b.2.2 s t'∧eO C ops a.1 a.2.1 a.2.2 t' u'∧u.same u':=by
 obtain ⟨oa,xa,osa,Zxv,fa,rfl⟩:=Eu.1 h1;obtain ⟨ob,xb,osb,X3,fb,rfl⟩:=Eu.1 h2;obtain ⟨s1,s2,s3⟩:=Oi (hi.1 oa ob Zxv X3);have key:∀ k,Yg b.2.1 k→lk (s.put oa.dst xa osa).objs k=lk s.objs k:=by
  intro k hk;rw [J3];rcases hi.2 with hd|⟨hr,_⟩
  ·have:¬ Yg a.2.1 k:=fun uZ=>hd _ uZ hk;obtain ⟨_,q1,q2,q3⟩:=fa.move hC (s':=s) (fun _ _ _=>rfl) rfl (fun _ _ _=>rfl) (fun _ _=>rfl);exact (q3 k this).1
  ·rw [hr] at fa;rw [fa.ro]
 obtain ⟨osb',fb',e1,e2⟩:=fb.move hC (s':=s) (fun j want hg=>(fH hg s1).symm) (nA s1).symm (fun y hy hint=>(pI (fun d hd=>D3 (s1 d hd) y hy)).symm) key;have key2:∀ k,Yg a.2.1 k→lk s.objs k=lk (s.put ob.dst xb osb').objs k:=by
  intro k hk;rw [J3];rcases hi.2 with hd|⟨_,hr⟩
  ·have:¬ Yg b.2.1 k:=fun Zcx=>hd _ hk Zcx;exact (e2 k this).2.symm
  ·rw [hr] at fb';rw [fb'.ro]
 obtain ⟨osa',fa',g1,g2⟩:=fa.move hC (s':=s.put ob.dst xb osb') (fun j want hg=>fH hg s3) (nA s3) (fun y hy hint=>pI (fun d hd=>D3 (s3 d hd) y hy)) key2;refine ⟨s.put ob.dst xb osb',(s.put ob.dst xb osb').put oa.dst xa osa',Eu.2 ⟨ob,xb,osb',X3,fb',rfl⟩,Eu.2 ⟨oa,xa,osa',Zxv,fa',rfl⟩,yO s2,fun k=>?_⟩;simp only [J3] at e1 e2 g1 g2 key key2 ⊢;rcases hi.2 with hd|⟨Zso,Zyt⟩
 ·by_cases uZ:Yg a.2.1 k
  ·have Zcx:¬ Yg b.2.1 k:=fun Zcx=>hd _ uZ Zcx;rw [(e2 k Zcx).1,g1 k uZ]
  ·rw [(g2 k uZ).2];by_cases Zcx:Yg b.2.1 k
   ·exact e1 k Zcx
   ·rw [(e2 k Zcx).1,(e2 k Zcx).2,(g2 k uZ).1]
 ·rw [Zso] at fa fa';rw [Zyt] at fb fb';rw [fb.ro,J3,fa.ro,fa'.ro,J3,fb'.ro]
theorem Tr.first (hC:C.dp=1) {ops:List Oper} {i:Nat×List Nat×Bool}:∀ {l1 l2:List (Nat×List Nat×Bool)} {s t:AS},Tr C ops (l1++i::l2) s t→(∀ k∈l1,tO ops k i) →
  ∃ s1 t',eO C ops i.1 i.2.1 i.2.2 s s1∧Tr C ops (l1++l2) s1 t'∧t.same t'
 | [],l2,s,t,h,_=>by
  simp only [List.nil_append] at h ⊢;cases h with
  | cons h k=>exact ⟨_,t,h,k,AS.same.refl t⟩
 | (k,fk,rk)::l1,l2,s,t,h,hi=>by
  simp only [List.cons_append] at h;cases h with
  | cons h1 h2 =>
   obtain ⟨u1,t',k1,k2,k3⟩:=Tr.first hC h2 (fun q hq=>hi q (List.mem_cons_of_mem _ hq));obtain ⟨s1,u',j1,j2,j3⟩:=uH hC (a:=(k,fk,rk)) (b:=i) h1 k1 (hi _ (by simp))
   obtain ⟨t'',q1,q2⟩:=k2.same hC j3;exact ⟨s1,t'',j1,.cons j2 q1,k3.trans q2⟩
end
end Go.Am
