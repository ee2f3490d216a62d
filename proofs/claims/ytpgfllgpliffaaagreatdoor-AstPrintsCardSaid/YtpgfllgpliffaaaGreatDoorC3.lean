/- Contracts of functions that the law reaches, and plain laws. Conditions: those that each contract states. -/
import Derived.Test.YtpgfllgpliffaaaGreatDoorC2
import Derived.Deep.LoopGhost
import Derived.Laws.BytesArg
import Derived.Orders
set_option maxHeartbeats 400000
set_option linter.unusedVariables false
set_option linter.unusedSimpArgs false
variable {p:Prop}
namespace Go.Am
open Go.RowKit (Below)
def kA (F:Fix) (s:Nat) (l:List D) (v:Value):Prop :=
 (v=.slice none 0 0∧l=[])∨∃ (b cap:Nat) (cs:Array Value) (t:TypeId),v=.slice (some ⟨b,0,none⟩) l.length cap∧l.length≤cap∧cap≤maxLen ∧
  F.w.heap[b]?=some (.cells cs t (0,0))∧cs.size=cap*s∧RE F s l (cs.toList.take (l.length*s))∧F.m b=0∧0<s
def kD (F:Fix):CV→Value→Prop
 | .d x,v=>R F x v
 | .own s l,v=>kA F s l v
 | .tup _,_=>False
def Yk (F:Fix):List CV→List Value→Prop
 | [],vs=>vs=[]
 | x::l,vs=>∃ v r,vs=v::r∧kD F x v∧Yk F l r
def Qr:List CV→List Value→List Nat
 | .own _ _::l,v::vs=>v.ownBlock.toList++Qr l vs
 | _::l,_::vs=>Qr l vs
 | _,_=>[]
def rA (F:Fix) (base:Nat) (pass:Nat→Prop):CV→Value→Prop
 | .tup l,v=>∃ cs:List Value,v=.tuple cs.toArray∧Yk F l cs∧(Qr l cs).Nodup∧∀ b∈Qr l cs,base≤b∨pass b
 | x,v=>Yk F [x] [v]∧∀ b∈Qr [x] [v],base≤b∨pass b
def Zhs (P:Program) (f:FuncId) (con:Con):Prop :=
 ∀ (m:Nat→Nat) (w:World) (J0:List CV) (vs:List Value),con.pre J0→Yk ⟨w,m⟩ J0 vs→(Qr J0 vs).Nodup→(∀ b,w.heap.size≤b→m b=0)→Glob w.heap.size (·∈Qr J0 vs) w →
  Calls P f vs.toArray w fun e w'=>∃ v m',e=.returned v∧Frame w.heap.size (·∈Qr J0 vs) w w'∧(∀ b,b<w.heap.size→b∉Qr J0 vs→m' b=m b)∧(∀ b,w'.heap.size≤b→m' b=0) ∧
   rA ⟨w',m'⟩ w.heap.size (·∈Qr J0 vs) (con.fn J0) v
def Mm (P:Program) (f:FuncId):Prop:=∀ (args:Array Value) (w:World),(callFunc f args).run P w=.ok (.enter f args) w
def Jv:Nat→List Obj→Z5
 | _,[]=>[]
 | n,o::l=>(n,o)::Jv (n+1) l
def Zq (l:List Obj):Z5:=Jv 90000 l
def Obj.tied (o:Z5):Obj→Prop
 | .box _ cells=>keptAll o cells
 | .hole ..=>False
 | _=>True
def Jp (o:Z5):List Obj→Prop
 | []=>True
 | x::l=>x.tied o∧Jp o l
def Zr:List Obj→Prop
 | []=>True
 | .row _ _ k::l=>k=0∧Zr l
 | .mp _ _ f::l=>f=false∧Zr l
 | _::l=>Zr l
def Xg (args:List AV) (l:List Obj):Prop:=keptAll (Zq l) args∧Jp (Zq l) l
def Hq (G:Gh) (l:List Obj) (b:Nat):Prop:=∃ i o,lk (Zq l) i=some o∧o.owns=true∧G.γ i=some b
def yR (P:Program) (f:FuncId) (bc:BCon):Prop:=∀ x,bc.ok x→Xg (bc.args x) (bc.objs x)∧Zr (bc.objs x)∧Xg [] (bc.post x)∧(bc.objs x).length≤(bc.post x).length ∧
 ∀ (m:Nat→Nat) (w:World) (G:Gh) (vs:List Value),SRg w.heap.size (Hq G (bc.objs x)) ⟨⟨w,m⟩,G,lk (Zq (bc.objs x))⟩ m G ⟨bc.args x,Zq (bc.objs x)⟩ ⟨vs.toArray,[]⟩ w →
  Calls P f vs.toArray w fun e w'=>∃ v m' G',e=.returned v∧RA ⟨w',m'⟩ G' (lk (Zq (bc.post x))) (bc.rv x) v∧SRg w.heap.size (Hq G (bc.objs x)) ⟨⟨w,m⟩,G,lk (Zq (bc.objs x))⟩ m' G' ⟨[],Zq (bc.post x)⟩ ⟨#[],[]⟩ w'
def Mf (P:Program) (C:Ctx):Prop:=Xy P C.τ∧(∀ f con,C.Γ f=some con→Mm P f∧Zhs P f con)∧P.follows .mixedOrders=true∧∀ f bc,C.Δ f=some bc→Mm P f∧yR P f bc
section
variable {P:Program} {C:Ctx} {G:Gh}
variable {base:Nat} {pass:Nat→Prop} {F0:Anc} {m:Nat→Nat} {st:AS} {a:Act} {w:World}
theorem kA.lt {F:Fix} {s:Nat} {l:List D} {v:Value} (h:kA F s l v) {b:Nat} (hb:v.ownBlock=some b):b<F.w.heap.size∧F.m b=0:=by
 rcases h with ⟨rfl,_⟩|⟨b',cap,cs,t,rfl,_,_,h3,_,_,h6,_⟩
 ·simp [Value.ownBlock] at hb
 ·simp [Value.ownBlock] at hb;subst hb;refine ⟨?_,h6⟩;rcases Nat.lt_or_ge b' F.w.heap.size with Qg|Pj
  ·exact Qg
  ·rw [Array.getElem?_eq_none Pj] at h3;cases h3
theorem SRg.behind (h:SRg base pass F0 m G st a w) {m':Nat→Nat} {w':World} (S:List Nat) (hf:Frame w.heap.size (·∈S) w w') (hm:∀ b,b<w.heap.size→b∉S→m' b=m b) (Vm:∀ b,w'.heap.size≤b→m' b=0)
  (hS:∀ b∈S,m b=0∧(base≤b∨pass b)∧∀ i oi,lk st.objs i=some oi→oi.owns=true→G.γ i≠some b) :
  Fix.le ⟨w,m⟩ ⟨w',m'⟩∧SRg base pass F0 m' G st a w':=by
 have hF:Fix.le ⟨w,m⟩ ⟨w',m'⟩:=by
  refine ⟨fun b=>?_,fun b es c Zh8 Gd=>?_⟩;rotate_left
  ·have Zed:b∉S:=fun Zed=>by
    have:=(hS b Zed).1;simp only at Zh8;omega
   rcases Nat.lt_or_ge b w.heap.size with Qg|Pj
   ·rw [hf.block b Qg Zed];exact Gd
   ·have:=h.new b Pj;simp only at Zh8;omega
  by_cases Zed:b∈S
  ·have:=(hS b Zed).1;exact ⟨by simp only [this];exact Nat.zero_le _,fun off ho=>by simp only [this] at ho;omega⟩
  ·rcases Nat.lt_or_ge b w.heap.size with Qg|Pj
   ·exact ⟨by simp only;rw [hm b Qg Zed];exact Zl _,fun off _=>World.cell?_of_block (a:=⟨b,off,none⟩) (hf.block b Qg Zed)⟩
   ·have:=h.new b Pj;exact ⟨by simp only;omega,fun off ho=>by simp only at ho;omega⟩
 refine ⟨hF,?_⟩;constructor
 ·exact h.defers
 ·exact RAs.mono hF (Yo.refl _ _) h.tmps
 ·intro i o hi;refine Qf.mono hF (Yo.refl _ _) rfl rfl (fun ho b Gd=>?_) (h.objs i o hi);have Qg:=(h.mine i o b hi ho Gd).1;have Qgs:b∉S:=fun Zed=>(hS b Zed).2.2 i o hi ho Gd;exact ⟨hf.block b Qg Qgs,hm b Qg Qgs⟩
 ·exact h.apart
 ·intro i o b hi ho Gd;obtain ⟨q1,q2⟩:=h.mine i o b hi ho Gd;exact ⟨Nat.lt_of_lt_of_le q1 hf.size,q2⟩
 ·refine h.frame.trans ⟨hf.os,hf.tape,hf.output,hf.size,fun b Gd hp=>hf.block b (Nat.lt_of_lt_of_le Gd h.small) (fun Zed=>?_)⟩;rcases (hS b Zed).2.1 with h1|h1
  ·omega
  ·exact hp h1
 ·intro b Gd hp;refine (hm b (Nat.lt_of_lt_of_le Gd h.small) (fun Zed=>?_)).trans (h.old b Gd hp);rcases (hS b Zed).2.1 with h1|h1
  ·omega
  ·exact hp h1
 ·exact Vm
 ·exact Nat.le_trans h.small hf.size
 ·exact h.lent
theorem SRg.adopt (h:SRg base pass F0 m G st a w) {k s:Nat} {l:List D} {v:Value} (hk:lk st.objs k=none) (hv:kA ⟨w,m⟩ s l v)
  (hb:∀ b,v.ownBlock=some b→(base≤b∨pass b)∧∀ i oi,lk st.objs i=some oi→oi.owns=true→G.γ i≠some b) :
  ∃ G',Yo G (lk st.objs) G' (lk (upd st.objs k (.row s l 0)))∧SRg base pass F0 m G' ⟨st.tmps,upd st.objs k (.row s l 0)⟩ a w∧RA ⟨w,m⟩ G' (lk (upd st.objs k (.row s l 0))) (.sl k l.length) v ∧
   (∀ j,j≠k→G'.γ j=G.γ j)∧(∀ b,G'.γ k=some b→v.ownBlock=some b):=by
 have Qg:=fun b Gd=>hv.lt (b:=b) Gd;have Qeh:v.oneCell'=true:=by
  rcases hv with ⟨rfl,_⟩|⟨_,_,_,_,rfl,_⟩<;>rfl
 obtain ⟨q1,q2⟩:=h.obj k (.row s l 0) (w':=w) (m':=m) (G':=⟨fun j=>if j=k then v.ownBlock else G.γ j,fun j=>if j=k then v else G.hd j⟩) (Fix.le_refl _)
  (fun j hj=>by simp [hj]) (fun o ho=>by rw [hk] at ho;cases ho) (fun _=>by
   simp only [Qf];rcases hv with ⟨rfl,rfl⟩|⟨b,cap,cs,t,rfl,h1,h2,h3,h4,h5,h6,_⟩
   ·exact .inl (by simp [Value.ownBlock])
   ·exact .inr ⟨b,cap,cs,t,by simp [Value.ownBlock],by simp,h1,h2,h3,h4,h5,by rw [Nat.zero_mul];exact h6,Nat.zero_le _⟩)
  (fun _ _ _ _ _ _ _=>⟨rfl,rfl⟩) (fun _ b Gd=>by
   simp only [if_true] at Gd;obtain ⟨g1,g2⟩:=hb b Gd;exact ⟨(Qg b Gd).1,g1,fun j o _ hj ho=>g2 j o hj ho⟩)
  (Frame.refl _ _ _) (fun _ _ _=>rfl) h.new
 refine ⟨_,q1,q2,?_,fun j hj=>by simp [hj],fun b Gd=>by simpa using Gd⟩
 simp only [RA,J2,if_true];exact ⟨Qeh,Zl _,fun _=>trivial⟩
theorem R4 {F:Fix} {s:Nat}:kA F s [] (.slice none 0 0):=.inl ⟨rfl,rfl⟩
theorem kA.mono {F F':Fix} {s:Nat} {l:List D} {v:Value} (h:F.le F') (hb:∀ b,v.ownBlock=some b→F'.w.heap[b]?=F.w.heap[b]?∧F'.m b=F.m b) (hv:kA F s l v):kA F' s l v:=by
 rcases hv with h1|⟨b,cap,cs,t,rfl,h1,h2,h3,h4,h5,h6,h7⟩
 ·exact .inl h1
 ·obtain ⟨q1,q2⟩:=hb b (by simp [Value.ownBlock])
  exact .inr ⟨b,cap,cs,t,rfl,h1,h2,by rw [q1];exact h3,h4,RE.mono h h5,by rw [q2];exact h6,h7⟩
theorem I5:∀ {ms:List Bool} {xs:List AV} {c:Prop} {J0:List CV} {os:Z5} {st:AS} {m:Nat→Nat} {vs:List Value},SRg base pass F0 m G st a w→Yj C ms xs st.objs=some (c,J0,os)→c →
  RAs ⟨w,m⟩ G (lk st.objs) xs vs→∃ m',SRg base pass F0 m' G ⟨st.tmps,os⟩ a w∧PurOk G st.objs os ⟨w,m⟩ ⟨w,m'⟩∧Yk ⟨w,m'⟩ J0 vs∧(Qr J0 vs).Nodup ∧
   ∀ b∈Qr J0 vs,(base≤b∨pass b)∧(∃ i oi,lk st.objs i=some oi∧oi.owns=true∧G.γ i=some b)∧∀ i oi,lk os i=some oi→oi.owns=true→G.γ i≠some b:=by
 intro ms xs
 induction xs generalizing ms with
 | nil =>
  intro c J0 os st m vs h hi hc hr;have hi':some (True,([]:List CV),st.objs)=some (c,J0,os):=by cases ms<;>simpa [Yj] using hi
  simp only [Zc,Zf] at hi';obtain ⟨rfl,rfl,rfl⟩:=hi';simp only [RAs] at hr;subst hr;exact ⟨m,h,PurOk.refl _ _ _,by simp [Yk],by simp [Qr],by simp [Qr]⟩
 | cons x xs ih =>
  intro c J0 os st m vs h hi hc hr;simp only [RAs] at hr;obtain ⟨v,r,rfl,hx,Aw⟩:=hr;have datum:∀ {ms':List Bool} {c1 c2:Prop} {y:D} {o1:Z5} {l:List CV},pur C.dp x st.objs=some (c1,y,o1)→Yj C ms' xs o1=some (c2,l,os)→c1∧c2 →
    ∃ m',SRg base pass F0 m' G ⟨st.tmps,os⟩ a w∧PurOk G st.objs os ⟨w,m⟩ ⟨w,m'⟩∧Yk ⟨w,m'⟩ (.d y::l) (v::r)∧(Qr (.d y::l) (v::r)).Nodup ∧
     ∀ b∈Qr (.d y::l) (v::r),(base≤b∨pass b)∧(∃ i oi,lk st.objs i=some oi∧oi.owns=true∧G.γ i=some b)∧∀ i oi,lk os i=some oi→oi.owns=true→G.γ i≠some b:=by
   intro ms' c1 c2 y o1 l hp Zyp Qc0;obtain ⟨m1,k1,k2,k3⟩:=pur_sound' h hp Qc0.1 hx;obtain ⟨m2,j1,j2,j3,j4,j5⟩:=ih (st:=⟨st.tmps,o1⟩) k1 Zyp Qc0.2 (RAs.mono k2.le k2.goes Aw);refine ⟨m2,j1,k2.trans j2,?_,by simpa [Qr] using j4,fun b hb=>?_⟩
   ·simp only [Yk,kD];exact ⟨v,r,rfl,k3.mono j2.le,j3⟩
   ·obtain ⟨q1,⟨i,oi,q2,q3,q4⟩,q5⟩:=j5 b (by simpa [Qr] using hb)
    obtain ⟨oj,p1,p2⟩:=k2.sub i oi q2 q3;exact ⟨q1,⟨i,oj,p1,p2,q4⟩,q5⟩
  cases ms with
  | nil=>simp [Yj] at hi
  | cons b0 ms =>
   cases b0 with
   | false =>
    simp only [Yj] at hi;split at hi
    ·next c1 y o1 hp =>
     split at hi
     ·next c2 l o2 hi3 =>
      simp only [Zc,Zf] at hi;obtain ⟨rfl,rfl,rfl⟩:=hi;exact datum hp hi3 hc
     ·cases hi
    ·cases hi
   | true =>
    cases x with
    | sl i n =>
     simp only [Yj] at hi;split at hi
     ·next s els k hl =>
      split at hi
      ·next c2 l o2 Zyp =>
       simp only [Zc,Zf] at hi;obtain ⟨rfl,rfl,rfl⟩:=hi;obtain ⟨oH,hn,V7,oF⟩:=hc;subst V7;simp only [RA,hl] at hx;have hv:=hx.2.2 hn;have X5:=h.objs i _ hl;simp only [Qf] at X5;obtain ⟨q1,q2⟩:=h.obj i .gone (w':=w) (m':=m) (G':=G) (Fix.le_refl _) (fun _ _=>⟨rfl,rfl⟩) (fun o ho=>⟨by simp [Obj.isBox],by simp⟩) (fun _=>trivial)
        (fun _ _ _ _ _ _ _=>⟨rfl,rfl⟩) (fun ho=>by simp [Obj.owns] at ho) (Frame.refl _ _ _) (fun _ _ _=>rfl) h.new
       have pk:PurOk G st.objs (upd st.objs i .gone) ⟨w,m⟩ ⟨w,m⟩:=⟨Fix.le_refl _,q1,fK hl rfl,fun _ _=>rfl⟩;obtain ⟨m2,j1,j2,j3,j4,j5⟩:=ih (st:=⟨st.tmps,upd st.objs i .gone⟩) q2 Zyp oH (RAs.mono (Fix.le_refl _) q1 Aw);have free:∀ b,G.γ i=some b→∀ j oj,lk (upd st.objs i .gone) j=some oj→oj.owns=true→G.γ j≠some b:=by
        intro b hb j oj hj C2 Cr;rw [J2] at hj;by_cases V8:j=i
        ·subst V8;rw [if_pos rfl] at hj;injection hj with hj
         subst hj;simp [Obj.owns] at C2
        ·rw [if_neg V8] at hj;exact V8 (h.apart j i oj _ b hj hl C2 rfl Cr hb)
       have free2:∀ b,G.γ i=some b→∀ j oj,lk o2 j=some oj→oj.owns=true→G.γ j≠some b:=by
        intro b hb j oj hj C2;obtain ⟨ok,p1,p2⟩:=j2.sub j oj hj C2;exact free b hb j ok p1 p2
       rcases X5 with ⟨h1,h2,rfl,_⟩|⟨b,cap,cs,t,h1,h2,h3,h4,h5,h6,h7,h8,h9⟩
       ·rw [h2] at hv;subst hv;refine ⟨m2,j1,pk.trans j2,?_,by simpa [Qr,Value.ownBlock] using j4,fun b hb=>?_⟩
        ·simp only [Yk,kD];exact ⟨_,r,rfl,R4,j3⟩
        ·obtain ⟨p1,⟨i',oi,p2,p3,p4⟩,p5⟩:=j5 b (by simpa [Qr,Value.ownBlock] using hb)
         obtain ⟨oj,u1,u2⟩:=pk.sub i' oi p2 p3;exact ⟨p1,⟨i',oj,u1,u2,p4⟩,p5⟩
       ·rw [h2] at hv;subst hv;have Sv:m2 b=m b:=j2.same b (fun j oj hj C2=>free b h1 j oj hj C2);have vD:kA ⟨w,m2⟩ s els (.slice (some ⟨b,0,none⟩) els.length cap):=.inr ⟨b,cap,cs,t,rfl,h3,h4,h5,h6,RE.mono j2.le h7,by simp only [Sv];simpa using h8,oF⟩
        have eK:=h.mine i _ b hl rfl h1;refine ⟨m2,j1,pk.trans j2,?_,?_,fun b' hb'=>?_⟩
        ·simp only [Yk,kD];exact ⟨_,r,rfl,vD,j3⟩
        ·simp only [Qr,Value.ownBlock,Option.toList,List.singleton_append,List.nodup_cons];refine ⟨fun Cn=>?_,j4⟩;obtain ⟨_,⟨i',oi,p2,p3,p4⟩,_⟩:=j5 b Cn;exact free b h1 i' oi p2 p3 p4
        ·simp only [Qr,Value.ownBlock,Option.toList,List.singleton_append,Z2] at hb';rcases hb' with rfl|hb'
         ·exact ⟨eK.2,⟨i,_,hl,rfl,h1⟩,free2 b' h1⟩
         ·obtain ⟨p1,⟨i',oi,p2,p3,p4⟩,p5⟩:=j5 b' hb';obtain ⟨oj,u1,u2⟩:=pk.sub i' oi p2 p3;exact ⟨p1,⟨i',oj,u1,u2,p4⟩,p5⟩
      ·cases hi
     ·cases hi
    | nils s =>
     simp only [Yj] at hi;split at hi
     ·next c2 l o2 Zyp =>
      simp only [Zc,Zf] at hi;obtain ⟨rfl,rfl,rfl⟩:=hi;simp only [RA] at hx;subst hx;obtain ⟨m2,j1,j2,j3,j4,j5⟩:=ih h Zyp hc Aw;refine ⟨m2,j1,j2,?_,by simpa [Qr,Value.ownBlock] using j4,fun b hb=>j5 b (by simpa [Qr,Value.ownBlock] using hb)⟩
      simp only [Yk,kD];exact ⟨_,r,rfl,R4,j3⟩
     ·cases hi
    | _=>simp [Yj] at hi
theorem Ik (h:SRg base pass F0 m G st a w) {k:Nat} {x:CV} {v:Value} {y:AV} {os:Z5} (hx:kD ⟨w,m⟩ x v) (hh:Nq k x st.objs=some (y,os))
  (hb:∀ b∈Qr [x] [v],(base≤b∨pass b)∧∀ i oi,lk st.objs i=some oi→oi.owns=true→G.γ i≠some b) :
  ∃ G',Yo G (lk st.objs) G' (lk os)∧SRg base pass F0 m G' ⟨st.tmps,os⟩ a w∧RA ⟨w,m⟩ G' (lk os) y v ∧
   ∀ i oi b,lk os i=some oi→oi.owns=true→G'.γ i=some b→(∃ oj,lk st.objs i=some oj∧oj.owns=true∧G.γ i=some b)∨b∈Qr [x] [v]:=by
 cases x with
 | d x =>
  simp only [Nq,Zc,Zf] at hh;obtain ⟨rfl,rfl⟩:=hh;exact ⟨G,Yo.refl _ _,h,by simpa only [RA,kD] using hx,fun i oi b hi ho hg=>.inl ⟨oi,hi,ho,hg⟩⟩
 | own s l =>
  simp only [Nq] at hh;split at hh
  ·next hk =>
   simp only [Zc,Zf] at hh;obtain ⟨rfl,rfl⟩:=hh;obtain ⟨G',q1,q2,q3,q4,q5⟩:=h.adopt hk hx (fun b Gd=>hb b (by simp [Qr,Gd]))
   refine ⟨G',q1,q2,q3,fun i oi b hi ho hg=>?_⟩;by_cases Zx3:i=k
   ·subst Zx3;exact .inr (by simp [Qr,q5 b hg])
   ·rw [J2,if_neg Zx3] at hi;rw [q4 i Zx3] at hg;exact .inl ⟨oi,hi,ho,hg⟩
  ·cases hh
 | tup l=>simp [Nq] at hh
theorem Im:∀ {l:List CV} {k:Nat} {ys:List AV} {vs:List Value} {os:Z5} {G:Gh} {st:AS},SRg base pass F0 m G st a w→Yk ⟨w,m⟩ l vs→Gy k l st.objs=some (ys,os)→(Qr l vs).Nodup →
  (∀ b∈Qr l vs,(base≤b∨pass b)∧∀ i oi,lk st.objs i=some oi→oi.owns=true→G.γ i≠some b) →
  ∃ G',Yo G (lk st.objs) G' (lk os)∧SRg base pass F0 m G' ⟨st.tmps,os⟩ a w∧RAs ⟨w,m⟩ G' (lk os) ys vs
 | [],k,ys,vs,os,G,st,h,hc,hh,_,_=>by
  simp only [Gy,Zc,Zf] at hh;obtain ⟨rfl,rfl⟩:=hh;simp only [Yk] at hc;exact ⟨G,Yo.refl _ _,h,by simpa only [RAs] using hc⟩
 | x::l,k,ys,vs,os,G,st,h,hc,hh,F9,hb=>by
  simp only [Yk] at hc;obtain ⟨v,r,rfl,hx,Aw⟩:=hc;simp only [Gy] at hh;split at hh
  ·next y o1 h1 =>
   split at hh
   ·next ys2 o2 h2 =>
    simp only [Zc,Zf] at hh;obtain ⟨rfl,rfl⟩:=hh;have Ax:Qr (x::l) (v::r)=Qr [x] [v]++Qr l r:=by cases x<;>simp [Qr]
    rw [Ax] at F9 hb;obtain ⟨n1,n2,n3⟩:=List.nodup_append.1 F9;obtain ⟨G1,q1,q2,q3,q4⟩:=Ik h hx h1 (fun b Gd=>hb b (List.mem_append_left _ Gd));obtain ⟨G2,p1,p2,p3⟩:=Im (st:=⟨st.tmps,o1⟩) q2 Aw h2 n2 (fun b Gd=>by
     refine ⟨(hb b (List.mem_append_right _ Gd)).1,fun i oi hi ho hg=>?_⟩;rcases q4 i oi b hi ho hg with ⟨oj,w1,w2,w3⟩|Cn
     ·exact (hb b (List.mem_append_right _ Gd)).2 i oj w1 w2 w3
     ·exact n3 b Cn b Gd rfl)
    refine ⟨G2,?_,p2,?_⟩
    ·exact Yo.trans q1 p1
    ·simp only [RAs];exact ⟨v,r,rfl,RA.mono (Fix.le_refl _) p1 q3,p3⟩
   ·cases hh
  ·cases hh
theorem Au (K:Mf P C) (h:SRg base pass F0 m G st a w) {f k:Nat} {xs:List AV} {vs:List Value} {c:Prop} {z:AV} {os:Z5} (hx:RAs ⟨w,m⟩ G (lk st.objs) xs vs)
  (hh:I7 C f xs k st.objs=some (c,z,os)) (hc:c) :
  Mm P f∧Calls P f vs.toArray w fun e w'=>∃ v m' G',e=.returned v∧SRg base pass F0 m' G' ⟨st.tmps,os⟩ a w'∧RA ⟨w',m'⟩ G' (lk os) z v:=by
 unfold I7 at hh;split at hh
 ·next con hcon =>
  split at hh
  ·next c1 J0 o1 aL =>
   split at hh
   ·next y o2 Wp =>
    simp only [Zc,Zf] at hh;obtain ⟨rfl,rfl,rfl⟩:=hh;obtain ⟨Et,Zxr⟩:=K.2.1 f con hcon;refine ⟨Et,?_⟩;obtain ⟨m1,k1,k2,k3,k4,k5⟩:=I5 h aL hc.1 hx;refine (Zxr m1 w J0 vs hc.2 k3 k4 k1.new (k1.frame.call k1.small (fun b hb=>(k5 b hb).1))).mono fun e w' hw=>?_;obtain ⟨v,m',rfl,g1,g2,g3,g4⟩:=hw;have hz:∀ b∈Qr J0 vs,m1 b=0:=by
     have:∀ (l:List CV) (us:List Value),Yk ⟨w,m1⟩ l us→∀ b∈Qr l us,m1 b=0:=by
      intro l
      induction l with
      | nil=>intro us hu b hb;simp [Qr] at hb
      | cons x l ih =>
       intro us hu b hb;simp only [Yk] at hu;obtain ⟨u,r,rfl,vM,Zxm⟩:=hu;have Ax:Qr (x::l) (u::r)=Qr [x] [u]++Qr l r:=by cases x<;>simp [Qr]
       rw [Ax] at hb;rcases List.mem_append.1 hb with hb|hb
       ·cases x with
        | own s els =>
         simp [Qr] at hb;exact (kA.lt vM hb).2
        | _=>simp [Qr] at hb
       ·exact ih r Zxm b hb
     exact this J0 vs k3
    obtain ⟨hF,hs⟩:=k1.behind (Qr J0 vs) g1 g2 g3 (fun b hb=>⟨hz b hb,(k5 b hb).1,(k5 b hb).2.2⟩);have Zvj:∀ b,w.heap.size≤b∨b∈Qr J0 vs→(base≤b∨pass b)∧∀ i oi,lk o1 i=some oi→oi.owns=true→G.γ i≠some b:=by
     intro b hb;rcases hb with hb|hb
     ·refine ⟨.inl (Nat.le_trans k1.small hb),fun i oi hi ho hg=>?_⟩;have:=(k1.mine i oi b hi ho hg).1;omega
     ·exact ⟨(k5 b hb).1,(k5 b hb).2.2⟩
    unfold Il at Wp;split at Wp
    ·next l Zib =>
     split at Wp
     ·next ys o3 J8 =>
      simp only [Zc,Zf] at Wp;obtain ⟨rfl,rfl⟩:=Wp;rw [Zib] at g4;simp only [rA] at g4;obtain ⟨cs,rfl,e1,e2,e3⟩:=g4;obtain ⟨G',p1,p2,p3⟩:=Im hs e1 J8 e2 (fun b hb=>Zvj b (e3 b hb));exact ⟨_,m',G',rfl,p2,sR p3⟩
     ·cases Wp
    ·next x hnt =>
     have g4':Yk ⟨w',m'⟩ [con.fn J0] [v]∧∀ b∈Qr [con.fn J0] [v],w.heap.size≤b∨b∈Qr J0 vs:=by
      revert g4;cases hq:con.fn J0 with
      | tup l=>exact absurd hq (hnt l)
      | _=>exact fun g=>g
     obtain ⟨e1,e2⟩:=g4';simp only [Yk] at e1;obtain ⟨v',r,ev,hv',_⟩:=e1;simp only [List.cons.injEq] at ev;rw [←ev.1] at hv';obtain ⟨G',p1,p2,p3,_⟩:=Ik hs hv' Wp (fun b hb=>Zvj b (e2 b hb));exact ⟨v,m',G',rfl,p2,p3⟩
   ·cases hh
  ·cases hh
 ·cases hh
end
theorem bA:∀ (l:List Obj) (n i:Nat),lk (Jv n l) i=if n≤i then l[i-n]? else none
 | [],n,i=>by simp [Jv,lk]
 | o::l,n,i=>by
  simp only [Jv,lk,bA l];by_cases h:i=n
  ·subst h;simp
  ·rw [if_neg h];by_cases h1:n≤i
   ·rw [if_pos (by omega),if_pos h1,show i-n=(i-(n+1))+1 by omega,List.getElem?_cons_succ]
   ·rw [if_neg (by omega),if_neg h1]
theorem Wq {l:List Obj} {i:Nat} {o:Obj} (h:lk (Zq l) i=some o):∃ j,i=90000+j∧l[j]?=some o:=by
 unfold Zq at h;rw [bA] at h;by_cases h1:90000≤i
 ·rw [if_pos h1] at h;exact ⟨i-90000,by omega,h⟩
 ·rw [if_neg h1] at h;cases h
theorem Uq {l:List Obj} {j:Nat} {o:Obj} (h:l[j]?=some o):lk (Zq l) (90000+j)=some o:=by
 unfold Zq;rw [bA,if_pos (by omega),show 90000+j-90000=j by omega]
 exact h
theorem Ps {rs:List Nat} {j k:Nat} (h:rs[j]?=some k):rk rs (90000+j)=k:=by
 unfold rk;rw [show 90000+j-90000=j by omega,Zk,h]
 rfl
theorem Ys {rs0:List Nat}:∀ {ks:List Nat} {l:List Obj} {o:Z5},Ze rs0 ks l o→∀ {j:Nat} {x:Obj},l[j]?=some x→∃ k,ks[j]?=some k∧lk o k=some (Q4 rs0 x)
 | _,[],_,_,j,x,hx=>by simp at hx
 | [],_::_,_,h,_,_,_=>h.elim
 | k::ks,y::l,o,h,j,x,hx=>by
  cases j with
  | zero=>simp at hx;subst hx;exact ⟨k,rfl,h.1⟩
  | succ j=>simp only [List.getElem?_cons_succ] at hx ⊢;exact Ys h.2 hx
theorem nH:∀ {ks:List Nat} {o:Z5},Zj ks o→∀ {k:Nat},k∈ks→lk o k=none
 | [],_,_,_,hk=>by simp at hk
 | k::ks,o,h,k',hk=>by
  rcases Z2.1 hk with rfl|hk
  ·exact h.1
  ·exact nH h.2 hk
theorem Ya {rs0:List Nat}:∀ {ks:List Nat} {l:List Obj} {o:Z5} {k:Nat},k∉ks→lk (Wl rs0 ks l o) k=lk o k
 | [],l,o,k,_=>by simp [Wl]
 | q::ks,[],o,k,_=>by simp [Wl]
 | q::ks,x::l,o,k,h=>by
  simp only [Z2,not_or] at h;simp only [Wl];rw [Ya h.2,J2,if_neg h.1]
theorem Sp {rs0:List Nat}:∀ {ks:List Nat} {l:List Obj} {o:Z5} {j k:Nat} {x:Obj},ks.Nodup→ks[j]?=some k→l[j]?=some x→lk (Wl rs0 ks l o) k=some (Q4 rs0 x)
 | [],_,_,_,_,_,_,h,_=>by simp at h
 | _::_,[],_,_,_,_,_,_,h=>by simp at h
 | q::ks,y::l,o,j,k,x,hn,hk,hx=>by
  obtain ⟨h1,h2⟩:=List.nodup_cons.1 hn;simp only [Wl];cases j with
  | zero =>
   simp at hk hx;subst hk;subst hx;rw [Ya h1,J2,if_pos rfl]
  | succ j =>
   simp only [List.getElem?_cons_succ] at hk hx;exact Sp h2 hk hx
theorem Pb (rs:List Nat) (o:Obj):(Q4 rs o).isBox=o.isBox:=by cases o<;>rfl
theorem Uj (rs:List Nat) (o:Obj):(Q4 rs o).owns=o.owns:=by cases o<;>rfl
theorem pJ {rs:List Nat} {o:Obj} {s k:Nat} {els:List D}:Q4 rs o=.row s els k↔o=.row s els k:=by cases o<;>simp [Q4]
theorem gI {rs:List Nat} {o:Obj} {t:Nat} {l:List UInt8}:Q4 rs o=.brow t l↔o=.brow t l:=by cases o<;>simp [Q4]
structure Alike (rs:List Nat) (l:List Obj) (G Gc:Gh) (Lc:Nat→Option Obj):Prop where
 obj:∀ i o,lk (Zq l) i=some o→Lc (rk rs i)=some (Q4 rs o)
 gam:∀ i o,lk (Zq l) i=some o→G.γ i=Gc.γ (rk rs i)∧G.hd i=Gc.hd (rk rs i)
mutual
theorem rn_RA {rs:List Nat} {l:List Obj} {F:Fix} {G Gc:Gh} {Lc:Nat→Option Obj} (h:Alike rs l G Gc Lc):∀ {x:AV} {v:Value},x.kept (Zq l)→(RA F G (lk (Zq l)) x v↔RA F Gc Lc (rnA rs x) v)
 | .d x,v,_=>by simp [RA,rnA]
 | .ref i f,v,hk=>by
  simp only [AV.kept] at hk;simp only [RA,rnA];cases hi:lk (Zq l) i with
  | none=>rw [hi] at hk;cases hk
  | some o =>
   rw [h.obj i o hi,(h.gam i o hi).1];simp only [Pb]
 | .rref i n e f,v,hk=>by
  simp only [AV.kept] at hk;simp only [RA,rnA];cases hi:lk (Zq l) i with
  | none=>rw [hi] at hk;cases hk
  | some o =>
   rw [h.obj i o hi,(h.gam i o hi).1];cases o<;>simp [Q4]
 | .sl i n,v,hk=>by
  simp only [AV.kept] at hk;simp only [RA,rnA];cases hi:lk (Zq l) i with
  | none=>rw [hi] at hk;cases hk
  | some o =>
   rw [h.obj i o hi,(h.gam i o hi).2];cases o<;>simp [Q4]
 | .mpr i,v,hk=>by
  simp only [AV.kept] at hk;simp only [RA,rnA];cases hi:lk (Zq l) i with
  | none=>rw [hi] at hk;cases hk
  | some o =>
   rw [h.obj i o hi,(h.gam i o hi).1];simp only [Pb]
 | .sb i n f,v,hk=>by
  simp only [AV.kept] at hk;simp only [RA,rnA];cases hi:lk (Zq l) i with
  | none=>rw [hi] at hk;cases hk
  | some o =>
   rw [h.obj i o hi,(h.gam i o hi).2,(h.gam i o hi).1];cases o<;>simp [Q4]
 | .agg xs,v,hk=>by
  simp only [AV.kept] at hk;simp only [RA,rnA];constructor
  ·rintro ⟨cs,h1,h2,h3⟩;exact ⟨cs,h1,(rn_RAs h hk).1 h2,h3⟩
  ·rintro ⟨cs,h1,h2,h3⟩;exact ⟨cs,h1,(rn_RAs h hk).2 h2,h3⟩
 | .tup xs,v,hk=>by
  simp only [AV.kept] at hk;simp only [RA,rnA];constructor
  ·rintro ⟨cs,h1,h2⟩;exact ⟨cs,h1,(rn_RAs h hk).1 h2⟩
  ·rintro ⟨cs,h1,h2⟩;exact ⟨cs,h1,(rn_RAs h hk).2 h2⟩
 | .clo f xs,v,hk=>by
  simp only [AV.kept] at hk;simp only [RA,rnA];constructor
  ·rintro ⟨cs,h1,h2⟩;exact ⟨cs,h1,(rn_RAs h hk).1 h2⟩
  ·rintro ⟨cs,h1,h2⟩;exact ⟨cs,h1,(rn_RAs h hk).2 h2⟩
 | .nils s,v,_=>by simp [RA,rnA]
 | .dead,v,_=>by simp [RA,rnA]
 | .bad t,v,_=>by simp [RA,rnA]
theorem rn_RAs {rs:List Nat} {l:List Obj} {F:Fix} {G Gc:Gh} {Lc:Nat→Option Obj} (h:Alike rs l G Gc Lc):∀ {xs:List AV} {vs:List Value},keptAll (Zq l) xs→(RAs F G (lk (Zq l)) xs vs↔RAs F Gc Lc (rnAs rs xs) vs)
 | [],vs,_=>by simp [RAs,rnAs]
 | x::xs,vs,hk=>by
  simp only [keptAll] at hk;simp only [RAs,rnAs];constructor
  ·rintro ⟨v,r,h1,h2,h3⟩;exact ⟨v,r,h1,(rn_RA h hk.1).1 h2,(rn_RAs h hk.2).1 h3⟩
  ·rintro ⟨v,r,h1,h2,h3⟩;exact ⟨v,r,h1,(rn_RA h hk.1).2 h2,(rn_RAs h hk.2).2 h3⟩
end
theorem S1 {q:Z5}:∀ {l:List Obj},Jp q l→∀ {j:Nat} {o:Obj},l[j]?=some o→o.tied q
 | [],_,_,_,h=>by simp at h
 | x::l,ht,j,o,h=>by
  cases j with
  | zero=>simp at h;subst h;exact ht.1
  | succ j=>simp only [List.getElem?_cons_succ] at h;exact S1 ht.2 h
theorem Ip:∀ {l:List Obj},Zr l→∀ {j s k:Nat} {els:List D},l[j]?=some (.row s els k)→k=0
 | [],_,_,_,_,_,h=>by simp at h
 | x::l,ht,j,s,k,els,h=>by
  have vA:Zr l:=by cases x<;>first|exact ht.2|exact ht
  cases j with
  | zero=>simp at h;subst h;exact ht.1
  | succ j=>simp only [List.getElem?_cons_succ] at h;exact Ip vA h
theorem Rm:∀ {l:List Obj},Zr l→∀ {j:Nat} {ks vs:List D} {f:Bool},l[j]?=some (.mp ks vs f)→f=false
 | [],_,_,_,_,_,h=>by simp at h
 | x::l,ht,j,ks,vs,f,h=>by
  have vA:Zr l:=by cases x<;>first|exact ht.2|exact ht
  cases j with
  | zero=>simp at h;subst h;exact ht.1
  | succ j=>simp only [List.getElem?_cons_succ] at h;exact Rm vA h
theorem Ziz {rs:List Nat}:∀ {cells:List AV} {T:Nat},(rnAs rs cells).head?=some (.bad T)↔cells.head?=some (.bad T)
 | [],_=>by simp [rnAs]
 | x::l,T=>by cases x<;>simp [rnAs,rnA]
theorem Zu1 {rs:List Nat} {cells:List AV} {cs:List Value} {t b:Nat}:yH (rnAs rs cells) cs t b↔yH cells cs t b:=by
 unfold yH;simp only [Ziz]
theorem gH {rs:List Nat} {l:List Obj} {F:Fix} {G Gc:Gh} {Lc:Nat→Option Obj} (h:Alike rs l G Gc Lc) {i:Nat} {o:Obj} (hi:lk (Zq l) i=some o) (ht:o.tied (Zq l)) :
  Qf F G (lk (Zq l)) i o↔Qf F Gc Lc (rk rs i) (Q4 rs o):=by
 obtain ⟨g1,g2⟩:=h.gam i o hi;cases o with
 | box ag cells =>
  simp only [Obj.tied] at ht;simp only [Qf,Q4,g1];constructor
  ·rintro ⟨b,cs,t,h1,h2,h3,h4⟩;exact ⟨b,cs,t,h1,h2,(rn_RAs h ht).1 h3,h4.1,h4.2.1,Zu1.2 h4.2.2⟩
  ·rintro ⟨b,cs,t,h1,h2,h3,h4⟩;exact ⟨b,cs,t,h1,h2,(rn_RAs h ht).2 h3,h4.1,h4.2.1,Zu1.1 h4.2.2⟩
 | fbox s x=>simp only [Qf,Q4,g1]
 | row s els k=>simp only [Qf,Q4,g1,g2]
 | mp ks vs f=>simp only [Qf,Q4,g1]
 | gone=>simp only [Qf,Q4]
 | slot e f=>simp only [Qf,Q4]
 | brow t l=>simp only [Qf,Q4,g1,g2]
 | hole j n e f x=>exact ht.elim
section
variable {P:Program} {C:Ctx} {G:Gh}
variable {base:Nat} {pass:Nat→Prop} {F0:Anc} {m:Nat→Nat} {st:AS} {a:Act} {w:World}
theorem Zz2 {F:Fix} {rs:List Nat} {l:List Obj} {G1 G2:Gh} {L:Nat→Option Obj} (al:Alike rs l G1 G2 L) {j:Nat} {v:Value} (h:RA F G1 (lk (Zq l)) (.mpr (90000+j)) v):RA F G2 L (.mpr (rk rs (90000+j))) v:=by
 simp only [RA] at h ⊢;obtain ⟨h1,h2⟩:=h;refine ⟨h1,?_⟩;cases hl:lk (Zq l) (90000+j) with
 | none=>rw [hl] at h2;exact h2.elim
 | some o =>
  rw [hl] at h2;rw [al.obj _ _ hl];intro hb;rw [Pb] at hb;obtain ⟨b,e1,e2⟩:=h2 hb;exact ⟨b,by rw [←(al.gam _ _ hl).1];exact e1,e2⟩
theorem Ek (K:Mf P C) (h:SRg base pass F0 m G st a w) {f:FuncId} {bc:BCon} (hf:C.Δ f=some bc) {x:bc.X} {rs:List Nat} {vs:List Value} (X5:bc.ok x)
  (hx:RAs ⟨w,m⟩ G (lk st.objs) (rnAs rs (bc.args x)) vs) (F9:rs.Nodup) (Z8:rs.length=(bc.post x).length) (Us:Ze rs rs (bc.objs x) st.objs) (rY:Zj (rs.drop (bc.objs x).length) st.objs) :
  Mm P f∧Calls P f vs.toArray w fun e w'=>∃ v m' G',e=.returned v∧SRg base pass F0 m' G' ⟨st.tmps,Wl rs rs (bc.post x) st.objs⟩ a w'∧RA ⟨w',m'⟩ G' (lk (Wl rs rs (bc.post x) st.objs)) (bc.rvr rs x) v:=by
 obtain ⟨Et,Zxr⟩:=K.2.2.2 f bc hf;refine ⟨Et,?_⟩;obtain ⟨Qge,Qgq,Qhg,M8,Qb3⟩:=Zxr x X5;have Zkn:∀ {j j' k:Nat},rs[j]?=some k→rs[j']?=some k→j=j':=by
  intro j j' k h1 h2;obtain ⟨hj,e1⟩:=List.getElem?_eq_some_iff.1 h1;obtain ⟨hj',e2⟩:=List.getElem?_eq_some_iff.1 h2;have hp:=List.pairwise_iff_getElem.1 F9;rcases Nat.lt_trichotomy j j' with Qg|kI|Qew
  ·exact absurd (e1.trans e2.symm) (hp j j' hj hj' Qg)
  ·exact kI
  ·exact absurd (e2.trans e1.symm) (hp j' j hj' hj Qew)
 let G1:Gh:=⟨fun i=>G.γ (rk rs i),fun i=>G.hd (rk rs i)⟩
 have al1:Alike rs (bc.objs x) G1 G (lk st.objs):=⟨fun i o hi=>by
  obtain ⟨j,rfl,hj⟩:=Wq hi;obtain ⟨k,hk,Yg⟩:=Ys Us hj;rw [Ps hk];exact Yg,fun i o hi=>⟨rfl,rfl⟩⟩
 have own1:∀ {b:Nat},Hq G1 (bc.objs x) b→∃ k o,k∈rs∧lk st.objs k=some o∧o.owns=true∧G.γ k=some b:=by
  rintro b ⟨i,o,hi,ho,hg⟩;obtain ⟨j,rfl,hj⟩:=Wq hi;obtain ⟨k,hk,Yg⟩:=Ys Us hj;have hg':G.γ (rk rs (90000+j))=some b:=hg;rw [Ps hk] at hg';exact ⟨k,_,List.mem_of_getElem? hk,Yg,by rw [Uj];exact ho,hg'⟩
 have zero1:∀ {b:Nat},Hq G1 (bc.objs x) b→m b=0:=by
  rintro b ⟨i,o,hi,ho,hg⟩;obtain ⟨j,rfl,hj⟩:=Wq hi;obtain ⟨k,hk,Yg⟩:=Ys Us hj;have hg':G.γ (rk rs (90000+j))=some b:=hg;rw [Ps hk] at hg';have Yd:=h.objs k _ Yg;cases o with
  | box ag cells =>
   simp only [Qf,Q4] at Yd;obtain ⟨b',cs,t,h1,_,_,_,h5⟩:=Yd;rw [hg'] at h1;injection h1 with h1
   subst h1;exact h5.1
  | row s els k0 =>
   have:=Ip Qgq hj;subst this;simp only [Qf,Q4] at Yd;rcases Yd with ⟨h1,_⟩|⟨b',cap,cs,t,h1,_,_,_,_,_,_,h8,_⟩
   ·rw [hg'] at h1;cases h1
   ·rw [hg'] at h1;injection h1 with h1
    subst h1;simpa using h8
  | mp ks vs fr =>
   have:=Rm Qgq hj;subst this;simp only [Qf,Q4] at Yd;obtain ⟨b',es,cl,h1,_,_,_,h5,_⟩:=Yd;rw [hg'] at h1;injection h1 with h1
   subst h1;simpa using h5
  | brow t l =>
   simp only [Qf,Q4] at Yd;rcases Yd with ⟨h1,_⟩|⟨b',cap,cs,h1,_,_,_,_,_,_,h8⟩
   ·rw [hg'] at h1;cases h1
   ·rw [hg'] at h1;injection h1 with h1
    subst h1;exact h8
  | fbox s y=>simp [Obj.owns] at ho
  | gone=>simp [Obj.owns] at ho
  | slot e f=>simp [Obj.owns] at ho
  | hole j' n e f x=>simp [Obj.owns] at ho
 have U7:SRg w.heap.size (Hq G1 (bc.objs x)) ⟨⟨w,m⟩,G1,lk (Zq (bc.objs x))⟩ m G1 ⟨bc.args x,Zq (bc.objs x)⟩ ⟨vs.toArray,[]⟩ w:=by
  constructor
  ·rfl
  ·simpa using (rn_RAs al1 Qge.1).2 hx
  ·intro i o hi;obtain ⟨j,rfl,hj⟩:=Wq hi;exact (gH al1 hi (S1 Qge.2 hj)).2 (h.objs _ _ (al1.obj _ _ hi))
  ·intro i i' o o' b hi hi' ho ho' hb hb';have e:=h.apart _ _ _ _ b (al1.obj _ _ hi) (al1.obj _ _ hi') (by rw [Uj];exact ho) (by rw [Uj];exact ho') hb hb'
   obtain ⟨j,rfl,hj⟩:=Wq hi;obtain ⟨j',rfl,hj'⟩:=Wq hi';obtain ⟨k,hk,_⟩:=Ys Us hj;obtain ⟨k',hk',_⟩:=Ys Us hj';rw [Ps hk,Ps hk'] at e;subst e;rw [Zkn hk hk']
  ·intro i o b hi ho hb;exact ⟨(h.mine _ _ b (al1.obj _ _ hi) (by rw [Uj];exact ho) hb).1,.inr ⟨i,o,hi,ho,hb⟩⟩
  ·exact FrameG.refl (h.frame.call h.small fun b ⟨i,o,hi,ho,hb⟩=>by
    obtain ⟨j,rfl,hj⟩:=Wq hi;exact (h.mine _ _ b (al1.obj _ _ hi) (by rw [Uj];exact ho) hb).2)
  ·exact fun _ _ _=>rfl
  ·exact h.new
  ·exact Zl _
  ·intro i o hi;obtain ⟨j,rfl,hj⟩:=Wq hi;exact ⟨by omega,o,hi,lB.refl _ _ _⟩
 refine (Qb3 m w G1 vs U7).mono ?_;rintro e w' ⟨v,m',G2,rfl,hr,kN⟩;have old2:∀ b,b<w.heap.size→¬ Hq G1 (bc.objs x) b→m' b=m b:=kN.old;have hF:Fix.le ⟨w,m⟩ ⟨w',m'⟩:=by
  refine ⟨fun b=>?_,fun b es c Zh8 Gd=>?_⟩;rotate_left
  ·have hp:¬ Hq G1 (bc.objs x) b:=fun hp=>by
    have hz:=zero1 hp;simp only [hz] at Zh8;omega
   rcases Nat.lt_or_ge b w.heap.size with Qg|Pj
   ·rw [kN.frame.block b Qg hp];exact Gd
   ·have:=h.new b Pj;simp only at Zh8;omega
  by_cases hp:Hq G1 (bc.objs x) b
  ·have hz:=zero1 hp;exact ⟨by simp only [hz];exact Nat.zero_le _,fun off ho=>by simp only [hz] at ho;omega⟩
  ·rcases Nat.lt_or_ge b w.heap.size with Qg|Pj
   ·exact ⟨by simp only;rw [old2 b Qg hp];exact Zl _,fun off _=>World.cell?_of_block (a:=⟨b,off,none⟩) (kN.frame.block b Qg hp)⟩
   ·have:=h.new b Pj;exact ⟨by simp only;omega,fun off ho=>by simp only at ho;omega⟩
 let G':Gh:=⟨fun k=>if k∈rs then G2.γ (90000+rs.idxOf k) else G.γ k,fun k=>if k∈rs then G2.hd (90000+rs.idxOf k) else G.hd k⟩
 have Qbx:∀ {j k:Nat},rs[j]?=some k→rs.idxOf k=j:=by
  intro j k hk;have Cn:=List.mem_of_getElem? hk;have h1:rs[rs.idxOf k]?=some k:=by
   rw [Zh (List.idxOf_lt_length_of_mem Cn),List.getElem_idxOf]
  exact Zkn h1 hk
 have gin:∀ {j k:Nat},rs[j]?=some k→G'.γ k=G2.γ (90000+j)∧G'.hd k=G2.hd (90000+j):=by
  intro j k hk;have Cn:=List.mem_of_getElem? hk;exact ⟨by show (if k∈rs then _ else _)=_;rw [if_pos Cn,Qbx hk],by show (if k∈rs then _ else _)=_;rw [if_pos Cn,Qbx hk]⟩
 have gout:∀ {k:Nat},k∉rs→G'.γ k=G.γ k∧G'.hd k=G.hd k:=by
  intro k hk;exact ⟨by show (if k∈rs then _ else _)=_;rw [if_neg hk],by show (if k∈rs then _ else _)=_;rw [if_neg hk]⟩
 have eC:∀ {k:Nat},k∈rs→∃ (j:Nat) (o:Obj),rs[j]?=some k∧(bc.post x)[j]?=some o∧lk (Wl rs rs (bc.post x) st.objs) k=some (Q4 rs o):=by
  intro k hk;obtain ⟨j,hj,e⟩:=List.getElem_of_mem hk;have hk':rs[j]?=some k:=by rw [Zh hj,e]
  have Qer:j<(bc.post x).length:=by omega
  have ho:=Zh (l:=bc.post x) Qer;exact ⟨j,_,hk',ho,Sp F9 hk' ho⟩
 have al2:Alike rs (bc.post x) G2 G' (lk (Wl rs rs (bc.post x) st.objs)):=by
  constructor
  ·intro i o hi;obtain ⟨j,rfl,hj⟩:=Wq hi;have Ra:j<rs.length:=by rw [Z8];exact (List.getElem?_eq_some_iff.1 hj).1
   have lE:=Zh (l:=rs) Ra;rw [Ps lE];exact Sp F9 lE hj
  ·intro i o hi;obtain ⟨j,rfl,hj⟩:=Wq hi;have Ra:j<rs.length:=by rw [Z8];exact (List.getElem?_eq_some_iff.1 hj).1
   have lE:=Zh (l:=rs) Ra;rw [Ps lE];obtain ⟨g1,g2⟩:=gin lE;exact ⟨g1.symm,g2.symm⟩
 have Sw:Yo G (lk st.objs) G' (lk (Wl rs rs (bc.post x) st.objs)):=by
  intro k o hk;by_cases aH:k∈rs
  ·obtain ⟨j,o1,hj,zY,rK⟩:=eC aH;have Zx2:j<(bc.objs x).length:=by
    rcases Nat.lt_or_ge j (bc.objs x).length with Qg|Pj
    ·exact Qg
    ·have:k∈rs.drop (bc.objs x).length:=by
      refine List.mem_iff_getElem?.2 ⟨j-(bc.objs x).length,?_⟩;rw [List.getElem?_drop,show (bc.objs x).length+(j-(bc.objs x).length)=j by omega]
      exact hj
     rw [nH rY this] at hk;cases hk
   have Yd:=Zh (l:=bc.objs x) Zx2;obtain ⟨k',hk',Yg⟩:=Ys Us Yd;rw [hj] at hk';injection hk' with hk'
   subst hk';rw [hk] at Yg;injection Yg with Yg
   subst Yg;obtain ⟨_,o2,M9,Zhx⟩:=kN.lent _ _ (Uq Yd);rw [Uq zY] at M9;injection M9 with M9
   subst M9;obtain ⟨g1,g2⟩:=gin hj;have e1:G1.γ (90000+j)=G.γ k:=by show G.γ (rk rs (90000+j))=_;rw [Ps hj]
   have e2:G1.hd (90000+j)=G.hd k:=by show G.hd (rk rs (90000+j))=_;rw [Ps hj]
   refine ⟨_,rK,fun hb=>?_,fun s els' k' he=>?_,fun t l' he=>?_⟩;rotate_left 2
   ·rw [gI] at he;obtain ⟨l,f1,f2,f3⟩:=Zhx.2.2 t l' he;refine ⟨l,by rw [gI];exact f1,f2,fun kI=>?_⟩
    obtain ⟨q1,q2⟩:=f3 kI;exact ⟨by rw [g1,←e1];exact q1,by rw [g2,←e2];exact q2⟩
   ·rw [Pb] at hb;obtain ⟨w1,w2⟩:=Zhx.1 hb;exact ⟨by rw [Pb];exact w1,by rw [g1,←e1];exact w2⟩
   ·rw [pJ] at he;obtain ⟨els,k0,f1,f2,f3⟩:=Zhx.2.1 s els' k' he;refine ⟨els,k0,by rw [pJ];exact f1,f2,fun kI=>?_⟩
    obtain ⟨q1,q2⟩:=f3 kI;exact ⟨by rw [g1,←e1];exact q1,by rw [g2,←e2];exact q2⟩
  ·obtain ⟨g1,g2⟩:=gout aH;refine ⟨o,by rw [Ya aH];exact hk,fun hb=>⟨hb,g1⟩,fun s els' k' he=>⟨els',k',he,Zl _,fun _=>⟨g1,g2⟩⟩,fun t l' he=>⟨l',he,Zl _,fun _=>⟨g1,g2⟩⟩⟩
 have notB:∀ {k:Nat} {o:Obj} {b:Nat},k∉rs→lk st.objs k=some o→o.owns=true→G.γ k=some b→¬ Hq G1 (bc.objs x) b:=by
  intro k o b hk ho hw hg hp;obtain ⟨k',o',hm',ho',hw',hg'⟩:=own1 hp;have:=h.apart k k' o o' b ho ho' hw hw' hg hg';subst this;exact hk hm'
 refine ⟨v,m',G',rfl,?_,by
  unfold BCon.rv at hr;unfold BCon.rvr;cases ho:bc.out x with
  | none=>rw [ho] at hr;simpa only [RA] using hr
  | some j=>rw [ho] at hr;exact Zz2 al2 hr⟩
 constructor
 ·exact h.defers
 ·exact RAs.mono hF Sw h.tmps
 ·intro k o hk;by_cases aH:k∈rs
  ·obtain ⟨j,o1,hj,zY,rK⟩:=eC aH;simp only at hk;rw [rK] at hk;injection hk with hk
   subst hk;have:=(gH al2 (Uq zY) (S1 Qhg.2 zY)).1 (kN.objs _ _ (Uq zY));rw [Ps hj] at this;exact this
  ·simp only [Ya aH] at hk;obtain ⟨g1,g2⟩:=gout aH;refine Qf.mono hF Sw g1 g2 (fun ho b Gd=>?_) (h.objs k o hk);have Qg:=(h.mine k o b hk ho Gd).1;have Zyn:=notB aH hk ho Gd;exact ⟨kN.frame.block b Qg Zyn,old2 b Qg Zyn⟩
 ·intro k k' o o' b hk hk' ho ho' hb hb';simp only at hk hk';by_cases aH:k∈rs
  ·obtain ⟨j,o1,hj,zY,rK⟩:=eC aH;rw [rK] at hk;injection hk with hk
   subst hk;rw [Uj] at ho;rw [(gin hj).1] at hb;by_cases hkr':k'∈rs
   ·obtain ⟨j',o1',hj',ho1',hb1'⟩:=eC hkr';rw [hb1'] at hk';injection hk' with hk'
    subst hk';rw [Uj] at ho';rw [(gin hj').1] at hb';have:=kN.apart _ _ _ _ b (Uq zY) (Uq ho1') ho ho' hb hb';have e:j=j':=by omega
    subst e;rw [hj] at hj';injection hj'
   ·rw [Ya hkr'] at hk';rw [(gout hkr').1] at hb';have Qg:=(h.mine k' o' b hk' ho' hb').1;have Zyn:=notB hkr' hk' ho' hb';rcases (kN.mine _ _ b (Uq zY) ho hb).2 with h1|h1
    ·omega
    ·exact absurd h1 Zyn
  ·rw [Ya aH] at hk;rw [(gout aH).1] at hb;by_cases hkr':k'∈rs
   ·obtain ⟨j',o1',hj',ho1',hb1'⟩:=eC hkr';rw [hb1'] at hk';injection hk' with hk'
    subst hk';rw [Uj] at ho';rw [(gin hj').1] at hb';have Qg:=(h.mine k o b hk ho hb).1;have Zyn:=notB aH hk ho hb;rcases (kN.mine _ _ b (Uq ho1') ho' hb').2 with h1|h1
    ·omega
    ·exact absurd h1 Zyn
   ·rw [Ya hkr'] at hk';rw [(gout hkr').1] at hb';exact h.apart k k' o o' b hk hk' ho ho' hb hb'
 ·intro k o b hk ho hb;simp only at hk;by_cases aH:k∈rs
  ·obtain ⟨j,o1,hj,zY,rK⟩:=eC aH;rw [rK] at hk;injection hk with hk
   subst hk;rw [Uj] at ho;rw [(gin hj).1] at hb;obtain ⟨q1,q2⟩:=kN.mine _ _ b (Uq zY) ho hb;refine ⟨q1,?_⟩;rcases q2 with q2|q2
   ·exact .inl (Nat.le_trans h.small q2)
   ·obtain ⟨k',o',_,ho',hw',hg'⟩:=own1 q2;exact (h.mine k' o' b ho' hw' hg').2
  ·rw [Ya aH] at hk;rw [(gout aH).1] at hb;obtain ⟨q1,q2⟩:=h.mine k o b hk ho hb;exact ⟨Nat.lt_of_lt_of_le q1 kN.frame.size,q2⟩
 ·refine h.frame.trans ⟨kN.frame.os,kN.frame.tape,kN.frame.output,kN.frame.size,fun b Gd hp=>kN.frame.block b (Nat.lt_of_lt_of_le Gd h.small) (fun hB=>?_)⟩;obtain ⟨k',o',_,ho',hw',hg'⟩:=own1 hB;rcases (h.mine k' o' b ho' hw' hg').2 with h1|h1
  ·omega
  ·exact hp h1
 ·intro b Gd hp;refine (old2 b (Nat.lt_of_lt_of_le Gd h.small) (fun hB=>?_)).trans (h.old b Gd hp);obtain ⟨k',o',_,ho',hw',hg'⟩:=own1 hB;rcases (h.mine k' o' b ho' hw' hg').2 with h1|h1
  ·omega
  ·exact hp h1
 ·exact kN.new
 ·exact Nat.le_trans h.small kN.frame.size
 ·exact h.lent.goes Sw
end
mutual
theorem RA.off {F:Fix} {G G':Gh} {L L':Nat→Option Obj} {i:Nat} (hL:∀ j,j≠i→L' j=L j∧G'.γ j=G.γ j∧G'.hd j=G.hd j):∀ {x:AV} {v:Value},x.off i=true→RA F G L x v→RA F G' L' x v
 | .d x,_,_,h=>by simpa only [RA] using h
 | .ref j f,_,ho,h=>by
  simp only [AV.off,bne_iff_ne] at ho;obtain ⟨h1,h2,_⟩:=hL j ho;simp only [RA,h1,h2] at h ⊢;exact h
 | .rref j n e f,_,ho,h=>by
  simp only [AV.off,bne_iff_ne] at ho;obtain ⟨h1,h2,_⟩:=hL j ho;simp only [RA,h1,h2] at h ⊢;exact h
 | .sl j n,_,ho,h=>by
  simp only [AV.off,bne_iff_ne] at ho;obtain ⟨h1,_,h3⟩:=hL j ho;simp only [RA,h1,h3] at h ⊢;exact h
 | .mpr j,_,ho,h=>by
  simp only [AV.off,bne_iff_ne] at ho;obtain ⟨h1,h2,_⟩:=hL j ho;simp only [RA,h1,h2] at h ⊢;exact h
 | .sb j n f,_,ho,h=>by
  simp only [AV.off,bne_iff_ne] at ho;obtain ⟨h1,h2,h3⟩:=hL j ho;simp only [RA,h1,h2,h3] at h ⊢;exact h
 | .agg l,_,ho,h=>by
  simp only [AV.off] at ho;simp only [RA] at h ⊢;obtain ⟨cs,h1,h2,h3⟩:=h;exact ⟨cs,h1,RAs.off hL ho h2,h3⟩
 | .tup l,_,ho,h=>by
  simp only [AV.off] at ho;simp only [RA] at h ⊢;obtain ⟨cs,h1,h2⟩:=h;exact ⟨cs,h1,RAs.off hL ho h2⟩
 | .clo f l,_,ho,h=>by
  simp only [AV.off] at ho;simp only [RA] at h ⊢;obtain ⟨cs,h1,h2⟩:=h;exact ⟨cs,h1,RAs.off hL ho h2⟩
 | .nils _,_,_,h=>by simpa only [RA] using h
 | .dead,_,_,_=>by simp [RA]
 | .bad _,_,_,h=>by simpa only [RA] using h
theorem RAs.off {F:Fix} {G G':Gh} {L L':Nat→Option Obj} {i:Nat} (hL:∀ j,j≠i→L' j=L j∧G'.γ j=G.γ j∧G'.hd j=G.hd j):∀ {l:List AV} {vs:List Value},offAll i l=true→RAs F G L l vs→RAs F G' L' l vs
 | [],_,_,h=>by simpa only [RAs] using h
 | x::l,vs,ho,h=>by
  simp only [offAll,Zg] at ho;simp only [RAs] at h ⊢;obtain ⟨v,r,h1,h2,h3⟩:=h;exact ⟨v,r,h1,RA.off hL ho.1 h2,RAs.off hL ho.2 h3⟩
end
theorem RAs.kill {F:Fix} {G G':Gh} {L L':Nat→Option Obj} {i:Nat} (hL:∀ j,j≠i→L' j=L j∧G'.γ j=G.γ j∧G'.hd j=G.hd j):∀ {l:List AV} {vs:List Value},RAs F G L l vs→RAs F G' L' (Ke i l) vs
 | [],_,h=>by simpa only [RAs,Ke] using h
 | x::l,vs,h=>by
  simp only [RAs] at h;obtain ⟨v,r,h1,h2,h3⟩:=h;simp only [Ke,RAs];refine ⟨v,r,h1,?_,RAs.kill hL h3⟩;cases ho:x.off i with
  | true=>exact RA.off hL ho h2
  | false=>simp [RA]
theorem gU {i:Nat}:∀ {o:Z5},Vo i o=true→∀ {j:Nat} {ag:Bool} {cells:List AV},lk o j=some (.box ag cells)→offAll i cells=true
 | [],_,j,ag,cells,hj=>by simp [lk] at hj
 | (k,q)::r,h,j,ag,cells,hj=>by
  simp only [lk] at hj;by_cases aC:j=k
  ·subst aC;rw [if_pos rfl] at hj;injection hj with hj
   subst hj;simp only [Vo,Zg] at h;exact h.1
  ·rw [if_neg aC] at hj;have hr:Vo i r=true:=by
    cases q<;>simp only [Vo,Zg] at h<;>first|exact h|exact h.2
   exact gU hr hj
theorem Io {i:Nat}:∀ {o:Z5},Vo i o=true→∀ {j k n e f:Nat} {x:AV},lk o j=some (.hole k n e f x)→k≠i∧x.off i=true
 | [],_,j,k,n,e,f,x,hj=>by simp [lk] at hj
 | (q0,q)::r,h,j,k,n,e,f,x,hj=>by
  simp only [lk] at hj;by_cases aC:j=q0
  ·subst aC;rw [if_pos rfl] at hj;injection hj with hj
   subst hj;simp only [Vo,Zg,bne_iff_ne] at h;exact h.1
  ·rw [if_neg aC] at hj;have hr:Vo i r=true:=by
    cases q<;>simp only [Vo,Zg] at h<;>first|exact h|exact h.2
   exact Io hr hj
section
variable {P:Program} {C:Ctx} {G:Gh}
variable {base:Nat} {pass:Nat→Prop} {F0:Anc} {m:Nat→Nat} {st:AS} {a:Act} {w:World}
theorem SRg.cut (h:SRg base pass F0 m G st a w) {i s k c:Nat} {els:List D} (hi:lk st.objs i=some (.row s els k)) {n:Nat} (hn:n≤els.length) (hk:k≤n) (ho:Vo i st.objs=true) (hi9:i<90000) {A:Option Addr} (hd:G.hd i=.slice A els.length c) :
  SRg base pass F0 m ⟨G.γ,fun j=>if j=i then .slice A n c else G.hd j⟩ ⟨Ke i st.tmps,upd st.objs i (.row s (els.take n) k)⟩ a w:=by
 have hL:∀ j,j≠i→lk (upd st.objs i (.row s (els.take n) k)) j=lk st.objs j∧(⟨G.γ,fun j=>if j=i then .slice A n c else G.hd j⟩:Gh).γ j=G.γ j∧(⟨G.γ,fun j=>if j=i then .slice A n c else G.hd j⟩:Gh).hd j=G.hd j:=by
  intro j hj;exact ⟨by rw [J2,if_neg hj],rfl,by simp [hj]⟩
 have own:∀ j o',lk (upd st.objs i (.row s (els.take n) k)) j=some o'→∃ o,lk st.objs j=some o∧o.owns=o'.owns:=by
  intro j o' hj;rw [J2] at hj;by_cases V8:j=i
  ·subst V8;rw [if_pos rfl] at hj;injection hj with hj
   subst hj;exact ⟨_,hi,rfl⟩
  ·rw [if_neg V8] at hj;exact ⟨o',hj,rfl⟩
 constructor
 ·exact h.defers
 ·exact RAs.kill hL h.tmps
 ·intro j o' hj;simp only at hj;by_cases V8:j=i
  ·subst V8;rw [J2,if_pos rfl] at hj;injection hj with hj
   subst hj;have Yd:=h.objs j _ hi;simp only [Qf] at Yd ⊢;have Z8:(els.take n).length=n:=by rw [List.length_take];omega
   rcases Yd with ⟨h1,h2,h3,h4⟩|⟨b,cap,cs,t,h1,h2,h3,h4,h5,h6,h7,h8,h9⟩
   ·left;subst h3;simp only [List.length_nil,Nat.le_zero_eq] at hn;subst hn;rw [h2] at hd;simp only [List.length_nil,Value.slice.injEq] at hd;obtain ⟨rfl,_,rfl⟩:=hd;exact ⟨h1,by simp,by simp,h4⟩
   ·right;rw [h2] at hd;simp only [Value.slice.injEq,true_and] at hd;obtain ⟨rfl,rfl⟩:=hd;refine ⟨b,cap,cs,t,h1,by simp [Z8],by omega,h4,h5,h6,?_,h8,by omega⟩
    rw [Z8];have:=(h7.split n).1;rw [List.take_take] at this;have e:min (n*s) (els.length*s)=n*s:=Nat.min_eq_left (Nat.mul_le_mul_right _ hn);rw [e] at this;exact this
  ·rw [(hL j V8).1] at hj;have Yd:=h.objs j _ hj;obtain ⟨e1,e2,e3⟩:=hL j V8;cases o' with
   | box ag cells =>
    simp only [Qf] at Yd ⊢;obtain ⟨b,cs,t,h1,h2,h3,h4,h5⟩:=Yd;exact ⟨b,cs,t,h1,h2,RAs.off hL (gU ho hj) h3,h4,h5⟩
   | fbox s' x=>exact Yd
   | row s' els' k' =>
    simp only [Qf,if_neg V8] at Yd ⊢;exact Yd
   | mp ks vs f=>exact Yd
   | gone=>trivial
   | slot e f=>trivial
   | brow t l =>
    simp only [Qf,if_neg V8] at Yd ⊢;exact Yd
   | hole j' n' e f x =>
    obtain ⟨o1,o2⟩:=Io ho hj;simp only [Qf] at Yd ⊢;obtain ⟨b,off,v,g1,g2,g3,g4⟩:=Yd;exact ⟨b,off,v,RA.off hL (by simp only [AV.off,bne_iff_ne];exact o1) g1,g2,g3,RA.off hL o2 g4⟩
 ·intro j j' o o' b hj hj' Qeg hoo' hb hb';obtain ⟨q,q1,q2⟩:=own j o hj;obtain ⟨q',q1',q2'⟩:=own j' o' hj';exact h.apart j j' q q' b q1 q1' (q2.trans Qeg) (q2'.trans hoo') hb hb'
 ·intro j o b hj Qeg hb;obtain ⟨q,q1,q2⟩:=own j o hj;exact h.mine j q b q1 (q2.trans Qeg) hb
 ·exact h.frame
 ·exact h.old
 ·exact h.new
 ·exact h.small
 ·intro j o hj;obtain ⟨h1,o1,h2,h3⟩:=h.lent j o hj;have V8:j≠i:=by omega
  refine ⟨h1,o1,by rw [(hL j V8).1];exact h2,?_⟩
  refine h3.trans ⟨fun hb=>⟨hb,rfl⟩,fun s' els' k' he=>⟨els',k',he,Zl _,fun _=>⟨rfl,by simp [V8]⟩⟩,fun t l' he=>⟨l',he,Zl _,fun _=>⟨rfl,by simp [V8]⟩⟩⟩
theorem SRg.move (h:SRg base pass F0 m G st a w) {i d s k c:Nat} {els:List D} (hi:lk st.objs i=some (.row s els k)) (Vm:lk st.objs d=none) {n:Nat} (hn:n≤els.length) (hk:k≤n) {A:Option Addr} (hd:G.hd i=.slice A els.length c) :
  SRg base pass F0 m ⟨fun j=>if j=d then G.γ i else G.γ j,fun j=>if j=d then .slice A n c else G.hd j⟩ ⟨st.tmps,upd (upd st.objs i .gone) d (.row s (els.take n) k)⟩ a w:=by
 have Zyb:d≠i:=by
  intro e;rw [e,hi] at Vm;cases Vm
 have Qiu:lk (upd (upd st.objs i .gone) d (.row s (els.take n) k)) d=some (.row s (els.take n) k):=by rw [J2,if_pos rfl]
 have Qcd:lk (upd (upd st.objs i .gone) d (.row s (els.take n) k)) i=some .gone:=by rw [J2,if_neg (Ne.symm Zyb),J2,if_pos rfl]
 have Qe4:∀ j,j≠d→j≠i→lk (upd (upd st.objs i .gone) d (.row s (els.take n) k)) j=lk st.objs j:=fun j h1 h2=>by rw [J2,if_neg h1,J2,if_neg h2]
 have Sw:Yo G (lk st.objs) ⟨fun j=>if j=d then G.γ i else G.γ j,fun j=>if j=d then .slice A n c else G.hd j⟩ (lk (upd (upd st.objs i .gone) d (.row s (els.take n) k))):=by
  intro j o hj;have vR:j≠d:=by
   intro e;rw [e,Vm] at hj;cases hj
  by_cases V8:j=i
  ·subst V8;exact ⟨.gone,Qcd,fun hb=>(by cases hb),fun s' els' k' he=>(by cases he),fun t l' he=>(by cases he)⟩
  ·refine ⟨o,by rw [Qe4 j vR V8];exact hj,fun hb=>⟨hb,by simp [vR]⟩,fun s' els' k' he=>⟨els',k',he,Zl _,fun _=>⟨by simp [vR],by simp [vR]⟩⟩,fun t l' he=>⟨l',he,Zl _,fun _=>⟨by simp [vR],by simp [vR]⟩⟩⟩
 have own:∀ j o',lk (upd (upd st.objs i .gone) d (.row s (els.take n) k)) j=some o'→o'.owns=true→∃ q o,lk st.objs q=some o∧o.owns=true∧(if j=d then G.γ i else G.γ j)=G.γ q∧(j=d∧q=i∨j≠d∧q=j∧q≠i):=by
  intro j o' hj ho;by_cases vR:j=d
  ·subst vR;exact ⟨i,_,hi,rfl,by simp,.inl ⟨rfl,rfl⟩⟩
  ·by_cases V8:j=i
   ·subst V8;rw [Qcd] at hj;injection hj with hj
    subst hj;cases ho
   ·rw [Qe4 j vR V8] at hj;exact ⟨j,o',hj,ho,by simp [vR],.inr ⟨vR,rfl,V8⟩⟩
 constructor
 ·exact h.defers
 ·exact RAs.mono (Fix.le_refl _) Sw h.tmps
 ·intro j o' hj;simp only at hj;by_cases vR:j=d
  ·subst vR;rw [Qiu] at hj;injection hj with hj
   subst hj;have Yd:=h.objs i _ hi;simp only [Qf,if_true] at Yd ⊢;have Z8:(els.take n).length=n:=by rw [List.length_take];omega
   rcases Yd with ⟨h1,h2,h3,h4⟩|⟨b,cap,cs,t,h1,h2,h3,h4,h5,h6,h7,h8,h9⟩
   ·left;subst h3;simp only [List.length_nil,Nat.le_zero_eq] at hn;subst hn;rw [h2] at hd;simp only [List.length_nil,Value.slice.injEq] at hd;obtain ⟨rfl,_,rfl⟩:=hd;exact ⟨h1,rfl,by simp,h4⟩
   ·right;rw [h2] at hd;simp only [Value.slice.injEq,true_and] at hd;obtain ⟨rfl,rfl⟩:=hd;refine ⟨b,cap,cs,t,h1,by simp [Z8],by omega,h4,h5,h6,?_,h8,by omega⟩
    rw [Z8];have:=(h7.split n).1;rw [List.take_take] at this;have e:min (n*s) (els.length*s)=n*s:=Nat.min_eq_left (Nat.mul_le_mul_right _ hn);rw [e] at this;exact this
  ·by_cases V8:j=i
   ·subst V8;rw [Qcd] at hj;injection hj with hj
    subst hj;simp only [Qf]
   ·rw [Qe4 j vR V8] at hj;exact Qf.mono (Fix.le_refl _) Sw (by simp [vR]) (by simp [vR]) (fun _ _ _=>⟨rfl,rfl⟩) (h.objs j _ hj)
 ·intro j j' o o' b hj hj' ho ho' hb hb';obtain ⟨q,oq,g1,g2,g3,g4⟩:=own j o hj ho;obtain ⟨q',oq',g1',g2',g3',g4'⟩:=own j' o' hj' ho';simp only at hb hb';rw [g3] at hb;rw [g3'] at hb';have:=h.apart q q' oq oq' b g1 g1' g2 g2' hb hb';rcases g4 with ⟨e1,e2⟩|⟨e1,e2,e3⟩<;>rcases g4' with ⟨e1',e2'⟩|⟨e1',e2',e3'⟩
  ·rw [e1,e1']
  ·exact absurd (this.symm.trans e2) e3'
  ·exact absurd (this.trans e2') e3
  ·rw [←e2,←e2',this]
 ·intro j o b hj ho hb;obtain ⟨q,oq,g1,g2,g3,_⟩:=own j o hj ho;simp only at hb;rw [g3] at hb;exact h.mine q oq b g1 g2 hb
 ·exact h.frame
 ·exact h.old
 ·exact h.new
 ·exact h.small
 ·exact h.lent.goes Sw
end
section
variable {P:Program} {C:Ctx} {G:Gh}
variable {base:Nat} {pass:Nat→Prop} {F0:Anc} {m:Nat→Nat} {st:AS} {a:Act} {w:World}
theorem rH {F:Fix}:∀ {xs:List D} {vs:List Value},Zus xs→RE F 1 xs vs→vs=(xs.map D.i).map (Value.int .u8)∧Zev xs=(xs.map D.i).map fun n=>UInt8.ofNat n.toNat
 | [],vs,_,h=>by
  simp only [RE] at h;subst h;exact ⟨rfl,rfl⟩
 | x::l,vs,⟨h1,h2⟩,h=>by
  simp only [RE] at h;obtain ⟨v,r,rfl,-,-,hv,hr⟩:=h;obtain ⟨e1,e2⟩:=rH h2 hr;have Qdy:=hv.of_int h1;subst Qdy;subst e1;exact ⟨rfl,by rw [Zev,e2];rfl⟩
theorem uB (T:Xy P C.τ) (h:SRg base pass F0 m G st a w) {s t:Nat} {x z:AV} {v:Value} {c:Prop} {os:Z5} (hh:D7 C s t x st.objs=some (c,z,os)) (hc:c) (hx:RA ⟨w,m⟩ G (lk st.objs) x v) :
  ∃ u,(convert s t v).run P w=.ok u w∧RA ⟨w,m⟩ G (lk st.objs) z u∧os=st.objs:=by
 unfold D7 at hh;split at hh
 ·next e hk hk' =>
  split at hh
  ·next c1 xs Zec kE =>
   simp only [Zc,Zf] at hh;obtain ⟨rfl,rfl,rfl⟩:=hh;obtain ⟨d,hd,X4⟩:=T.kind hk rfl;obtain ⟨d',hd',hkd'⟩:=T.kind hk' rfl;obtain ⟨d2,eB,Co⟩:=T.kind Zec rfl;simp only [TK.is] at X4 hkd' Co;obtain ⟨rfl,-⟩:=X4;subst hkd';subst Co;obtain ⟨B,cap,rfl,hB⟩:=S4 h hx kE hc.1;rcases hB with rfl|⟨b,off,vs,rfl,hE,C4⟩
   ·refine ⟨.string .empty,?_,by simp only [RA,R];rfl,rfl⟩
    rw [run_convert_bytes_string w s t e B _ cap hd eB hd'];cases B with
    | none=>simp [Conv.bytesToString]
    | some B =>
     exact run_bytesToString w B 0 cap [] (by simp [loadCells,loadCellsFrom])
   ·obtain ⟨e1,e2⟩:=rH hc.2 hE;refine ⟨_,run_convert_bytes_arg w s e hd eB b off xs.length cap (xs.map D.i) (by simp) (fun i hi=>C4 i _ ?_) t hd',?_,rfl⟩
    ·rw [e1];simp [hi]
    ·simp only [RA,R,strOfNums];rw [e2]
  ·cases hh
 ·unfold Ww at hh;split at hh
  ·next c1 d hb =>
   simp only [Zc,Zf] at hh;obtain ⟨rfl,rfl,rfl⟩:=hh;obtain ⟨v,hr,hv⟩:=yC (w:=w) T hb hc hx;exact ⟨v,hr,by simpa only [RA] using hv,rfl⟩
  ·cases hh
theorem K2 {F:Fix} {L:Nat→Option Obj} (h:RAs F G L st.tmps a.tmps.toList):∀ (xs:List Operand) (ts:List Nat),RAs F G L (aF C st xs ts) (xs.map a.eval)
 | [],ts=>by cases ts<;>simp [aF,RAs]
 | x::xs,[]=>by simp only [aF,List.map_cons,RAs];exact ⟨_,_,rfl,Wf h x,K2 h xs []⟩
 | x::xs,t::ts=>by simp only [aF,List.map_cons,RAs];exact ⟨_,_,rfl,Wf h x,K2 h xs ts⟩
theorem Ln {F:Fix} {L:Nat→Option Obj} (h:RAs F G L st.tmps a.tmps.toList) (hint:Nat):∀ (ps:List (Nat×Operand)) (j i:Nat) (x:AV),(Wx C st hint ps)[j]?=some (i,x) →
  ∃ v,(ps.map fun p=>(p.1,a.eval p.2))[j]?=some (i,v)∧RA F G L x v
 | [],j,i,x,hj=>by simp [Wx] at hj
 | (i0,y)::ps,0,i,x,hj=>by
  simp only [Wx,List.getElem?_cons_zero,Zc,Zf] at hj;obtain ⟨rfl,rfl⟩:=hj;exact ⟨a.eval y,rfl,Wf h y⟩
 | (i0,y)::ps,j+1,i,x,hj=>by
  simp only [Wx,List.getElem?_cons_succ] at hj;simpa using Ln h hint ps j i x hj
theorem P6 (hint:Nat):∀ (ps:List (Nat×Operand)),(Wx C st hint ps).length=ps.length
 | []=>rfl
 | (i,x)::ps=>by simp [Wx,P6 hint ps]
theorem bS {F:Fix} {L:Nat→Option Obj} (h:RAs F G L st.tmps a.tmps.toList) (t:Nat) (x:Option Operand):Y5 F G L (Zay C st t x) (x.map a.eval):=by
 cases x with
 | none=>simp [Zay,Y5]
 | some x=>simp only [Zay,Option.map_some,Y5];exact Wf h x
def aK (base:Nat) (pass:Nat→Prop) (F0:Anc) (a:Act) (tm:List AV) (dst:Option Tmp) (z:AV) (os:Z5) (K:Act→World→Prop):Prop :=
 ∀ v w' m' G',SRg base pass F0 m' G' ⟨tm,os⟩ a w'→RA ⟨w',m'⟩ G' (lk os) z v→K (a.put dst v) w'
theorem Jn {o:Oper} {s:Sem Value} {z:AV} {os:Z5} {K:Act→World→Prop} {Q:Exit→Act→World→Prop} (he:execOp a.eval o=(do pure (.value (←s)))) (ht:Kv P base pass F0 a st.tmps s w z os)
  (hn:aK base pass F0 a st.tmps o.dst z os K):o.wp P a w K Q:=by
 obtain ⟨v,w',m',G',hr,hs,hz⟩:=ht;unfold Oper.wp;rw [he];simp only [Sem.run_bind,hr,Result.andThen_ok,Sem.run_pure,Oper.upon];exact hn v w' m' G' hs hz
theorem lS {o:Oper} {s:Sem Unit} {os:Z5} {K:Act→World→Prop} {Q:Exit→Act→World→Prop} (he:execOp a.eval o=(do s;pure .skip)) (ht:kK P base pass F0 a st.tmps s w os)
  (hn:aK base pass F0 a st.tmps o.dst .dead os K):o.wp P a w K Q:=by
 obtain ⟨w',m',G',hr,hs⟩:=ht;unfold Oper.wp;rw [he];simp only [Sem.run_bind,hr,Result.andThen_ok,Sem.run_pure,Oper.upon];exact hn _ w' m' G' hs (by simp [RA])
theorem Pa {o:Oper} {f:FuncId} {args:Array Value} {z:AV} {os:Z5} {K:Act→World→Prop} {Q:Exit→Act→World→Prop} (he:(execOp a.eval o).run P w=.ok (.enter f args) w)
  (hc:Calls P f args w fun e w'=>∃ v m' G',e=.returned v∧SRg base pass F0 m' G' ⟨st.tmps,os⟩ a w'∧RA ⟨w',m'⟩ G' (lk os) z v) (hn:aK base pass F0 a st.tmps o.dst z os K):o.wp P a w K Q:=by
 unfold Oper.wp;rw [he];simp only [Oper.upon];refine hc.mono fun e w' ⟨v,m',G',he',hs,hz⟩=>?_;subst he';exact hn v w' m' G' hs hz
theorem F6 {α:Type} {a:Array α} {x:α} (h:a.toList=[x]):a=#[x]:=by cases a;simp_all
theorem F5 {α:Type} {a:Array α} {x y:α} (h:a.toList=[x,y]):a=#[x,y]:=by cases a;simp_all
theorem sF (K:Mf P C) (h:SRg base pass F0 m G st a w) {o:Oper} {c:Prop} {z:AV} {os:Z5} {N:Act→World→Prop} {Q:Exit→Act→World→Prop} (hh:Qjs C o st=some (c,z,os)) (hc:c)
  (hn:aK base pass F0 a st.tmps o.dst z os N):o.wp P a w N Q:=by
 have T:=K.1;have ev:∀ (hint:Nat) (x:Operand),RA ⟨w,m⟩ G (lk st.objs) (st.ev C hint x) (a.eval x):=fun hint x=>Wf h.tmps x;unfold Qjs at hh;split at hh
 case h_1 x Ja =>
  simp only [Zc,Zf] at hh;obtain ⟨rfl,rfl,rfl⟩:=hh;exact Jn (st:=st) (s:=pure (a.eval x)) (by simp [execOp,Ja]) (Qd h rfl (ev _ x)) hn
 case h_2 x Ja =>
  simp only [Zc,Zf] at hh;obtain ⟨rfl,rfl,rfl⟩:=hh;exact Jn (st:=st) (s:=pure (a.eval x)) (by simp [execOp,Ja]) (Qd h rfl (ev _ x)) hn
 case h_3 cnd x y Ja =>
  split at hh
  ·next r hr =>
   simp only [Zc,Zf] at hh;obtain ⟨rfl,rfl,rfl⟩:=hh;have h0:=ev 0 cnd;unfold Zas at hr;split at hr
   ·next hb =>
    simp only [Zc] at hr;subst hr;rw [hb] at h0;simp only [RA,R] at h0;exact Jn (st:=st) (s:=pure (a.eval x)) (by simp [execOp,Ja,h0,asBool]) (Qd h rfl (ev _ x)) hn
   ·next hb =>
    simp only [Zc] at hr;subst hr;rw [hb] at h0;simp only [RA,R] at h0;exact Jn (st:=st) (s:=pure (a.eval y)) (by simp [execOp,Ja,h0,asBool]) (Qd h rfl (ev _ y)) hn
   ·cases hr
  ·cases hh
 case h_4 e Ja =>
  split at hh
  ·next k hd=>exact Jn (st:=st) (by simp only [execOp,Ja]) (vJ T h hh hc) hn
  ·cases hh
 case h_5 e x Ja =>
  split at hh
  ·next k hd=>exact Jn (st:=st) (by simp only [execOp,Ja]) (oA h (ev _ x) hh hc) hn
  ·cases hh
 case h_6 t ps Ja =>
  refine Jn (st:=st) (s:=Instr.build t (ps.toList.map fun p=>(p.1,a.eval p.2)).toArray) ?_ (uG T h (by rw [P6];simp) (Ln h.tmps 0 ps.toList) hh hc) hn
  simp only [execOp,Ja]
  congr 2
  cases ps;simp
 case h_7 t n ps Ja =>
  split at hh
  ·next k hd =>
   refine Jn (st:=st) (s:=Instr.buildSlice t n (ps.toList.map fun p=>(p.1,a.eval p.2)).toArray) ?_ (cQ T h (by rw [P6];simp) (Ln h.tmps _ ps.toList) hh hc) hn
   simp only [execOp,Ja]
   congr 2
   cases ps;simp
  ·cases hh
 case h_8 t p Ja=>exact Jn (st:=st) (by simp only [execOp,Ja]) (xY T h (ev _ p) hh hc) hn
 case h_9 t p x Ja =>
  obtain ⟨rfl,hs⟩:=rU (P:=P) T h (ev 0 p) (ev t x) hh hc;exact lS (st:=st) (by simp only [execOp,Ja]) hs hn
 case h_10 op t x y ty Ja =>
  unfold Ww at hh;split at hh
  ·next c1 d hb =>
   simp only [Zc,Zf] at hh;obtain ⟨rfl,rfl,rfl⟩:=hh;obtain ⟨v,hr,hv⟩:=Zdz (w:=w) (ox:=x) (oy:=y) T hb hc (ev t x) (ev t y);exact Jn (st:=st) (s:=Wc op t x y (a.eval x) (a.eval y)) (by simp only [execOp,Ja,Wc]) (Qd h hr (by simpa only [RA] using hv)) hn
  ·cases hh
 case h_11 op t x Ja =>
  unfold Ww at hh;split at hh
  ·next c1 d hb =>
   simp only [Zc,Zf] at hh;obtain ⟨rfl,rfl,rfl⟩:=hh;obtain ⟨v,hr,hv⟩:=Zeu (P:=P) (w:=w) hb hc (ev t x);exact Jn (st:=st) (by simp only [execOp,Ja]) (Qd h hr (by simpa only [RA] using hv)) hn
  ·cases hh
 case h_12 s t x Ja =>
  obtain ⟨v,hr,hv,rfl⟩:=uB T h hh hc (ev s x);exact Jn (st:=st) (by simp only [execOp,Ja]) (Qd h hr hv) hn
 case h_13 f first caps Ja =>
  split at hh
  ·next hf =>
   simp only [Zc,Zf] at hh;obtain ⟨rfl,rfl,rfl⟩:=hh;refine Jn (st:=st) (s:=Instr.makeFunc (.func f) (first.map a.eval) (caps.map a.eval)) (by simp only [execOp,Ja]) (Qd h (v:=.func (.func f) #[] (caps.toList.map a.eval).toArray) ?_ (sS (K2 h.tmps caps.toList []))) hn
   have hf':first=#[]:=by cases first;simp_all
   subst hf';simp [Instr.makeFunc];cases caps;simp
  ·cases hh
 case h_14 t l cp Ja =>
  split at hh
  ·next k hd=>exact Jn (st:=st) (by simp only [execOp,Ja]) (eL T h (ev _ l) (ev _ cp) hh hc) hn
  ·cases hh
 case h_15 t x lo hi mx Ja =>
  exact Jn (st:=st) (by simp only [execOp,Ja]) (sQ T h (ev _ x) (bS h.tmps _ lo) (bS h.tmps _ hi) (bS h.tmps _ mx) hh hc) hn
 case h_16 t Ja =>
  split at hh
  ·next k hd=>exact Jn (st:=st) (by simp [execOp,Ja]) (kT (t:=t) h hh) hn
  ·cases hh
 case h_17 t x i ok Ja=>exact Jn (st:=st) (by simp only [execOp,Ja]) (pC T h (ev _ x) (ev _ i) hh hc) hn
 case h_18 t x i y Ja =>
  obtain ⟨rfl,hs⟩:=eI (P:=P) T h (ev 0 x) (ev 0 i) (ev _ y) hh hc;exact lS (st:=st) (by simp only [execOp,Ja]) hs hn
 case h_19 t p f Ja=>exact Jn (st:=st) (by simp only [execOp,Ja]) (eR T h (ev _ p) hh hc) hn
 case h_20 t x f Ja=>exact Jn (st:=st) (by simp only [execOp,Ja]) (uX T h (ev _ x) hh hc) hn
 case h_21 t x i Ja=>exact Jn (st:=st) (by simp only [execOp,Ja]) (eN T h (ev _ x) (ev _ i) hh hc) hn
 case h_22 t x i Ja=>exact Jn (st:=st) (by simp only [execOp,Ja]) (tF T h (ev _ x) (ev _ i) hh hc) hn
 case h_23 x i Ja=>exact Jn (st:=st) (by simp only [execOp,Ja]) (lV h (ev _ x) hh) hn
 case h_24 cl Ja =>
  split at hh
  case h_1 hcal =>
   split at hh
   ·next x t hx ht =>
    have e1:=F6 hx;have e2:=F6 ht;refine Jn (st:=st) (s:=Builtin.len_ #[t] o.type #[a.eval x]) ?_ (Zc3 T h (ev t x) hh hc o.type) hn;simp [execOp,Ja,resolve,hcal,e1,e2,invoke,builtin]
   ·cases hh
  case h_2 hcal =>
   split at hh
   ·next s x t t' k hx ht hk =>
    split at hh
    ·next htt =>
     subst htt;have e1:=F5 hx;have e2:=F5 ht;refine Jn (st:=st) (s:=Builtin.append_ #[t,t] o.type #[a.eval s,a.eval x]) ?_ (qI T h (ev t s) (ev t x) hh hc o.type) hn;simp [execOp,Ja,resolve,hcal,e1,e2,invoke,builtin]
    ·cases hh
   ·cases hh
  case h_3 hcal =>
   split at hh
   ·next x y t ts hx ht =>
    unfold Ww at hh;split at hh
    ·next c1 d hb =>
     simp only [Zc,Zf] at hh;obtain ⟨rfl,rfl,rfl⟩:=hh;have e1:=F5 hx;obtain ⟨v,hr,hv⟩:=Zcu (P:=P) (w:=w) hb hc (ev t x) (ev t y) cl.argTypes o.type;refine Jn (st:=st) (s:=Builtin.min_ cl.argTypes o.type #[a.eval x,a.eval y]) ?_ (Qd h hr (by simpa only [RA] using hv)) hn
     simp [execOp,Ja,resolve,hcal,e1,invoke,builtin]
    ·cases hh
   ·cases hh
  case h_4 hcal =>
   split at hh
   ·next x y t ts hx ht =>
    unfold Ww at hh;split at hh
    ·next c1 d hb =>
     simp only [Zc,Zf] at hh;obtain ⟨rfl,rfl,rfl⟩:=hh;have e1:=F5 hx;obtain ⟨v,hr,hv⟩:=Zcv (P:=P) (w:=w) hb hc (ev t x) (ev t y) cl.argTypes o.type;refine Jn (st:=st) (s:=Builtin.max_ cl.argTypes o.type #[a.eval x,a.eval y]) ?_ (Qd h hr (by simpa only [RA] using hv)) hn
     simp [execOp,Ja,resolve,hcal,e1,invoke,builtin]
    ·cases hh
   ·cases hh
  case h_5 f hcal =>
   split at hh
   ·next k hk =>
    obtain ⟨Et,Be⟩:=Au K h (K2 h.tmps cl.args.toList cl.argTypes.toList) hh hc;refine Pa (st:=st) (args:=(cl.args.toList.map a.eval).toArray) ?_ Be hn;have:=Et (cl.args.toList.map a.eval).toArray w;have e:cl.args.map a.eval=(cl.args.toList.map a.eval).toArray:=by cases cl.args;simp
    simp only [execOp,Ja,resolve,hcal,Act.eval,Deferred.ofValue];simpa [invoke,e] using this
   ·cases hh
  case h_6 f hcal =>
   split at hh
   ·next k hk =>
    have hf:=ev 0 (.tmp f);unfold jZ at hh;have e:cl.args.map a.eval=(cl.args.toList.map a.eval).toArray:=by cases cl.args;simp
    split at hh
    ·next g caps hfv =>
     rw [hfv] at hf;simp only [RA,R] at hf;obtain ⟨cs,Zx7,A3⟩:=hf;obtain ⟨Et,Be⟩:=Au K h (RAs.append (K2 h.tmps cl.args.toList cl.argTypes.toList) (RAs.of_Rs A3)) hh hc;refine Pa (st:=st) (args:=(cl.args.toList.map a.eval++cs).toArray) ?_ Be hn;have:=Et (cl.args.toList.map a.eval++cs).toArray w;simp only [execOp,Ja,resolve,hcal,Zx7,Deferred.ofValue];simpa [invoke,e] using this
    ·next g caps hfv =>
     rw [hfv] at hf;simp only [RA] at hf;obtain ⟨cs,Zx7,A3⟩:=hf;obtain ⟨Et,Be⟩:=Au K h (RAs.append (K2 h.tmps cl.args.toList cl.argTypes.toList) A3) hh hc;refine Pa (st:=st) (args:=(cl.args.toList.map a.eval++cs).toArray) ?_ Be hn;have:=Et (cl.args.toList.map a.eval++cs).toArray w;simp only [execOp,Ja,resolve,hcal,Zx7,Deferred.ofValue];simpa [invoke,e] using this
    ·cases hh
   ·cases hh
  case h_7=>cases hh
 case h_25 x Ja =>
  have hx:=ev 0 x;unfold xE at hh;split at hh
  ·next i f hi =>
   split at hh
   ·next ob hl =>
    split at hh
    ·next hb =>
     simp only [Zc,Zf] at hh;obtain ⟨rfl,rfl,rfl⟩:=hh;rw [hi] at hx;have hx':=hx;simp only [RA,hl] at hx;obtain ⟨b,g1,g2⟩:=hx.2 hb;rw [g2] at hx';refine Jn (st:=st) (s:=pure (.pointer (some ⟨b,f,none⟩))) (by simp [execOp,Ja,g2]) (Qd h (by simp) hx') hn
    ·cases hh
   ·cases hh
  ·next s y hi =>
   simp only [Zc,Zf] at hh;obtain ⟨rfl,rfl,rfl⟩:=hh;rw [hi] at hx;have hx':=hx;simp only [RA,R] at hx;obtain ⟨b,off,u,g2,_⟩:=hx;rw [g2] at hx';refine Jn (st:=st) (s:=pure (.pointer (some ⟨b,off,none⟩))) (by simp [execOp,Ja,g2]) (Qd h (by simp) hx') hn
  ·cases hh
 case h_26=>cases hh
end
def Qm {α:Type} (S:Nat→Prop) (f:Z5→Option (Prop×α×Z5)):Prop :=
 ∀ o o' c x p,(∀ k,S k→lk o k=lk o' k)→f o=some (c,x,p)→∃ p',f o'=some (c,x,p')∧(∀ k,S k→lk p k=lk p' k)∧(∀ k,¬ S k→lk p k=lk o k∧lk p' k=lk o' k)
section
variable {α β:Type} {S:Nat→Prop}
theorem Qm.ret (c:Prop) (x:α):Qm S (fun o=>some (c,x,o)):=by
 intro o o' c' x' p h he;simp only [Zc,Zf] at he;obtain ⟨rfl,rfl,rfl⟩:=he;exact ⟨o',rfl,h,fun k _=>⟨rfl,rfl⟩⟩
theorem Qm.none:Qm (α:=α) S (fun _=>none):=by
 intro o o' c' x' p h he;cases he
theorem Qm.upd {i:Nat} (hi:S i) (c:Prop) (x:α) (b:Obj):Qm S (fun o=>some (c,x,upd o i b)):=by
 intro o o' c' x' p h he;simp only [Zc,Zf] at he;obtain ⟨rfl,rfl,rfl⟩:=he;refine ⟨_,rfl,fun k hk=>?_,fun k hk=>?_⟩
 ·rw [J2,J2,h k hk]
 ·have:k≠i:=fun e=>hk (e▸hi);rw [J2,J2,if_neg this,if_neg this];exact ⟨rfl,rfl⟩
theorem Qm.lk {i:Nat} (hi:S i) {g:Option Obj→Z5→Option (Prop×α×Z5)} (h:∀ v,Qm S (g v)):Qm S (fun o=>g (lk o i) o):=by
 intro o o' c x p ho he;have:=h (Go.Am.lk o i) o o' c x p ho he;rw [ho i hi] at this;exact this
theorem Qm.bind {f:Z5→Option (Prop×α×Z5)} {g:Prop→α→Z5→Option (Prop×β×Z5)} (hf:Qm S f) (hg:∀ c x,Qm S (g c x)) :
  Qm S (fun o=>match f o with|some (c,x,p)=>g c x p|Option.none=>Option.none):=by
 intro o o' c x p ho he;simp only at he;split at he
 ·next c1 x1 p1 Qcz =>
  obtain ⟨p1',k1,k2,k3⟩:=hf o o' c1 x1 p1 ho Qcz;obtain ⟨p',j1,j2,j3⟩:=hg c1 x1 p1 p1' c x p k2 he;refine ⟨p',?_,j2,fun k hk=>⟨(j3 k hk).1.trans (k3 k hk).1,(j3 k hk).2.trans (k3 k hk).2⟩⟩;simp only [k1];exact j1
 ·cases he
theorem Qm.bindE {f:Z5→Option (Prop×α×Z5)} {g:Prop→α→Z5→Option (Prop×β×Z5)} {F:Z5→Option (Prop×β×Z5)} (hf:Qm S f) (hg:∀ c x,Qm S (g c x))
  (h0:∀ o,f o=Option.none→F o=Option.none) (h1:∀ o c x p,f o=some (c,x,p)→F o=g c x p):Qm S F:=by
 have:F=fun o=>match f o with|some (c,x,p)=>g c x p|Option.none=>Option.none:=by
  funext o
  split
  ·next c x p h=>exact h1 o c x p h
  ·next h=>exact h0 o h
 rw [this];exact Qm.bind hf hg
theorem Qm.lkE {i:Nat} (hi:S i) {g:Option Obj→Z5→Option (Prop×α×Z5)} {F:Z5→Option (Prop×α×Z5)} (h:∀ v,Qm S (g v)) (hF:∀ o v,Go.Am.lk o i=v→F o=g v o):Qm S F:=by
 have:F=fun o=>g (Go.Am.lk o i) o:=by
  funext o
  exact hF o _ rfl
 rw [this];exact Qm.lk hi h
theorem Qm.congr {f g:Z5→Option (Prop×α×Z5)} (h:Qm S f) (e:∀ o,f o=g o):Qm S g:=by
 have:f=g:=funext e;exact this▸h
theorem Qm.mono {S':Nat→Prop} {f:Z5→Option (Prop×α×Z5)} (h:Qm S f) (hs:∀ k,S k→S' k):Qm S' f:=by
 intro o o' c x p ho he;obtain ⟨p',k1,k2,k3⟩:=h o o' c x p (fun k hk=>ho k (hs k hk)) he;refine ⟨p',k1,fun k hk=>?_,fun k hk=>k3 k (fun h=>hk (hs k h))⟩;by_cases hs:S k
 ·exact k2 k hs
 ·rw [(k3 k hs).1,(k3 k hs).2,ho k hk]
end
section
variable {C:Ctx} {S:Nat→Prop}
theorem oC {e key:Nat} {x:AV} (hk:S key):Qm S (Th C e key x):=by
 refine Qm.congr (Qm.lk (g:=fun v o=>match C.ag e,v with
  | some ag,none=>some (x.fits (C.size e),AV.ref key 0,upd o key (.box ag (x.cells ag (C.size e))))
  | _,_=>none) hk fun v=>?_) (fun o=>rfl)
 split
 ·exact Qm.upd hk _ _ _
 ·exact Qm.none
theorem bK {t:Nat} {p:AV} (hk:∀ k∈p.keys,S k):Qm S (G6 C t p):=by
 cases p with
 | d x =>
  cases x with
  | ptr s x =>
   refine Qm.congr (f:=fun o=>match C.ag t with
    | some true=>if s=C.size t then some (True,.d x.asAgg,o) else none
    | some false=>if s=1 then some (True,.d (x.cell 0),o) else none
    | none=>none) ?_ (fun o=>rfl)
   repeat' split
   all_goals first|exact Qm.ret _ _|exact Qm.none
  | _=>exact Qm.none
 | ref i f =>
  have hi:=hk i (by simp [AV.keys])
  refine Qm.congr (Qm.lk (g:=fun v o=>match v with
   | some (.box _ cells)=>match C.ag t with
    | some true=>if f+C.size t≤cells.length then some (True,dD ((cells.drop f).take (C.size t)),o) else none
    | some false=>if f<cells.length then some (True,cells.getD f .dead,o) else none
    | none=>none
   | some (.fbox s x)=>match C.ag t with
    | some true=>if f=0∧s=C.size t then some (True,.d x.asAgg,o) else none
    | some false=>if f<s then some (True,.d (x.cell f),o) else none
    | none=>none
   | _=>none) hi fun v=>?_) (fun o=>rfl)
  repeat' split
  all_goals first|exact Qm.ret _ _|exact Qm.none
 | rref i n e f =>
  have hi:=hk i (by simp [AV.keys])
  refine Qm.congr (Qm.lk (g:=fun v o=>match v with
   | some (.row s els _)=>match C.ag t with
    | some true=>if f=0∧s=C.size t then some (n=els.length∧e<els.length,.d (el els e).asAgg,o) else none
    | some false=>if f<s then some (n=els.length∧e<els.length,.d ((el els e).cell f),o) else none
    | none=>none
   | _=>none) hi fun v=>?_) (fun o=>rfl)
  repeat' split
  all_goals first|exact Qm.ret _ _|exact Qm.none
 | _=>exact Qm.none
theorem Zf6 {t:Nat} {p:AV} (hk:∀ k∈p.keys,S k):Qm S (Rr C t p):=by
 cases p with
 | rref i n e f =>
  have hi:=hk i (by simp [AV.keys])
  have hj:=hk (50000+i) (by simp [AV.keys])
  refine Qm.lkE hj (g:=fun v o=>match v with
   | some (.hole i' n0 e0 f0 x)=>if i'=i∧f0=f then match lk o i,C.ag t with
     | some (.row s els _),some false=>some (n=n0∧n=els.length∧e=e0,x,o)
     | _,_=>none
    else G6 C t (.rref i n e f) o
   | _=>G6 C t (.rref i n e f) o) (fun v=>?_) (fun o v h=>by simp only [Rr,h];rcases v with _|(_|_|_|_|_|_|_)<;>rfl)
  split
  ·next i' n0 e0 f0 x =>
   split
   ·refine Qm.lkE hi (g:=fun v o=>match v,C.ag t with
     | some (.row s els _),some false=>some (n=n0∧n=els.length∧e=e0,x,o)
     | _,_=>none) (fun v=>?_) (fun o v h=>by simp only [h])
    split
    ·exact Qm.ret _ _
    ·exact Qm.none
   ·exact bK hk
  ·exact bK hk
 | _=>exact Qm.congr (bK (C:=C) (t:=t) hk) (fun o=>rfl)
theorem Zc4 {x:AV} (hk:∀ k∈x.keys,S k):Qm S (Cw x):=by
 cases x with
 | d x=>exact Qm.ret _ _
 | nils s=>exact Qm.ret _ _
 | sl i n =>
  have hi:=hk i (by simp [AV.keys])
  refine Qm.lkE hi (g:=fun v o=>match v with
   | some (.row s els _)=>some (n=els.length,D.list s els,upd o i (.row s els els.length))
   | _=>none) (fun v=>?_) (fun o v h=>?_)
  ·split
   ·exact Qm.upd hi _ _ _
   ·exact Qm.none
  ·simp only [Cw,h];rcases v with _|(_|_|_|_|_|_|_)<;>rfl
 | _=>exact Qm.none
theorem iD:∀ {l:List AV} (_:∀ k∈keysAll l,S k),Qm S (P1 l)
 | [],_=>Qm.ret _ _
 | x::r,h=>by
  simp only [keysAll,List.mem_append] at h;refine Qm.bindE (g:=fun c y o'=>match P1 r o' with
   | some (c',l,o'')=>some (c∧c',y::l,o'')
   | none=>none) (Zc4 (fun k hk=>h k (.inl hk))) (fun c y=>?_) (fun o e=>by simp only [P1,e]) (fun o c x p e=>by simp only [P1,e];try rfl)
  refine Qm.bindE (g:=fun c' l o''=>some (c∧c',y::l,o'')) (iD (fun k hk=>h k (.inr hk))) (fun c y=>Qm.ret _ _) (fun o e=>by simp only [e]) (fun o c x p e=>by simp only [e];try rfl)
theorem L6 {x:AV} (hk:∀ k∈x.keys,S k):Qm S (pur 1 x):=by
 cases x with
 | d x=>exact Qm.ret _ _
 | nils s=>exact Qm.ret _ _
 | sl i n =>
  have hi:=hk i (by simp [AV.keys])
  refine Qm.lkE hi (g:=fun v o=>match v with
   | some (.row s els _)=>some (n=els.length,D.list s els,upd o i (.row s els els.length))
   | _=>none) (fun v=>?_) (fun o v h=>?_)
  ·split
   ·exact Qm.upd hi _ _ _
   ·exact Qm.none
  ·simp only [pur,h];rcases v with _|(_|_|_|_|_|_|_)<;>rfl
 | ref i f =>
  have hi:=hk i (by simp [AV.keys])
  cases f with
  | succ f=>exact Qm.none
  | zero =>
   refine Qm.lkE hi (g:=fun v o=>match v with
    | some (.fbox s x)=>some (True,D.ptr s x,o)
    | _=>none) (fun v=>?_) (fun o v h=>?_)
   ·split
    ·exact Qm.ret _ _
    ·exact Qm.none
   ·simp only [pur,h];cases v with
    | none=>rfl
    | some ob=>cases ob<;>simp [purs]
 | mpr i =>
  have hi:=hk i (by simp [AV.keys])
  refine Qm.lkE hi (g:=fun v o=>match v with
   | some (.mp ks vs _)=>some (True,D.map ks vs,upd o i (.mp ks vs true))
   | _=>none) (fun v=>?_) (fun o v h=>?_)
  ·split
   ·exact Qm.upd hi _ _ _
   ·exact Qm.none
  ·simp only [pur,h];rcases v with _|(_|_|_|_|_|_|_)<;>rfl
 | agg l =>
  cases hf:Ed l with
  | some xs=>exact Qm.congr (Qm.ret True (D.agg xs)) (fun o=>by simp only [pur,hf])
  | none =>
   refine Qm.bindE (g:=fun c xs o'=>some (c,D.agg xs,o')) (iD (l:=l) (fun k h=>hk k (by simpa [AV.keys] using h))) (fun c y=>Qm.ret _ _) (fun o e=>by simp only [pur,hf,e];cases l<;>simp [purs]) (fun o c x p e=>by simp only [pur,hf,e])
 | tup l=>exact Qm.congr Qm.none (fun o=>by cases l<;>simp [pur,purs])
 | clo f l=>exact Qm.congr Qm.none (fun o=>by cases l<;>simp [pur,purs])
 | rref a b c d=>exact Qm.none
 | bad t=>exact Qm.none
 | sb a b c=>exact Qm.none
 | dead=>exact Qm.none
theorem S3 {C:Ctx} (hC:C.dp=1) {t:Nat} {p x:AV} (hp:∀ k∈p.keys,S k) (hx:∀ k∈x.keys,S k):Qm S (U2 C t p x):=by
 cases p with
 | ref i f =>
  have hi:=hp i (by simp [AV.keys])
  refine Qm.lkE hi (g:=fun v o=>match v with
   | some (.box ag cells)=>match C.ag t with
    | some true=>if f+C.size t≤cells.length then some (x.fits (C.size t),AV.dead,upd o i (.box ag (Po cells f (x.cells true (C.size t))))) else none
    | some false=>if f<cells.length then some (x.fits 1∧C.size t=1,AV.dead,upd o i (.box ag (Po cells f (x.cells false 1)))) else none
    | none=>none
   | _=>none) (fun v=>?_) (fun o v h=>?_)
  ·repeat' split
   all_goals first|exact Qm.upd hi _ _ _|exact Qm.none
  ·simp only [U2,h];rcases v with _|(_|_|_|_|_|_|_)<;>rfl
 | rref i n e f =>
  have hi:=hp i (by simp [AV.keys])
  refine Qm.lkE hi (g:=fun v o=>match v with
   | some (.row _ _ _)=>(match pur 1 x o with
    | some (c,y,o')=>(match lk o' i with
     | some (.row s els k)=>match C.ag t with
      | some true=>if f=0∧s=C.size t then some (c∧n=els.length∧e<els.length∧k≤e∧y.fits s,AV.dead,upd o' i (.row s (els.set e y) k)) else none
      | some false=>if f<s then some (c∧n=els.length∧e<els.length∧k≤e∧y.fits 1∧C.size t=1,AV.dead,upd o' i (.row s (els.set e ((el els e).setCell f (y.cell 0))) k)) else none
      | none=>none
     | _=>none)
    | none=>none)
   | _=>none) (fun v=>?_) (fun o v h=>?_)
  ·split
   ·refine Qm.bindE (g:=fun c y o'=>(match lk o' i with
     | some (.row s els k)=>match C.ag t with
      | some true=>if f=0∧s=C.size t then some (c∧n=els.length∧e<els.length∧k≤e∧y.fits s,AV.dead,upd o' i (.row s (els.set e y) k)) else none
      | some false=>if f<s then some (c∧n=els.length∧e<els.length∧k≤e∧y.fits 1∧C.size t=1,AV.dead,upd o' i (.row s (els.set e ((el els e).setCell f (y.cell 0))) k)) else none
      | none=>none
     | _=>none)) (L6 hx) (fun c y=>?_) (fun o h=>by simp only [h]) (fun o c x p h=>by simp only [h];try rfl)
    refine Qm.lkE hi (g:=fun v o'=>match v with
     | some (.row s els k)=>match C.ag t with
      | some true=>if f=0∧s=C.size t then some (c∧n=els.length∧e<els.length∧k≤e∧y.fits s,AV.dead,upd o' i (.row s (els.set e y) k)) else none
      | some false=>if f<s then some (c∧n=els.length∧e<els.length∧k≤e∧y.fits 1∧C.size t=1,AV.dead,upd o' i (.row s (els.set e ((el els e).setCell f (y.cell 0))) k)) else none
      | none=>none
     | _=>none) (fun v=>?_) (fun o v h=>by simp only [h];try rfl)
    repeat' split
    all_goals first|exact Qm.upd hi _ _ _|exact Qm.none
   ·exact Qm.none
  ·simp only [U2,hC,h];cases v with
   | none=>rfl
   | some ob =>
    cases ob with
    | row s els k =>
     simp only;cases pur 1 x o with
     | none=>rfl
     | some r=>rfl
    | _=>rfl
 | _=>exact Qm.none
theorem Zb6 {C:Ctx} (hC:C.dp=1) {t:Nat} {p x:AV} (hp:∀ k∈p.keys,S k) (hx:∀ k∈x.keys,S k):Qm S (Al C t p x):=by
 cases p with
 | rref i n e f =>
  have hi:=hp i (by simp [AV.keys])
  have hj:=hp (50000+i) (by simp [AV.keys])
  cases x with
  | sl j jm =>
   refine Qm.lkE hj (g:=fun v o=>match v with
    | some (.slot e0 f0)=>if f0=f then match lk o i,C.ag t with
      | some (.row s els k),some false=>if f<s then some (e=e0∧k≤e∧n=els.length∧e<els.length∧C.size t=1,AV.dead,upd (upd o i (.row s (els.set e ((el els e).setCell f .any)) (e+1))) (50000+i) (.hole i n e f (.sl j jm))) else none
      | _,_=>none
     else U2 C t (.rref i n e f) (.sl j jm) o
    | _=>U2 C t (.rref i n e f) (.sl j jm) o) (fun v=>?_) (fun o v h=>by simp only [Al,h];rcases v with _|(_|_|_|_|_|_|_)<;>rfl)
   split
   ·next e0 f0 =>
    split
    ·refine Qm.lkE hi (g:=fun v o=>match v,C.ag t with
      | some (.row s els k),some false=>if f<s then some (e=e0∧k≤e∧n=els.length∧e<els.length∧C.size t=1,AV.dead,upd (upd o i (.row s (els.set e ((el els e).setCell f .any)) (e+1))) (50000+i) (.hole i n e f (.sl j jm))) else none
      | _,_=>none) (fun v=>?_) (fun o v h=>by simp only [h])
     split
     ·split
      ·next s els k _ _ =>
       refine Qm.bindE (f:=fun o=>some (True,(),upd o i (.row s (els.set e ((el els e).setCell f .any)) (e+1)))) (g:=fun _ _ o=>some (e=e0∧k≤e∧n=els.length∧e<els.length∧C.size t=1,AV.dead,upd o (50000+i) (.hole i n e f (.sl j jm)))) (Qm.upd hi _ _ _) (fun _ _=>Qm.upd hj _ _ _) (fun o h=>by cases h) (fun o c x p h=>by
        simp only [Zc,Zf] at h;obtain ⟨-,-,rfl⟩:=h;rfl)
      ·exact Qm.none
     ·exact Qm.none
    ·exact S3 hC hp hx
   ·exact S3 hC hp hx
  | _=>exact Qm.congr (S3 hC (t:=t) hp hx) (fun o=>rfl)
 | _=>cases x<;>exact Qm.congr (S3 hC (t:=t) hp hx) (fun o=>rfl)
theorem lY {t f:Nat} {p:AV} (hp:∀ k∈p.keys,S k):Qm S (Kh C t p f):=by
 unfold Kh;split
 ·next off sz _ =>
  cases p with
  | ref i f0 =>
   have hi:=hp i (by simp [AV.keys])
   refine Qm.lkE hi (g:=fun v o=>match v with
    | some ob=>if ob.isBox=true then some (True,.ref i (f0+off),o) else none
    | none=>none) (fun v=>?_) (fun o v h=>by simp only [h];cases v<;>rfl)
   repeat' split
   all_goals first|exact Qm.ret _ _|exact Qm.none
  | rref i n e f0 =>
   have hi:=hp i (by simp [AV.keys])
   refine Qm.lkE hi (g:=fun v o=>match v with
    | some (.row _ els _)=>some (n=els.length,.rref i n e (f0+off),o)
    | _=>none) (fun v=>?_) (fun o v h=>by simp only [h];rcases v with _|(_|_|_|_|_|_|_)<;>rfl)
   repeat' split
   all_goals first|exact Qm.ret _ _|exact Qm.none
  | d x =>
   cases x with
   | ptr s x =>
    simp only;repeat' split
    all_goals first|exact Qm.ret _ _|exact Qm.none
   | _=>exact Qm.none
  | _=>exact Qm.none
 ·exact Qm.none
theorem iX {kt et:Nat} {ks vs:List D} {i:D} {ok:Bool}:Qm S (Py C kt et ks vs i ok):=by
 unfold Py;repeat' split
 all_goals first|exact Qm.ret _ _|exact Qm.none
theorem xX {t:Nat} {x ix:AV} {ok:Bool} (hp:∀ k∈x.keys,S k):Qm S (B1 C t x ix ok):=by
 unfold B1;split
 ·split
  ·exact iX
  ·next j =>
   have hi:=hp j (by simp [AV.keys])
   refine Qm.lkE hi (g:=fun v o=>match v with
    | some (.mp ks vs _)=>Py C _ _ ks vs _ ok o
    | _=>none) (fun v=>?_) (fun o v h=>by simp only [h];rcases v with _|(_|_|_|_|_|_|_)<;>rfl)
   split
   ·exact iX
   ·exact Qm.none
  ·exact Qm.none
 ·exact Qm.none
theorem tQ {key:Nat} (hk:S key):Qm S (Se key):=by
 refine Qm.congr (Qm.lk (g:=fun v o=>match v with
  | none=>some (True,AV.mpr key,upd o key (.mp [] [] false))
  | some _=>none) hk fun v=>?_) (fun o=>rfl)
 split
 ·exact Qm.upd hk _ _ _
 ·exact Qm.none
theorem kR (hC:C.dp=1) {t:Nat} {x ix y:AV} (hp:∀ k∈x.keys,S k) (hy:∀ k∈y.keys,S k):Qm S (G4 C t x ix y):=by
 unfold G4;split
 ·next kt et i j _ =>
  have hi:=hp j (by simp [AV.keys])
  refine Qm.bindE (g:=fun c z o'=>(match lk o' j with
   | some (.mp ks vs false)=>some (c∧Ul (C.τ kt).kind i∧Uc (C.τ kt).kind ks,AV.dead,upd o' j (.mp (dE i ks) (Bt i z ks vs) false))
   | _=>none)) (L6 hy) (fun c z=>?_) (fun o h=>by simp only [hC,h]) (fun o c x p h=>by simp only [hC,h];try rfl)
  refine Qm.lkE hi (g:=fun v o'=>match v with
   | some (.mp ks vs false)=>some (c∧Ul (C.τ kt).kind i∧Uc (C.τ kt).kind ks,AV.dead,upd o' j (.mp (dE i ks) (Bt i z ks vs) false))
   | _=>none) (fun v=>?_) (fun o v h=>by simp only [h];try rfl)
  repeat' split
  all_goals first|exact Qm.upd hi _ _ _|exact Qm.none
 ·exact Qm.none
theorem lZ {t:Nat} {x ix:AV} (hp:∀ k∈x.keys,S k):Qm S (Kg C t x ix):=by
 unfold Kg;split
 ·next e i _ =>
  cases x with
  | d y=>exact Qm.ret _ _
  | sl k n =>
   have hi:=hp k (by simp [AV.keys])
   refine Qm.lkE hi (g:=fun v o=>match v with
    | some (.row s els _)=>if s=C.size e then some (n=els.length∧i.isAnyInt∧0≤i.i∧i.i<els.length,.rref k n i.i.toNat 0,o) else none
    | _=>none) (fun v=>?_) (fun o v h=>by simp only [h];rcases v with _|(_|_|_|_|_|_|_)<;>rfl)
   repeat' split
   all_goals first|exact Qm.ret _ _|exact Qm.none
  | sb k n f =>
   have hi:=hp k (by simp [AV.keys])
   refine Qm.lkE hi (g:=fun v o=>match v with
    | some (.row s els _)=>if s=C.size e then some (n=els.length∧i.isAnyInt∧0≤i.i∧(f:Int)+i.i<els.length,.rref k n (f+i.i.toNat) 0,o) else none
    | _=>none) (fun v=>?_) (fun o v h=>by simp only [h];rcases v with _|(_|_|_|_|_|_|_)<;>rfl)
   repeat' split
   all_goals first|exact Qm.ret _ _|exact Qm.none
  | _=>exact Qm.none
 ·next n e k j _ =>
  split
  ·cases x with
   | ref i f0 =>
    have hi:=hp i (by simp [AV.keys])
    refine Qm.lkE hi (g:=fun v o=>match v with
     | some ob=>if ob.isBox=true then some (True,.ref i (f0+j.toNat),o) else none
     | none=>none) (fun v=>?_) (fun o v h=>by simp only [h];cases v<;>rfl)
    repeat' split
    all_goals first|exact Qm.ret _ _|exact Qm.none
   | d y =>
    cases y with
    | ptr s y =>
     simp only;repeat' split
     all_goals first|exact Qm.ret _ _|exact Qm.none
    | _=>exact Qm.none
   | _=>exact Qm.none
  ·exact Qm.none
 ·exact Qm.none
theorem Zc8 {t:Nat} {x ix:AV}:Qm S (D5 C t x ix):=by
 unfold D5;repeat' split
 all_goals first|exact Qm.ret _ _|exact Qm.none
theorem Zb9 (hC:C.dp=1) {t:Nat} {x:AV} {lo hi mx:Option AV} (hp:∀ k∈x.keys,S k):Qm S (An C t x lo hi mx):=by
 unfold An;split
 ·split
  ·split;all_goals first|exact Qm.ret _ _|exact Qm.none
  ·exact Qm.none
 ·next e _ =>
  refine Qm.bindE (g:=fun c y o'=>match lo,hi with
   | some (.d a),some (.d b)=>some (c∧y.isList (C.size e)∧a.isAnyInt∧b.isAnyInt∧0≤a.i∧a.i≤b.i∧b.i≤y.l.length,.d (.list (C.size e) ((y.l.take b.i.toNat).drop a.i.toNat)),o')
   | some (.d a),none=>some (c∧y.isList (C.size e)∧a.isAnyInt∧0≤a.i∧a.i≤y.l.length,.d (.list (C.size e) (y.l.drop a.i.toNat)),o')
   | none,some (.d b)=>some (c∧y.isList (C.size e)∧b.isAnyInt∧0≤b.i∧b.i≤y.l.length,.d (.list (C.size e) (y.l.take b.i.toNat)),o')
   | _,_=>none) (L6 hp) (fun c y=>?_) (fun o h=>by simp only [hC,h]) (fun o c x p h=>by simp only [hC,h];try rfl)
  split;all_goals first|exact Qm.ret _ _|exact Qm.none
 ·next e m _ =>
  refine Qm.bindE (g:=fun c y o'=>match lo,hi with
   | some (.d a),some (.d b)=>some (c∧y.isList (C.size e)∧a.isAnyInt∧b.isAnyInt∧m.isAnyInt∧0≤a.i∧a.i≤b.i∧b.i≤m.i∧m.i≤y.l.length,.d (.list (C.size e) ((y.l.take b.i.toNat).drop a.i.toNat)),o')
   | _,_=>none) (L6 hp) (fun c y=>?_) (fun o h=>by simp only [hC,h]) (fun o c x p h=>by simp only [hC,h];try rfl)
  split;all_goals first|exact Qm.ret _ _|exact Qm.none
 ·exact Qm.none
theorem uJ {x:AV} {i:Nat}:Qm S (Ma x i):=by
 unfold Ma;split
 ·split;all_goals first|exact Qm.ret _ _|exact Qm.none
 ·split;all_goals first|exact Qm.ret _ _|exact Qm.none
 ·exact Qm.none
theorem Zdk {t f:Nat} {x:AV}:Qm S (D6 C t x f):=by
 unfold D6;split
 ·split
  ·split
   ·exact Qm.ret _ _
   ·split;all_goals first|exact Qm.ret _ _|exact Qm.none
   ·exact Qm.none
  ·exact Qm.none
 ·exact Qm.none
theorem Ij (hC:C.dp=1):∀ {ps:List (Nat×AV)} (_:∀ k∈keysAll (ps.map (·.2)),S k),Qm S (U9 C ps)
 | [],_=>Qm.ret _ _
 | (i,x)::r,h=>by
  simp only [List.map_cons,keysAll,List.mem_append] at h;refine Qm.bindE (g:=fun c y o'=>match U9 C r o' with
   | some (c',l,o'')=>some (c∧c',(i,y)::l,o'')
   | none=>none) (L6 (fun k hk=>h k (.inl hk))) (fun c y=>?_) (fun o e=>by simp only [U9,hC,e]) (fun o c x p e=>by simp only [U9,hC,e];try rfl)
  refine Qm.bindE (g:=fun c' l o''=>some (c∧c',(i,y)::l,o'')) (Ij hC (fun k hk=>h k (.inr hk))) (fun c y=>Qm.ret _ _) (fun o e=>by simp only [e]) (fun o c x p e=>by simp only [e];try rfl)
theorem jR (hC:C.dp=1) {t n key:Nat} {ps:List (Nat×AV)} (hp:∀ k∈keysAll (ps.map (·.2)),S k) (hk:S key):Qm S (Ki C t n ps key):=by
 unfold Ki;split
 ·next e _ =>
  refine Qm.bindE (g:=fun c qs o'=>match lk o' key with
   | none=>if n*C.size e≤16777216∧eX n ps=true then
     some (c∧Lx (C.size e) (qs.map (·.2)),AV.sl key n,upd o' key (.row (C.size e) (Lh (Pk (C.τ e).zd n) qs) 0)) else none
   | some _=>none) (Ij hC hp) (fun c y=>?_) (fun o e=>by simp only [e]) (fun o c x p e=>by simp only [e];try rfl)
  refine Qm.lkE hk (g:=fun v o'=>match v with
   | none=>if n*C.size e≤16777216∧eX n ps=true then
     some (c∧Lx (C.size e) (y.map (·.2)),AV.sl key n,upd o' key (.row (C.size e) (Lh (Pk (C.τ e).zd n) y) 0)) else none
   | some _=>none) (fun v=>?_) (fun o v h=>by simp only [h];try rfl)
  repeat' split
  all_goals first|exact Qm.upd hk _ _ _|exact Qm.none
 ·exact Qm.none
theorem kS {t key:Nat} {l c:AV} (hk:S key):Qm S (G5 C t l c key):=by
 unfold G5;split
 ·next e a b _ =>
  refine Qm.lkE hk (g:=fun v o=>match v with
   | none=>some (a.isAnyInt∧b.isAnyInt∧0≤a.i∧a.i=b.i∧(C.τ e).bytes*b.i≤281474976710656∧b.i≤4294967296,
     AV.sl key a.i.toNat,upd o key (.row (C.size e) (List.replicate a.i.toNat (C.τ e).zd) 0))
   | some _=>none) (fun v=>?_) (fun o v h=>by simp only [h];cases v<;>rfl)
  repeat' split
  all_goals first|exact Qm.upd hk _ _ _|exact Qm.none
 ·exact Qm.none
theorem wV {s:Nat} {x:AV} (hx:∀ k∈x.keys,S k) {o o':Z5} (h:∀ k,S k→lk o k=lk o' k):U3 s x o=U3 s x o':=by
 cases x with
 | sl i n=>simp only [U3,h i (hx i (by simp [AV.keys]))]
 | _=>rfl
theorem yO {t key:Nat} {s x:AV} (hs:∀ k∈s.keys,S k) (hx:∀ k∈x.keys,S k) (hk:S key):Qm S (Tg C t s x key):=by
 intro o o' c z p ho he;have kE:∀ s',U3 s' x o'=U3 s' x o:=fun s'=>(wV hx ho).symm;unfold Tg at he ⊢;simp only [kE];revert he;split
 ·next e _ =>
  split
  ·next c1 xs _ =>
   cases s with
   | nils s =>
    have h2:Qm S (fun o=>match lk o key with
     | none=>some (c1∧xs.length*(C.τ e).bytes≤140737488355328∧xs.length≤4611686018427387904,AV.sl key xs.length,upd o key (.row (C.size e) xs 0))
     | some _=>none):=by
     refine Qm.lkE hk (g:=fun v o=>match v with
      | none=>some (c1∧xs.length*(C.τ e).bytes≤140737488355328∧xs.length≤4611686018427387904,AV.sl key xs.length,upd o key (.row (C.size e) xs 0))
      | some _=>none) (fun v=>?_) (fun o v h=>by simp only [h];try rfl)
     repeat' split
     all_goals first|exact Qm.upd hk _ _ _|exact Qm.none
    exact h2 o o' c z p ho
   | sl i n =>
    have hi:=hs i (by simp [AV.keys])
    have h2:Qm S (fun o=>match lk o i with
     | some (.row s' els k)=>if s'=C.size e then
       some (c1∧n=els.length∧(els.length+xs.length)*(C.τ e).bytes≤140737488355328∧els.length+xs.length≤4611686018427387904,AV.sl i (els++xs).length,upd o i (.row s' (els++xs) k)) else none
     | _=>none):=by
     refine Qm.lkE hi (g:=fun v o=>match v with
      | some (.row s' els k)=>if s'=C.size e then
       some (c1∧n=els.length∧(els.length+xs.length)*(C.τ e).bytes≤140737488355328∧els.length+xs.length≤4611686018427387904,AV.sl i (els++xs).length,upd o i (.row s' (els++xs) k)) else none
      | _=>none) (fun v=>?_) (fun o v h=>by simp only [h];try rfl)
     repeat' split
     all_goals first|exact Qm.upd hi _ _ _|exact Qm.none
    exact h2 o o' c z p ho
   | _=>intro he;cases he
  ·intro he;cases he
 ·intro he;cases he
theorem Zi3 {x:AV} (hx:∀ k∈x.keys,S k):Qm S (xE x):=by
 unfold xE;split
 ·next i f =>
  exact Qm.lkE (hx i (by simp [AV.keys])) (g:=fun v o=>match v with
   | some ob=>if ob.isBox=true then some (True,AV.ref i f,o) else none
   | none=>none) (fun v=>by
    cases v with
    | none=>exact Qm.none
    | some ob =>
     simp only;split
     ·exact Qm.ret _ _
     ·exact Qm.none) (fun o v h=>by simp only [h];cases v<;>rfl)
 ·exact Qm.ret _ _
 ·exact Qm.none
theorem Qm.eqf {α:Type} {f g:Z5→Option (Prop×α×Z5)} (h:∀ o,f o=g o) (hg:Qm S g):Qm S f:=by
 rw [show f=g from funext h];exact hg
theorem Ziw {α:Type} {x:AV} (hx:∀ k∈x.keys,S k) {n:Nat} {f:Prop×List D→Option (Prop×α)}:Qm S (fun o=>match U3 n x o with
  | some y=>(f y).map fun z=>(z.1,z.2,o)
  | none=>none):=by
 have Ep:∀ y:Prop×List D,Qm S fun o=>(f y).map fun z=>(z.1,z.2,o):=fun y=>by
  cases f y with
  | none=>exact Qm.none
  | some z=>exact Qm.ret _ _
 unfold U3;split
 ·exact Ep _
 ·exact Ep _
 ·next i n' =>
  have hi:=hx i (by simp [AV.keys])
  refine Qm.lkE hi (g:=fun v o=>match (match v with
   | some (.row s' els _)=>if s'=n then some (n'=els.length,els) else none
   | _=>none:Option (Prop×List D)) with
   | some y=>(f y).map fun z=>(z.1,z.2,o)
   | none=>none) (fun v=>?_) (fun o v h=>by simp only [h];rcases v with _|(_|_|_|_|_|_|_)<;>rfl)
  rcases v with _|(_|_|_|_|_)
  all_goals first|exact Qm.none|skip
  all_goals
   simp only;split
   ·next h=>split at h<;>first|(cases h;exact Ep _)|cases h
   ·exact Qm.none
 ·exact Qm.none
theorem Zdt {s t:Nat} {x:AV} (hx:∀ k∈x.keys,S k):Qm S (D7 C s t x):=by
 unfold D7;split
 ·next e _ _ =>
  by_cases hk:(C.τ e).kind=.int .u8
  ·have:=Ziw (S:=S) (α:=AV) hx (n:=1) (f:=fun y=>some (y.1∧Zus y.2,AV.d (.str (Zev y.2))));simp only [Option.map_some] at this;rw [hk];exact Qm.eqf (fun o=>by cases U3 1 x o<;>rfl) this
  ·refine Qm.eqf (g:=fun _=>none) (fun o=>?_) Qm.none;split
   ·next h _=>exact absurd h hk
   ·rfl
 ·unfold Ww;split<;>first|exact Qm.ret _ _|exact Qm.none
theorem Zjc {t:Nat} {x:AV} (hx:∀ k∈x.keys,S k):Qm S (tH C t x):=by
 unfold tH;split
 ·exact Qm.ret _ _
 ·exact Qm.ret _ _
 ·exact Qm.ret _ _
 ·next i n _ =>
  have hi:=hx i (by simp [AV.keys])
  refine Qm.lkE hi (g:=fun v o=>match v with
   | some (.row _ els _)=>some (n=els.length,AV.d (.int .i64 els.length),o)
   | _=>none) (fun v=>?_) (fun o v h=>by simp only [h];rcases v with _|(_|_|_|_|_|_|_)<;>rfl)
  repeat' split
  all_goals first|exact Qm.ret _ _|exact Qm.none
 ·next i n f _ =>
  have hi:=hx i (by simp [AV.keys])
  refine Qm.lkE hi (g:=fun v o=>match v with
   | some (.row _ els _)=>some (n=els.length,AV.d (.int .i64 (els.length-f:Nat)),o)
   | _=>none) (fun v=>?_) (fun o v h=>by simp only [h];rcases v with _|(_|_|_|_|_|_|_)<;>rfl)
  repeat' split
  all_goals first|exact Qm.ret _ _|exact Qm.none
 ·exact Qm.none
theorem Ak (hC:C.dp=1):∀ {xs:List AV} {ms:List Bool} (_:∀ k∈keysAll xs,S k),Qm S (Yj C ms xs)
 | [],ms,_=>by cases ms<;>exact Qm.ret _ _
 | x::r,[],_=>Qm.none
 | x::r,false::ms,h=>by
  simp only [keysAll,List.mem_append] at h;refine Qm.bindE (g:=fun c y o'=>match Yj C ms r o' with
   | some (c',l,o'')=>some (c∧c',CV.d y::l,o'')
   | none=>none) (L6 (fun k hk=>h k (.inl hk))) (fun c y=>?_) (fun o e=>by simp only [Yj,hC,e]) (fun o c x p e=>by simp only [Yj,hC,e];try rfl)
  refine Qm.bindE (g:=fun c' l o''=>some (c∧c',CV.d y::l,o'')) (Ak hC (xs:=r) (ms:=ms) (fun k hk=>h k (.inr hk))) (fun c y=>Qm.ret _ _) (fun o e=>by simp only [e]) (fun o c x p e=>by simp only [e];try rfl)
 | x::r,true::ms,h=>by
  simp only [keysAll,List.mem_append] at h;have ih:=Ak hC (ms:=ms) (fun k hk=>h k (.inr hk));cases x with
  | sl i n =>
   have hi:=h i (.inl (by simp [AV.keys]))
   refine Qm.lkE hi (g:=fun v o=>match v with
    | some (.row s els k)=>(match Yj C ms r (upd o i .gone) with
     | some (c,l,o')=>some (c∧n=els.length∧k=0∧0<s,CV.own s els::l,o')
     | none=>none)
    | _=>none) (fun v=>?_) (fun o v h=>by simp only [Yj,h];try rfl)
   split
   ·next s els k =>
    refine Qm.bindE (f:=fun o=>some (True,(),upd o i .gone)) (g:=fun _ _ o=>match Yj C ms r o with
     | some (c,l,o')=>some (c∧n=els.length∧k=0∧0<s,CV.own s els::l,o')
     | none=>none) (Qm.upd hi _ _ _) (fun _ _=>?_) (fun o e=>by cases e) (fun o c x p e=>by
      simp only [Zc,Zf] at e;obtain ⟨_,_,rfl⟩:=e;rfl)
    refine Qm.bindE (g:=fun c l o'=>some (c∧n=els.length∧k=0∧0<s,CV.own s els::l,o')) ih (fun c y=>Qm.ret _ _) (fun o e=>by simp only [e]) (fun o c x p e=>by simp only [e];try rfl)
   ·exact Qm.none
  | nils s =>
   refine Qm.bindE (g:=fun c l o'=>some (c,CV.own s []::l,o')) ih (fun c y=>Qm.ret _ _) (fun o e=>by simp only [Yj,e]) (fun o c x p e=>by simp only [Yj,e];try rfl)
  | _=>exact Qm.none
theorem gS:∀ {l:List CV} {key:Nat} (_:∀ j,S (key+4096*j)),Qm S (fun o=>match Gy key l o with
  | some (ys,o')=>some (True,ys,o')
  | none=>none)
 | [],key,_=>Qm.congr (Qm.ret True []) (fun o=>rfl)
 | x::r,key,hk=>by
  have V7:S key:=hk 0;have ih:=gS (l:=r) (key:=key+4096) (fun j=>by have:=hk (j+1);rwa [Nat.mul_add,Nat.mul_one,Nat.add_comm (4096*j),←Nat.add_assoc] at this)
  cases x with
  | tup l=>exact Qm.congr Qm.none (fun o=>by simp only [Gy,Nq])
  | d y =>
   refine Qm.bindE (g:=fun _ ys o'=>some (True,AV.d y::ys,o')) ih (fun c y=>Qm.ret _ _) (fun o h=>?_) (fun o c x p h=>?_)
   ·simp only [Gy,Nq];split at h
    ·cases h
    ·next h2=>simp only [h2]
   ·simp only [Gy,Nq];split at h
    ·next h2 =>
     simp only [Zc,Zf] at h;obtain ⟨_,rfl,rfl⟩:=h;simp only [h2]
    ·cases h
  | own s l =>
   refine Qm.lkE V7 (g:=fun v o=>match v with
    | none=>(match Gy (key+4096) r (upd o key (.row s l 0)) with
     | some (ys,o')=>some (True,AV.sl key l.length::ys,o')
     | none=>none)
    | some _=>none) (fun v=>?_) (fun o v h=>?_)
   ·split
    ·refine Qm.bindE (f:=fun o=>some (True,(),upd o key (.row s l 0))) (g:=fun _ _ o=>match Gy (key+4096) r o with
      | some (ys,o')=>some (True,AV.sl key l.length::ys,o')
      | none=>none) (Qm.upd V7 _ _ _) (fun _ _=>?_) (fun o e=>by cases e) (fun o c x p e=>by
       simp only [Zc,Zf] at e;obtain ⟨_,_,rfl⟩:=e;rfl)
     refine Qm.bindE (g:=fun _ ys o'=>some (True,AV.sl key l.length::ys,o')) ih (fun c y=>Qm.ret _ _) (fun o h=>?_) (fun o c x p h=>?_)
     ·split at h
      ·cases h
      ·next h2=>simp only [h2]
     ·split at h
      ·next h2 =>
       simp only [Zc,Zf] at h;obtain ⟨_,rfl,rfl⟩:=h;simp only [h2]
      ·cases h
    ·exact Qm.none
   ·simp only [Gy,Nq,h];cases v with
    | some _=>rfl
    | none =>
     simp only;cases Gy (key+4096) r (upd o key (.row s l 0)) with
     | none=>rfl
     | some q=>rfl
theorem Zcn {x:CV} {key:Nat} (hk:∀ j,S (key+4096*j)):Qm S (fun o=>match Il key x o with
  | some (y,o')=>some (True,y,o')
  | none=>none):=by
 cases x with
 | tup l =>
  refine Qm.bindE (g:=fun _ ys o'=>some (True,mL ys,o')) (gS (l:=l) hk) (fun c y=>Qm.ret _ _) (fun o h=>?_) (fun o c x p h=>?_)
  ·simp only [Il];split at h
   ·cases h
   ·next h2=>simp only [h2]
  ·simp only [Il];split at h
   ·next h2 =>
    simp only [Zc,Zf] at h;obtain ⟨_,rfl,rfl⟩:=h;simp only [h2]
   ·cases h
 | d y=>exact Qm.congr (Qm.ret True (AV.d y)) (fun o=>rfl)
 | own s l =>
  refine Qm.lkE (hk 0) (g:=fun v o=>match v with
   | none=>some (True,AV.sl key l.length,upd o key (.row s l 0))
   | some _=>none) (fun v=>?_) (fun o v h=>?_)
  ·split
   ·exact Qm.upd (hk 0) _ _ _
   ·exact Qm.none
  ·have h':lk o key=v:=by simpa using h
   simp only [Il,Nq,h'];cases v<;>rfl
theorem jP (hC:C.dp=1) {f key:Nat} {args:List AV} (ha:∀ k∈keysAll args,S k) (hk:∀ j,S (key+4096*j)):Qm S (I7 C f args key):=by
 unfold I7;split
 ·next con _ =>
  refine Qm.bindE (g:=fun c J0 o'=>match Il key (con.fn J0) o' with
   | some (y,o'')=>some (c∧con.pre J0,y,o'')
   | none=>none) (Ak hC (ms:=con.modes) ha) (fun c J0=>?_) (fun o h=>by simp only [h]) (fun o c x p h=>by simp only [h];try rfl)
  refine Qm.bindE (g:=fun _ y o'=>some (c∧con.pre J0,y,o')) (Zcn (x:=con.fn J0) hk) (fun c y=>Qm.ret _ _) (fun o h=>?_) (fun o c x p h=>?_)
  ·split at h
   ·cases h
   ·next h2=>simp only [h2]
  ·split at h
   ·next h2 =>
    simp only [Zc,Zf] at h;obtain ⟨_,rfl,rfl⟩:=h;simp only [h2]
   ·cases h
 ·exact Qm.none
theorem P4:∀ {a b:List AV},keysAll (a++b)=keysAll a++keysAll b
 | [],b=>rfl
 | x::a,b=>by simp [keysAll,P4 (a:=a),List.append_assoc]
theorem nY:∀ (l:List D),keysAll (l.map .d)=[]
 | []=>rfl
 | x::l=>by simp [keysAll,AV.keys,nY l]
theorem Zdw (hC:C.dp=1) {f:AV} {key:Nat} {args:List AV} (hf:∀ k∈f.keys,S k) (ha:∀ k∈keysAll args,S k) (hk:∀ j,S (key+4096*j)):Qm S (jZ C f args key):=by
 cases f with
 | d x =>
  cases x with
  | clo g caps =>
   refine jP hC (fun k h=>?_) hk;rw [P4,nY,List.append_nil] at h;exact ha k h
  | _=>exact Qm.none
 | clo g caps =>
  refine jP hC (fun k h=>?_) hk;rw [P4,List.mem_append] at h;rcases h with h|h
  ·exact ha k h
  ·exact hf k (by simpa [AV.keys] using h)
 | _=>exact Qm.none
def V9 (l:List Nat) (k:Nat):Prop:=k % 4096∈l
theorem qV {st:AS} (hint:Nat) (x:Operand):(st.ev C hint x).keys=(st.ev C 0 x).keys:=by
 cases x with
 | const v =>
  simp only [AS.ev];unfold Gu;split
  ·rfl
  ·rfl
 | _=>rfl
theorem Bs {k:Nat}:∀ {l:List AV},k∈keysAll l↔∃ x∈l,k∈x.keys
 | []=>by simp [keysAll]
 | x::l=>by simp [keysAll,Bs (l:=l)]
theorem jC {st:AS}:∀ (xs:List Operand) (ts:List Nat),keysAll (aF C st xs ts)=keysAll (xs.map (st.ev C 0))
 | [],ts=>by cases ts<;>rfl
 | x::xs,[]=>by simp [aF,keysAll,jC xs []]
 | x::xs,t::ts=>by simp [aF,keysAll,jC xs ts,qV t x]
theorem Oo {st:AS} (h:Nat):∀ (ps:List (Nat×Operand)),keysAll ((Wx C st h ps).map (·.2))=keysAll ((ps.map (·.2)).map (st.ev C 0))
 | []=>rfl
 | (i,x)::ps=>by simp [Wx,keysAll,Oo h ps,qV h x]
theorem gT (hC:C.dp=1) (o:Oper) (st:AS):Qm (V9 (Mb C o st)) (fun os=>Qjs C o ⟨st.tmps,os⟩):=by
 have rV:∀ (hint:Nat) (x:Operand),x∈Wb o.op→∀ k∈(AS.ev C st hint x).keys,V9 (Mb C o st) k:=by
  intro hint x hx k hk;unfold V9 Mb;rw [List.mem_map];refine ⟨k,List.mem_append_left _ (Bs.2 ⟨_,List.mem_map.2 ⟨x,hx,rfl⟩,?_⟩),rfl⟩;rwa [qV] at hk
 have vD:∀ k,o.dst=some k→L8 o.op=true→∀ j,V9 (Mb C o st) (k+4096*j):=by
  intro k hk hm j;unfold V9 Mb;rw [List.mem_map];refine ⟨k,List.mem_append_right _ (by simp [hk,pW,hm]),by omega⟩
 have oG:∀ k,o.dst=some k→L8 o.op=true→V9 (Mb C o st) k:=fun k hk hm=>by simpa using vD k hk hm 0
 have E:∀ (os:Z5) (hint:Nat) (x:Operand),AS.ev C ⟨st.tmps,os⟩ hint x=AS.ev C st hint x:=fun os hint x=>by cases x<;>rfl
 have ES:∀ (os:Z5) (xs:List Operand) (ts:List Nat),aF C ⟨st.tmps,os⟩ xs ts=aF C st xs ts:=by
  intro os xs
  induction xs with
  | nil=>intro ts;cases ts<;>rfl
  | cons x xs ih=>intro ts;cases ts<;>simp [aF,ih,E]
 have EP:∀ (os:Z5) (h:Nat) (ps:List (Nat×Operand)),Wx C ⟨st.tmps,os⟩ h ps=Wx C st h ps:=by
  intro os h ps
  induction ps with
  | nil=>rfl
  | cons p ps ih=>obtain ⟨i,x⟩:=p;simp [Wx,ih,E]
 have EO:∀ (os:Z5) (t:Nat) (x:Option Operand),Zay C ⟨st.tmps,os⟩ t x=Zay C st t x:=by
  intro os t x;cases x<;>simp [Zay,E]
 unfold Qjs;simp only [E,ES,EP,EO];have args:∀ (xs:List Operand) (ts:List Nat),(∀ x∈xs,x∈Wb o.op)→∀ k∈keysAll (aF C st xs ts),V9 (Mb C o st) k:=by
  intro xs ts hx k hk;rw [jC,Bs] at hk;obtain ⟨a,ha,Bc⟩:=hk;obtain ⟨x,vM,rfl⟩:=List.mem_map.1 ha;exact rV 0 x (hx x vM) k Bc
 have parts:∀ (h:Nat) (ps:List (Nat×Operand)),(∀ x∈ps.map (·.2),x∈Wb o.op)→∀ k∈keysAll ((Wx C st h ps).map (·.2)),V9 (Mb C o st) k:=by
  intro h ps hx k hk;rw [Oo,Bs] at hk;obtain ⟨a,ha,Bc⟩:=hk;obtain ⟨x,vM,rfl⟩:=List.mem_map.1 ha;exact rV 0 x (hx x vM) k Bc
 split
 case h_1=>exact Qm.ret _ _
 case h_2=>exact Qm.ret _ _
 case h_3=>split<;>first|exact Qm.ret _ _|exact Qm.none
 case h_4 e Ja =>
  split
  ·next k hk=>exact oC (oG k hk (by simp [Ja,L8]))
  ·exact Qm.none
 case h_5 e x Ja =>
  split
  ·next k hk=>exact oC (oG k hk (by simp [Ja,L8]))
  ·exact Qm.none
 case h_6 t ps Ja =>
  unfold Ao;split
  ·next fs _ =>
   have:∀ (r:List (Nat×AV)) (cells:List AV) (c:Prop),Qm (V9 (Mb C o st)) (fun os=>Vh os fs cells r c):=by
    intro r
    induction r with
    | nil=>intro cells c;exact Qm.ret _ _
    | cons p r ih =>
     intro cells c;obtain ⟨i,x⟩:=p;simp only [Vh];split
     ·split
      ·exact ih _ _
      ·exact Qm.none
     ·exact Qm.none
   exact this _ _ _
  ·have:∀ (r:List (Nat×AV)) (cells:List AV) (c:Prop),Qm (V9 (Mb C o st)) (fun os=>H4 os cells r c):=by
    intro r
    induction r with
    | nil=>intro cells c;exact Qm.ret _ _
    | cons p r ih =>
     intro cells c;obtain ⟨i,x⟩:=p;simp only [H4];split
     ·exact ih _ _
     ·exact Qm.none
   split
   ·exact this _ _ _
   ·exact Qm.none
  ·exact Qm.none
 case h_7 t n ps Ja =>
  split
  ·next k hk=>exact jR hC (parts _ _ (fun x hx=>by simpa [Ja,Wb,Jb] using hx)) (oG k hk (by simp [Ja,L8]))
  ·exact Qm.none
 case h_8 t p Ja=>exact Zf6 (rV 0 p (by simp [Ja,Wb,Jb]))
 case h_9 t p x Ja=>exact Zb6 hC (rV 0 p (by simp [Ja,Wb,Jb])) (rV t x (by simp [Ja,Wb,Jb]))
 case h_10 =>
  unfold Ww;split<;>first|exact Qm.ret _ _|exact Qm.none
 case h_11 =>
  unfold Ww;split<;>first|exact Qm.ret _ _|exact Qm.none
 case h_12 s1 t x Ja=>exact Zdt (rV s1 x (by simp [Ja,Wb,Jb]))
 case h_13=>split<;>first|exact Qm.ret _ _|exact Qm.none
 case h_14 t l c Ja =>
  split
  ·next k hk=>exact kS (oG k hk (by simp [Ja,L8]))
  ·exact Qm.none
 case h_15 t x lo hi mx Ja=>exact Zb9 hC (rV t x (by simp [Ja,Wb,Jb]))
 case h_16 t Ja =>
  split
  ·next k hk=>exact tQ (oG k hk (by simp [Ja,L8]))
  ·exact Qm.none
 case h_17 t x i ok Ja=>exact xX (rV 0 x (by simp [Ja,Wb,Jb]))
 case h_18 t x i y Ja=>exact kR hC (rV 0 x (by simp [Ja,Wb,Jb])) (rV _ y (by simp [Ja,Wb,Jb]))
 case h_19 t p f Ja=>exact lY (rV 0 p (by simp [Ja,Wb,Jb]))
 case h_20 t x f Ja=>exact Zdk
 case h_21 t x i Ja=>exact lZ (rV t x (by simp [Ja,Wb,Jb]))
 case h_22 t x i Ja=>exact Zc8
 case h_23 x i Ja=>exact uJ
 case h_24 cl Ja =>
  split
  case h_1 hcal =>
   split
   ·next x t hx ht=>exact Zjc (rV t x (by simp [Ja,Wb,Jb,hcal,hx]))
   ·exact Qm.none
  case h_2 hcal =>
   split
   ·next s x t t' k hx ht hk =>
    split
    ·exact yO (rV t s (by simp [Ja,Wb,Jb,hcal,hx])) (rV t' x (by simp [Ja,Wb,Jb,hcal,hx])) (oG k hk (by simp [Ja,L8,hcal]))
    ·exact Qm.none
   ·exact Qm.none
  case h_3 =>
   split
   ·unfold Ww;split<;>first|exact Qm.ret _ _|exact Qm.none
   ·exact Qm.none
  case h_4 =>
   split
   ·unfold Ww;split<;>first|exact Qm.ret _ _|exact Qm.none
   ·exact Qm.none
  case h_5 f hcal =>
   split
   ·next k hk=>exact jP hC (args _ _ (fun x hx=>by simp only [Ja,Wb,Jb,hcal];exact List.mem_cons_of_mem _ hx)) (vD k hk (by simp [Ja,L8,hcal]))
   ·exact Qm.none
  case h_6 f hcal =>
   split
   ·next k hk=>exact Zdw hC (rV 0 (.tmp f) (by simp [Ja,Wb,Jb,hcal])) (args _ _ (fun x hx=>by simp only [Ja,Wb,Jb,hcal];exact List.mem_cons_of_mem _ hx)) (vD k hk (by simp [Ja,L8,hcal]))
   ·exact Qm.none
  case h_7=>exact Qm.none
 case h_25 x Ja=>exact Zi3 (rV 0 x (by simp [Ja,Wb,Jb]))
 case h_26=>exact Qm.none
theorem mS {kt et:Nat} {ks vs:List D} {i:D} {ok:Bool} {os p:Z5} {c:Prop} {x:AV} (h:Py C kt et ks vs i ok os=some (c,x,p)):p=os:=by
 unfold Py at h;split at h
 ·cases ok<;>simp only [Zc,Zf] at h<;>exact h.2.2.symm
 ·cases h
theorem Zco {o:Oper} {st:AS} {c:Prop} {x:AV} {p:Z5} (hr:Li o.op=true) (h:Qjs C o st=some (c,x,p)):p=st.objs:=by
 unfold Qjs at h;split at h
 case h_1=>simp only [Zc,Zf] at h;exact h.2.2.symm
 case h_2=>simp only [Zc,Zf] at h;exact h.2.2.symm
 case h_3=>split at h<;>simp_all
 case h_4 Ja=>simp [Ja,Li] at hr
 case h_5 Ja=>simp [Ja,Li] at hr
 case h_6 t ps Ja =>
  unfold Ao at h;split at h
  ·next fs _ =>
   have:∀ (r:List (Nat×AV)) (cells:List AV) (c0:Prop),Vh st.objs fs cells r c0=some (c,x,p)→p=st.objs:=by
    intro r
    induction r with
    | nil =>
     intro cells c0 h;simp only [Vh,Zc,Zf] at h;exact h.2.2.symm
    | cons q r ih =>
     intro cells c0 h;obtain ⟨i,y⟩:=q;simp only [Vh] at h;split at h
     ·split at h
      ·exact ih _ _ h
      ·cases h
     ·cases h
   exact this _ _ _ h
  ·have:∀ (r:List (Nat×AV)) (cells:List AV) (c0:Prop),H4 st.objs cells r c0=some (c,x,p)→p=st.objs:=by
    intro r
    induction r with
    | nil =>
     intro cells c0 h;simp only [H4,Zc,Zf] at h;exact h.2.2.symm
    | cons q r ih =>
     intro cells c0 h;obtain ⟨i,y⟩:=q;simp only [H4] at h;split at h
     ·exact ih _ _ h
     ·cases h
   split at h
   ·exact this _ _ _ h
   ·cases h
  ·cases h
 case h_7 Ja=>simp [Ja,Li] at hr
 case h_8 t q Ja =>
  unfold Rr G6 at h;repeat' split at h
  all_goals first|(simp only [Zc,Zf] at h;exact h.2.2.symm)|cases h
 case h_9 Ja=>simp [Ja,Li] at hr
 case h_10 =>
  unfold Ww at h;split at h;all_goals first|(simp only [Zc,Zf] at h;exact h.2.2.symm)|cases h
 case h_11 =>
  unfold Ww at h;split at h;all_goals first|(simp only [Zc,Zf] at h;exact h.2.2.symm)|cases h
 case h_12 =>
  unfold D7 at h;split at h
  ·split at h
   ·simp only [Zc,Zf] at h;exact h.2.2.symm
   ·cases h
  ·unfold Ww at h;split at h;all_goals first|(simp only [Zc,Zf] at h;exact h.2.2.symm)|cases h
 case h_13 =>
  split at h;all_goals first|(simp only [Zc,Zf] at h;exact h.2.2.symm)|cases h
 case h_14 Ja=>simp [Ja,Li] at hr
 case h_15 Ja=>simp [Ja,Li] at hr
 case h_16 Ja=>simp [Ja,Li] at hr
 case h_17 =>
  unfold B1 at h;split at h
  ·split at h
   ·exact mS h
   ·split at h
    ·exact mS h
    ·cases h
   ·cases h
  ·cases h
 case h_18 Ja=>simp [Ja,Li] at hr
 case h_19 =>
  unfold Kh at h;repeat' split at h
  all_goals first|(simp only [Zc,Zf] at h;exact h.2.2.symm)|cases h
 case h_20 =>
  unfold D6 at h;repeat' split at h
  all_goals first|(simp only [Zc,Zf] at h;exact h.2.2.symm)|cases h
 case h_21 =>
  unfold Kg at h;repeat' split at h
  all_goals first|(simp only [Zc,Zf] at h;exact h.2.2.symm)|cases h
 case h_22 =>
  unfold D5 at h;repeat' split at h
  all_goals first|(simp only [Zc,Zf] at h;exact h.2.2.symm)|cases h
 case h_23 =>
  unfold Ma at h;repeat' split at h
  all_goals first|(simp only [Zc,Zf] at h;exact h.2.2.symm)|cases h
 case h_24 cl Ja =>
  split at h
  case h_1 =>
   split at h
   ·unfold tH at h;repeat' split at h
    all_goals first|(simp only [Zc,Zf] at h;exact h.2.2.symm)|cases h
   ·cases h
  case h_2 hcal=>simp [Ja,Li,hcal] at hr
  case h_3 hcal=>simp [Ja,Li,hcal] at hr
  case h_4 hcal=>simp [Ja,Li,hcal] at hr
  case h_5 hcal=>simp [Ja,Li,hcal] at hr
  case h_6 hcal=>simp [Ja,Li,hcal] at hr
  case h_7=>cases h
 case h_25 =>
  unfold xE at h;repeat' split at h
  all_goals first|(simp only [Zc,Zf] at h;exact h.2.2.symm)|cases h
 case h_26=>cases h
theorem pK {o:Oper} {s s':AS} (ho:s.objs=s'.objs) (h:∀ x∈Jb o.op,∀ hint,s.ev C hint x=s'.ev C hint x):Qjs C o s=Qjs C o s':=by
 have args:∀ (xs:List Operand) (ts:List Nat),(∀ x∈xs,x∈Jb o.op)→aF C s xs ts=aF C s' xs ts:=by
  intro xs
  induction xs with
  | nil=>intro ts _;cases ts<;>rfl
  | cons x xs ih =>
   intro ts hx;have h1:=fun hint=>h x (hx x (by simp)) hint
   cases ts<;>simp [aF,h1,ih _ (fun y hy=>hx y (List.mem_cons_of_mem _ hy))]
 have parts:∀ (hint:Nat) (ps:List (Nat×Operand)),(∀ x∈ps.map (·.2),x∈Jb o.op)→Wx C s hint ps=Wx C s' hint ps:=by
  intro hint ps
  induction ps with
  | nil=>intro _;rfl
  | cons q ps ih =>
   intro hx;obtain ⟨i,x⟩:=q;have h1:=h x (hx x (by simp)) hint
   simp [Wx,h1,ih (fun y hy=>hx y (by simp only [List.map_cons];exact List.mem_cons_of_mem _ hy))]
 have opt:∀ (t:Nat) (x:Option Operand),(∀ y∈x.toList,y∈Jb o.op)→Zay C s t x=Zay C s' t x:=by
  intro t x hx;cases x with
  | none=>rfl
  | some x=>simp [Zay,h x (hx x (by simp))]
 unfold Qjs;rw [ho];split
 case h_1 x Ja=>rw [h x (by simp [Ja,Jb])]
 case h_2 x Ja=>rw [h x (by simp [Ja,Jb])]
 case h_3 c a b Ja=>rw [h c (by simp [Ja,Jb]),h a (by simp [Ja,Jb]),h b (by simp [Ja,Jb])]
 case h_4=>rfl
 case h_5 e x Ja=>rw [h x (by simp [Ja,Jb])]
 case h_6 t ps Ja=>rw [parts _ _ (fun x hx=>by simpa [Ja,Jb] using hx)]
 case h_7 t n ps Ja=>rw [parts _ _ (fun x hx=>by simpa [Ja,Jb] using hx)]
 case h_8 t p Ja=>rw [h p (by simp [Ja,Jb])]
 case h_9 t p x Ja=>rw [h p (by simp [Ja,Jb]),h x (by simp [Ja,Jb])]
 case h_10 op t x y ty Ja=>rw [h x (by simp [Ja,Jb]),h y (by simp [Ja,Jb])]
 case h_11 op t x Ja=>rw [h x (by simp [Ja,Jb])]
 case h_12 s1 t x Ja=>rw [h x (by simp [Ja,Jb])]
 case h_13 f first caps Ja=>rw [args _ _ (fun x hx=>by simpa [Ja,Jb] using hx)]
 case h_14 t l c Ja=>rw [h l (by simp [Ja,Jb]),h c (by simp [Ja,Jb])]
 case h_15 t x lo hi mx Ja =>
  rw [h x (by simp [Ja,Jb]),opt 0 lo (fun y hy=>by simp only [Ja,Jb];simp only [Z2,List.mem_append];exact .inr (.inl (.inl hy))),
   opt 0 hi (fun y hy=>by simp only [Ja,Jb];simp only [Z2,List.mem_append];exact .inr (.inl (.inr hy))),
   opt 0 mx (fun y hy=>by simp only [Ja,Jb];simp only [Z2,List.mem_append];exact .inr (.inr hy))]
 case h_16=>rfl
 case h_17 t x i ok Ja=>rw [h x (by simp [Ja,Jb]),h i (by simp [Ja,Jb])]
 case h_18 t x i y Ja=>rw [h x (by simp [Ja,Jb]),h i (by simp [Ja,Jb]),h y (by simp [Ja,Jb])]
 case h_19 t p f Ja=>rw [h p (by simp [Ja,Jb])]
 case h_20 t x f Ja=>rw [h x (by simp [Ja,Jb])]
 case h_21 t x i Ja=>rw [h x (by simp [Ja,Jb]),h i (by simp [Ja,Jb])]
 case h_22 t x i Ja=>rw [h x (by simp [Ja,Jb]),h i (by simp [Ja,Jb])]
 case h_23 x i Ja=>rw [h x (by simp [Ja,Jb])]
 case h_24 cl Ja =>
  split
  case h_1 hcal =>
   split
   ·next x t hx ht=>rw [h x (by simp [Ja,Jb,hcal,hx])]
   ·rfl
  case h_2 hcal =>
   split
   ·next a x t t' k hx ht hk=>rw [h a (by simp [Ja,Jb,hcal,hx]),h x (by simp [Ja,Jb,hcal,hx])]
   ·rfl
  case h_3 hcal =>
   split
   ·next x y t ts hx ht=>rw [h x (by simp [Ja,Jb,hcal,hx]),h y (by simp [Ja,Jb,hcal,hx])]
   ·rfl
  case h_4 hcal =>
   split
   ·next x y t ts hx ht=>rw [h x (by simp [Ja,Jb,hcal,hx]),h y (by simp [Ja,Jb,hcal,hx])]
   ·rfl
  case h_5 f hcal=>rw [args _ _ (fun x hx=>by simp only [Ja,Jb,hcal];exact List.mem_cons_of_mem _ hx)]
  case h_6 f hcal=>rw [args _ _ (fun x hx=>by simp only [Ja,Jb,hcal];exact List.mem_cons_of_mem _ hx),h (.tmp f) (by simp [Ja,Jb,hcal])]
  case h_7=>rfl
 case h_25 x Ja=>rw [h x (by simp [Ja,Jb])]
 case h_26=>rfl
def AS.same (s s':AS):Prop:=s.tmps=s'.tmps∧∀ k,lk s.objs k=lk s'.objs k
theorem AS.same.refl (s:AS):s.same s:=⟨rfl,fun _=>rfl⟩
theorem AS.same.trans {a b c:AS} (h:a.same b) (k:b.same c):a.same c:=⟨h.1.trans k.1,fun i=>(h.2 i).trans (k.2 i)⟩
theorem AS.same.symm {a b:AS} (h:a.same b):b.same a:=⟨h.1.symm,fun i=>(h.2 i).symm⟩
theorem SRg.same {base:Nat} {pass:Nat→Prop} {F0:Anc} {m:Nat→Nat} {G:Gh} {s s':AS} {a:Act} {w:World} (h:SRg base pass F0 m G s a w) (e:s.same s'):SRg base pass F0 m G s' a w:=by
 have el:lk s.objs=lk s'.objs:=funext e.2;obtain ⟨a1,a2,a3,a4,a5,a6,a7,a8,a9,a10⟩:=h;constructor
 ·exact a1
 ·rw [←e.1,←el];exact a2
 ·rw [←el];exact a3
 ·rw [←el];exact a4
 ·rw [←el];exact a5
 ·exact a6
 ·exact a7
 ·exact a8
 ·exact a9
 ·rw [←el];exact a10
theorem SR.same {base:Nat} {pass:Nat→Prop} {F0:Anc} {s s':AS} {a:Act} {w:World} (h:SR base pass F0 s a w) (e:s.same s'):SR base pass F0 s' a w:=by
 obtain ⟨m,G,h⟩:=h;exact ⟨m,G,h.same e⟩
def vK (C:Ctx) (o:Oper) (s:AS) (bc:BCon) (x:bc.X) (rs:List Nat):Prop :=
 Zik C o s=some (bc,rnAs rs (bc.args x))∧bc.ok x∧rs.Nodup∧rs.length=(bc.post x).length∧(bc.objs x).length≤rs.length∧Ze rs rs (bc.objs x) s.objs∧Zj (rs.drop (bc.objs x).length) s.objs
theorem Fb {s s':AS}:∀ (xs:List Operand) (ts:List Nat),(∀ x∈xs,∀ hint,s.ev C hint x=s'.ev C hint x)→aF C s xs ts=aF C s' xs ts
 | [],_,_=>rfl
 | x::r,[],h=>by simp only [aF];rw [h x (by simp),Fb r [] (fun y hy=>h y (List.mem_cons_of_mem _ hy))]
 | x::r,t::ts,h=>by simp only [aF];rw [h x (by simp),Fb r ts (fun y hy=>h y (List.mem_cons_of_mem _ hy))]
theorem Zd2 {o:Oper} {s s':AS} (h:∀ y∈Jb o.op,∀ hint,s.ev C hint y=s'.ev C hint y):Zik C o s=Zik C o s':=by
 unfold Zik;cases Ja:o.op with
 | call c =>
  rw [Ja] at h;simp only;cases hc:c.callee with
  | value f =>
   simp only [Jb,hc] at h;have ha:∀ x∈c.args.toList,∀ hint,s.ev C hint x=s'.ev C hint x:=fun x hx=>h x (List.mem_cons_of_mem _ hx);have hf:=h f (by simp)
   cases f with
   | func f=>simp only [Fb _ _ ha]
   | tmp f=>simp only [Fb _ _ ha,hf]
   | _=>rfl
  | _=>rfl
 | _=>rfl
theorem Ri {rs0:List Nat} {o o':Z5}:∀ {ks:List Nat} {l:List Obj},(∀ k∈ks,lk o k=lk o' k)→Ze rs0 ks l o→Ze rs0 ks l o'
 | _,[],_,_=>by unfold Ze;trivial
 | [],_::_,_,h=>by simp [Ze] at h
 | k::ks,x::l,hk,h=>by
  simp only [Ze] at h ⊢;exact ⟨by rw [←hk k (by simp)];exact h.1,Ri (fun q hq=>hk q (List.mem_cons_of_mem _ hq)) h.2⟩
theorem Of {o o':Z5}:∀ {ks:List Nat},(∀ k∈ks,lk o k=lk o' k)→Zj ks o→Zj ks o'
 | [],_,_=>by unfold Zj;trivial
 | k::ks,hk,h=>by
  simp only [Zj] at h ⊢;exact ⟨by rw [←hk k (by simp)];exact h.1,Of (fun q hq=>hk q (List.mem_cons_of_mem _ hq)) h.2⟩
theorem vX {rs:List Nat} {k:Nat} (h:k∈rs):V9 (rs.map (· % 4096)) k:=List.mem_map.2 ⟨k,h,rfl⟩
theorem vK.move {o:Oper} {s s':AS} {bc:BCon} {x:bc.X} {rs:List Nat} (h:vK C o s bc x rs) (Ja:∀ y∈Jb o.op,∀ hint,s'.ev C hint y=s.ev C hint y)
  (ho:∀ k,V9 (rs.map (· % 4096)) k→lk s.objs k=lk s'.objs k):vK C o s' bc x rs∧(∀ k,V9 (rs.map (· % 4096)) k→lk (Wl rs rs (bc.post x) s.objs) k=lk (Wl rs rs (bc.post x) s'.objs) k) ∧
   (∀ k,¬ V9 (rs.map (· % 4096)) k→lk (Wl rs rs (bc.post x) s.objs) k=lk s.objs k∧lk (Wl rs rs (bc.post x) s'.objs) k=lk s'.objs k):=by
 obtain ⟨h1,h2,h3,h4,h5,h6,h7⟩:=h;have hk:∀ k∈rs,lk s.objs k=lk s'.objs k:=fun k hk=>ho k (vX hk);refine ⟨⟨by rw [Zd2 Ja];exact h1,h2,h3,h4,h5,Ri hk h6,Of (fun k hk'=>hk k (List.mem_of_mem_drop hk')) h7⟩,fun k Bc=>?_,fun k Bc=>?_⟩
 ·by_cases aH:k∈rs
  ·obtain ⟨j,hj⟩:=List.getElem?_of_mem aH;have Ra:j<(bc.post x).length:=by rw [←h4];exact (List.getElem?_eq_some_iff.1 hj).1
   have hp:=Zh Ra;rw [Sp h3 hj hp,Sp h3 hj hp]
  ·rw [Ya aH,Ya aH];exact ho k Bc
 ·have aH:k∉rs:=fun aH=>Bc (vX aH);exact ⟨Ya aH,Ya aH⟩
def lC (C:Ctx) (ops:List Oper) (i:Nat) (fp:List Nat) (ro:Bool) (s s':AS):Prop:=∃ o,ops[i]?=some o ∧
 ((match o.guard with
  | none=>False
  | some (j,want)=>(Xe ops s j).skips want∧fp=[]∧ro=true∧s'=s.put o.dst (.d (.tup [])) s.objs) ∨
 ((match o.guard with
  | none=>True
  | some (j,want)=>(Xe ops s j).runs want)∧fp=Mb C o s∧ro=Li o.op∧∃ c x os,Qjs C o s=some (c,x,os)∧c∧s'=s.put o.dst x os) ∨
 ((match o.guard with
  | none=>True
  | some (j,want)=>(Xe ops s j).runs want)∧ro=false∧∃ (bc:BCon) (x:bc.X) (rs:List Nat),vK C o s bc x rs∧fp=rs.map (· % 4096)∧s'=s.put o.dst (bc.rvr rs x) (Wl rs rs (bc.post x) s.objs)))
inductive Tr (C:Ctx) (ops:List Oper):List (Nat×List Nat×Bool)→AS→AS→Prop
 | nil (s:AS):Tr C ops [] s s
 | cons {i:Nat} {fp:List Nat} {ro:Bool} {l:List (Nat×List Nat×Bool)} {s t u:AS} (h:lC C ops i fp ro s t) (k:Tr C ops l t u):Tr C ops ((i,fp,ro)::l) s u
theorem wH {s:AS} {dst:Option Nat} {x:AV} {os:Z5} {y:Operand} {hint:Nat} (h:∀ d,dst=some d→d∉zI y):(s.put dst x os).ev C hint y=s.ev C hint y:=by
 cases y with
 | tmp t =>
  cases dst with
  | none=>rfl
  | some d =>
   have:d≠t:=by simpa [zI] using h d rfl
   simp [AS.put,AS.ev,Zk,List.getElem?_set_ne this]
 | _=>rfl
theorem Af {ops:List Oper} {o:Oper} {d:Nat} (h:d∉dF ops o):∀ y∈Jb o.op,d∉zI y:=by
 intro y hy hd;exact h (List.mem_append_left _ (List.mem_flatMap.2 ⟨y,hy,hd⟩))
theorem mC {ops:List Oper} {s:AS} {o:Oper} {j:Nat} {want:Bool} (hg:o.guard=some (j,want)) {dst:Option Nat} {x:AV} {os:Z5} (h:∀ d,dst=some d→d∉dF ops o):Xe ops (s.put dst x os) j=Xe ops s j:=by
 unfold Xe;cases hj:ops[j]? with
 | none=>rfl
 | some g =>
  simp only;cases hd:g.dst with
  | none=>rfl
  | some t =>
   simp only;cases dst with
   | none=>rfl
   | some d =>
    have Hk:d≠t:=by
     intro e;exact h d rfl (by simp [dF,hg,hj,hd,e])
    simp [AS.put,Zk,List.getElem?_set_ne Hk]
theorem Tj {ops:List Oper} {s s':AS} (h:s.tmps=s'.tmps) (j:Nat):Xe ops s j=Xe ops s' j:=by
 unfold Xe;rw [h]
theorem wU {o:Op}:∀ y∈Wb o,y∈Jb o:=by
 intro y hy;cases o<;>first|exact hy|(simp [Wb] at hy)
theorem tU {ops:List Oper} {s:AS} {o:Oper} {dst:Option Nat} {x:AV} {os:Z5} (h:∀ d,dst=some d→d∉dF ops o):Mb C o (s.put dst x os)=Mb C o s:=by
 have:(Wb o.op).map ((s.put dst x os).ev C 0)=(Wb o.op).map (s.ev C 0):=List.map_congr_left fun y hy=>wH (fun d hd=>Af (h d hd) y (wU y hy));unfold Mb;rw [this]
theorem Zdd {s s':AS} (h:s.tmps=s'.tmps) (o:Oper):Mb C o s=Mb C o s':=by
 have:(Wb o.op).map (s.ev C 0)=(Wb o.op).map (s'.ev C 0):=List.map_congr_left fun y hy=>by cases y<;>simp [AS.ev,h]
 unfold Mb;rw [this]
theorem X2 {s:AS} {dst:Option Nat} {x:AV} {os:Z5}:(s.put dst x os).objs=os:=by cases dst<;>rfl
theorem Zfj {s:AS} {a b:Option Nat} {x y:AV} {p q r u:Z5} (h:∀ d,a=some d→b≠some d):((s.put a x p).put b y q).tmps=((s.put b y r).put a x u).tmps:=by
 cases a with
 | none=>cases b<;>rfl
 | some d =>
  cases b with
  | none=>rfl
  | some e =>
   have Hk:d≠e:=fun he=>h d rfl (he▸rfl);simp [AS.put,List.set_comm _ _ Hk]
theorem lC.same (hC:C.dp=1) {ops:List Oper} {i:Nat} {fp:List Nat} {ro:Bool} {s s' t:AS} (h:lC C ops i fp ro s t) (e:s.same s'):∃ t',lC C ops i fp ro s' t'∧t.same t':=by
 obtain ⟨o,ho,h⟩:=h;rcases h with h|⟨hg,vF,Ay,c,x,os,h1,hc,rfl⟩|⟨hg,Ay,bc,x,rs,hb,vF,rfl⟩
 rotate_right
 ·have rV:∀ y∈Jb o.op,∀ hint,s'.ev C hint y=s.ev C hint y:=fun y _ hint=>by cases y<;>simp [AS.ev,e.1]
  obtain ⟨b1,b2,b3⟩:=hb.move rV (fun k _=>e.2 k);refine ⟨s'.put o.dst (bc.rvr rs x) (Wl rs rs (bc.post x) s'.objs),⟨o,ho,.inr (.inr ⟨?_,Ay,bc,x,rs,b1,vF,rfl⟩)⟩,?_,fun k=>?_⟩
  ·cases Bl:o.guard with
   | none=>trivial
   | some jw =>
    obtain ⟨j,want⟩:=jw;simp only [Bl] at hg ⊢;rw [←Tj e.1];exact hg
  ·cases o.dst<;>simp [AS.put,e.1]
  ·rw [X2,X2];by_cases hk:V9 (rs.map (· % 4096)) k
   ·exact b2 k hk
   ·rw [(b3 k hk).1,(b3 k hk).2];exact e.2 k
 ·cases Bl:o.guard with
  | none=>simp only [Bl] at h
  | some jw =>
   obtain ⟨j,want⟩:=jw;simp only [Bl] at h;obtain ⟨h1,h3,h4,rfl⟩:=h;refine ⟨s'.put o.dst (.d (.tup [])) s'.objs,⟨o,ho,.inl ?_⟩,?_⟩
   ·simp only [Bl];exact ⟨by rw [←Tj e.1];exact h1,h3,h4,trivial⟩
   ·refine ⟨?_,fun k=>?_⟩
    ·cases o.dst<;>simp [AS.put,e.1]
    ·rw [X2,X2];exact e.2 k
 ·have h1':Qjs C o ⟨s.tmps,s.objs⟩=some (c,x,os):=h1;obtain ⟨os',k1,k2,k3⟩:=gT hC o s s.objs s'.objs c x os (fun k _=>e.2 k) h1';have k1':Qjs C o s'=some (c,x,os'):=by
   have:s'=⟨s.tmps,s'.objs⟩:=by cases s';simp only [AS.mk.injEq,and_true];exact e.1.symm
   rw [this];exact k1
  refine ⟨s'.put o.dst x os',⟨o,ho,.inr (.inl ⟨?_,by rw [←Zdd e.1];exact vF,Ay,c,x,os',k1',hc,rfl⟩)⟩,?_,fun k=>?_⟩
  ·cases Bl:o.guard with
   | none=>trivial
   | some jw =>
    obtain ⟨j,want⟩:=jw;simp only [Bl] at hg ⊢;rw [←Tj e.1];exact hg
  ·cases o.dst<;>simp [AS.put,e.1]
  ·rw [X2,X2];by_cases hk:V9 (Mb C o s) k
   ·exact k2 k hk
   ·rw [(k3 k hk).1,(k3 k hk).2];exact e.2 k
theorem Tr.same (hC:C.dp=1) {ops:List Oper} {l:List (Nat×List Nat×Bool)} {s s' t:AS} (h:Tr C ops l s t) (e:s.same s'):∃ t',Tr C ops l s' t'∧t.same t':=by
 induction h generalizing s' with
 | nil s=>exact ⟨s',.nil s',e⟩
 | cons h _ ih =>
  obtain ⟨t1,k1,k2⟩:=h.same hC e;obtain ⟨t2,j1,j2⟩:=ih k2;exact ⟨t2,.cons k1 j1,j2⟩
def Zbn (ops:List Oper) (a b:Nat×List Nat×Bool):Prop:=(∀ x y,ops[a.1]?=some x→ops[b.1]?=some y→Pp ops x y=true)∧((∀ k,k∈a.2.1→k∉b.2.1)∨(a.2.2=true∧b.2.2=true))
theorem eG {ops:List Oper} {x y:Oper} (h:Pp ops x y=true) :
  (∀ d,x.dst=some d→d∉dF ops y)∧(∀ d,x.dst=some d→y.dst≠some d)∧(∀ d,y.dst=some d→d∉dF ops x):=by
 refine ⟨fun d hd=>?_,fun d hd=>?_,fun d hd=>?_⟩<;>simp [Pp,hd] at h
 ·exact h.1.1
 ·exact h.1.2
 ·exact h.2
def oE (C:Ctx) (ops:List Oper) (o:Oper) (fp:List Nat) (ro:Bool) (s:AS) (x:AV) (os:Z5):Prop :=
 (match o.guard with
  | none=>False
  | some (j,want)=>(Xe ops s j).skips want∧fp=[]∧ro=true∧x=.d (.tup [])∧os=s.objs) ∨
 ((match o.guard with
  | none=>True
  | some (j,want)=>(Xe ops s j).runs want)∧fp=Mb C o s∧ro=Li o.op∧∃ c,Qjs C o s=some (c,x,os)∧c) ∨
 ((match o.guard with
  | none=>True
  | some (j,want)=>(Xe ops s j).runs want)∧ro=false∧∃ (bc:BCon) (q:bc.X) (rs:List Nat),vK C o s bc q rs∧fp=rs.map (· % 4096)∧x=bc.rvr rs q∧os=Wl rs rs (bc.post q) s.objs)
theorem Ic {ops:List Oper} {i:Nat} {fp:List Nat} {ro:Bool} {s t:AS}:lC C ops i fp ro s t↔∃ o x os,ops[i]?=some o∧oE C ops o fp ro s x os∧t=s.put o.dst x os:=by
 constructor
 ·rintro ⟨o,ho,h⟩;rcases h with h|⟨hg,vF,Ay,c,x,os,h1,hc,rfl⟩|⟨hg,Ay,bc,x,rs,hb,vF,rfl⟩
  rotate_right
  ·exact ⟨o,bc.rvr rs x,Wl rs rs (bc.post x) s.objs,ho,.inr (.inr ⟨hg,Ay,bc,x,rs,hb,vF,rfl,rfl⟩),rfl⟩
  ·refine ⟨o,.d (.tup []),s.objs,ho,.inl ?_,?_⟩
   ·cases Bl:o.guard with
    | none=>simp only [Bl] at h
    | some jw=>simp only [Bl] at h ⊢;obtain ⟨h1,h3,h4,_⟩:=h;exact ⟨h1,h3,h4,trivial,trivial⟩
   ·cases Bl:o.guard with
    | none=>simp only [Bl] at h
    | some jw=>simp only [Bl] at h;exact h.2.2.2
  ·exact ⟨o,x,os,ho,.inr (.inl ⟨hg,vF,Ay,c,h1,hc⟩),rfl⟩
 ·rintro ⟨o,x,os,ho,h,rfl⟩;refine ⟨o,ho,?_⟩;rcases h with h|⟨hg,vF,Ay,c,h1,hc⟩|⟨hg,Ay,bc,q,rs,hb,vF,rfl,rfl⟩
  ·refine .inl ?_;cases Bl:o.guard with
   | none=>simp only [Bl] at h
   | some jw=>simp only [Bl] at h ⊢;obtain ⟨h1,h3,h4,rfl,rfl⟩:=h;exact ⟨h1,h3,h4,rfl⟩
  ·exact .inr (.inl ⟨hg,vF,Ay,c,x,os,h1,hc,rfl⟩)
  ·exact .inr (.inr ⟨hg,Ay,bc,q,rs,hb,vF,rfl⟩)
theorem oE.move (hC:C.dp=1) {ops:List Oper} {o:Oper} {fp:List Nat} {ro:Bool} {s:AS} {x:AV} {os:Z5} (h:oE C ops o fp ro s x os) {s':AS}
  (hg:∀ j want,o.guard=some (j,want)→Xe ops s' j=Xe ops s j) (hf:Mb C o s'=Mb C o s) (Ja:∀ y∈Jb o.op,∀ hint,s'.ev C hint y=s.ev C hint y)
  (ho:∀ k,V9 fp k→lk s.objs k=lk s'.objs k):∃ os',oE C ops o fp ro s' x os'∧(∀ k,V9 fp k→lk os k=lk os' k)∧(∀ k,¬ V9 fp k→lk os k=lk s.objs k∧lk os' k=lk s'.objs k):=by
 rcases h with h|⟨Bl,vF,Ay,c,h1,hc⟩|⟨Bl,Ay,bc,q,rs,hb,vF,rfl,rfl⟩
 rotate_right
 ·subst vF;obtain ⟨b1,b2,b3⟩:=hb.move Ja ho;refine ⟨Wl rs rs (bc.post q) s'.objs,.inr (.inr ⟨?_,Ay,bc,q,rs,b1,rfl,rfl,rfl⟩),b2,b3⟩;cases hgd':o.guard with
  | none=>trivial
  | some jw =>
   obtain ⟨j,want⟩:=jw;simp only [hgd'] at Bl ⊢;rw [hg j want hgd'];exact Bl
 ·cases Bl:o.guard with
  | none=>simp only [Bl] at h
  | some jw =>
   obtain ⟨j,want⟩:=jw;simp only [Bl] at h;obtain ⟨h1,h3,h4,rfl,rfl⟩:=h;refine ⟨s'.objs,.inl ?_,fun k hk=>ho k hk,fun k _=>⟨rfl,rfl⟩⟩;simp only [Bl];exact ⟨by rw [hg j want Bl];exact h1,h3,h4,trivial,trivial⟩
 ·subst vF;obtain ⟨os',k1,k2,k3⟩:=gT hC o s s.objs s'.objs c x os ho h1;refine ⟨os',.inr (.inl ⟨?_,hf.symm,Ay,c,?_,hc⟩),k2,k3⟩
  ·cases hgd':o.guard with
   | none=>trivial
   | some jw =>
    obtain ⟨j,want⟩:=jw;simp only [hgd'] at Bl ⊢;rw [hg j want hgd'];exact Bl
  ·rw [←k1];exact pK rfl (fun y hy hint=>by rw [Ja y hy hint];cases y<;>rfl)
theorem oE.ro {ops:List Oper} {o:Oper} {fp:List Nat} {s:AS} {x:AV} {os:Z5} (h:oE C ops o fp true s x os):os=s.objs:=by
 rcases h with h|⟨_,_,Ay,c,h1,_⟩|⟨_,Ay,_⟩
 ·cases Bl:o.guard with
  | none=>simp only [Bl] at h
  | some jw=>simp only [Bl] at h;obtain ⟨h1,h3,h4,rfl,rfl⟩:=h;rfl
 ·exact Zco Ay.symm h1
 ·cases Ay
theorem Zb8 (hC:C.dp=1) {ops:List Oper} {a b:Nat×List Nat×Bool} {s t u:AS} (h1:lC C ops a.1 a.2.1 a.2.2 s t) (h2:lC C ops b.1 b.2.1 b.2.2 t u) (hi:Zbn ops a b) :
  ∃ t' u',lC C ops b.1 b.2.1 b.2.2 s t'∧lC C ops a.1 a.2.1 a.2.2 t' u'∧u.same u':=by
 obtain ⟨oa,xa,osa,Qgn,fa,rfl⟩:=Ic.1 h1;obtain ⟨ob,xb,osb,Yd,fb,rfl⟩:=Ic.1 h2;obtain ⟨s1,s2,s3⟩:=eG (hi.1 oa ob Qgn Yd);have key:∀ k,V9 b.2.1 k→lk (s.put oa.dst xa osa).objs k=lk s.objs k:=by
  intro k hk;rw [X2];rcases hi.2 with hd|⟨hr,_⟩
  ·have:¬ V9 a.2.1 k:=fun Bc=>hd _ Bc hk;obtain ⟨_,q1,q2,q3⟩:=fa.move hC (s':=s) (fun _ _ _=>rfl) rfl (fun _ _ _=>rfl) (fun _ _=>rfl);exact (q3 k this).1
  ·rw [hr] at fa;rw [fa.ro]
 obtain ⟨osb',fb',e1,e2⟩:=fb.move hC (s':=s) (fun j want hg=>(mC hg s1).symm) (tU s1).symm (fun y hy hint=>(wH (fun d hd=>Af (s1 d hd) y hy)).symm) key;have key2:∀ k,V9 a.2.1 k→lk s.objs k=lk (s.put ob.dst xb osb').objs k:=by
  intro k hk;rw [X2];rcases hi.2 with hd|⟨_,hr⟩
  ·have:¬ V9 b.2.1 k:=fun Lz=>hd _ hk Lz;exact (e2 k this).2.symm
  ·rw [hr] at fb';rw [fb'.ro]
 obtain ⟨osa',fa',g1,g2⟩:=fa.move hC (s':=s.put ob.dst xb osb') (fun j want hg=>mC hg s3) (tU s3) (fun y hy hint=>wH (fun d hd=>Af (s3 d hd) y hy)) key2;refine ⟨s.put ob.dst xb osb',(s.put ob.dst xb osb').put oa.dst xa osa',Ic.2 ⟨ob,xb,osb',Yd,fb',rfl⟩,Ic.2 ⟨oa,xa,osa',Qgn,fa',rfl⟩,Zfj s2,fun k=>?_⟩;simp only [X2] at e1 e2 g1 g2 key key2 ⊢;rcases hi.2 with hd|⟨Qbi,Qhl⟩
 ·by_cases Bc:V9 a.2.1 k
  ·have Lz:¬ V9 b.2.1 k:=fun Lz=>hd _ Bc Lz;rw [(e2 k Lz).1,g1 k Bc]
  ·rw [(g2 k Bc).2];by_cases Lz:V9 b.2.1 k
   ·exact e1 k Lz
   ·rw [(e2 k Lz).1,(e2 k Lz).2,(g2 k Bc).1]
 ·rw [Qbi] at fa fa';rw [Qhl] at fb fb';rw [fb.ro,X2,fa.ro,fa'.ro,X2,fb'.ro]
theorem Tr.first (hC:C.dp=1) {ops:List Oper} {i:Nat×List Nat×Bool}:∀ {l1 l2:List (Nat×List Nat×Bool)} {s t:AS},Tr C ops (l1++i::l2) s t→(∀ k∈l1,Zbn ops k i) →
  ∃ s1 t',lC C ops i.1 i.2.1 i.2.2 s s1∧Tr C ops (l1++l2) s1 t'∧t.same t'
 | [],l2,s,t,h,_=>by
  simp only [List.nil_append] at h ⊢;cases h with
  | cons h k=>exact ⟨_,t,h,k,AS.same.refl t⟩
 | (k,fk,rk)::l1,l2,s,t,h,hi=>by
  simp only [List.cons_append] at h;cases h with
  | cons h1 h2 =>
   obtain ⟨u1,t',k1,k2,k3⟩:=Tr.first hC h2 (fun q hq=>hi q (List.mem_cons_of_mem _ hq));obtain ⟨s1,u',j1,j2,j3⟩:=Zb8 hC (a:=(k,fk,rk)) (b:=i) h1 k1 (hi _ (by simp))
   obtain ⟨t'',q1,q2⟩:=k2.same hC j3;exact ⟨s1,t'',j1,.cons j2 q1,k3.trans q2⟩
end
end Go.Am
