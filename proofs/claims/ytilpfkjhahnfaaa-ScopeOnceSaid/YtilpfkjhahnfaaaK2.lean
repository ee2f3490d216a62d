/- Contracts of functions that the law reaches, and plain laws. Conditions: those that each contract states. -/
import Derived.Test.YtilpfkjhahnfaaaK1
import Derived.Deep.LoopGhost
import Derived.Laws.BytesArg
import Derived.Orders
import Derived.ProofKit
import Derived.OpenShut
import Derived.JoinedCond
import Derived.JoinedOf
import Derived.Carry
import Derived.Deep.Slices
import Derived.Test.YtilpfkjhahnfaaaChecked
set_option maxHeartbeats 1000000
set_option linter.unusedVariables false
set_option linter.unusedSimpArgs false
namespace Go.Am
open Go.RowKit (Below)
mutual
theorem RA.off {F:Fix} {G G':Gh} {L L':Nat→Option Obj} {i:Nat} (hL:∀ j,j≠i→L' j=L j∧G'.γ j=G.γ j∧G'.hd j=G.hd j):∀ {x:AV} {v:Value},x.off i=true→RA F G L x v→RA F G' L' x v
 | .d x,_,_,h=>by simpa only [RA] using h
 | .ref j f,_,ho,h=>by
  simp only [AV.off,bne_iff_ne] at ho
  obtain ⟨h1,h2,_⟩:=hL j ho
  simp only [RA,h1,h2] at h ⊢
  exact h
 | .rref j n e f,_,ho,h=>by
  simp only [AV.off,bne_iff_ne] at ho
  obtain ⟨h1,h2,_⟩:=hL j ho
  simp only [RA,h1,h2] at h ⊢
  exact h
 | .sl j n,_,ho,h=>by
  simp only [AV.off,bne_iff_ne] at ho
  obtain ⟨h1,_,h3⟩:=hL j ho
  simp only [RA,h1,h3] at h ⊢
  exact h
 | .mpr j,_,ho,h=>by
  simp only [AV.off,bne_iff_ne] at ho
  obtain ⟨h1,h2,_⟩:=hL j ho
  simp only [RA,h1,h2] at h ⊢
  exact h
 | .sb j n f,_,ho,h=>by
  simp only [AV.off,bne_iff_ne] at ho
  obtain ⟨h1,h2,h3⟩:=hL j ho
  simp only [RA,h1,h2,h3] at h ⊢
  exact h
 | .agg l,_,ho,h=>by
  simp only [AV.off] at ho
  simp only [RA] at h ⊢
  obtain ⟨cs,h1,h2,h3⟩:=h
  exact ⟨cs,h1,RAs.off hL ho h2,h3⟩
 | .tup l,_,ho,h=>by
  simp only [AV.off] at ho
  simp only [RA] at h ⊢
  obtain ⟨cs,h1,h2⟩:=h
  exact ⟨cs,h1,RAs.off hL ho h2⟩
 | .clo f l,_,ho,h=>by
  simp only [AV.off] at ho
  simp only [RA] at h ⊢
  obtain ⟨cs,h1,h2⟩:=h
  exact ⟨cs,h1,RAs.off hL ho h2⟩
 | .nils _,_,_,h=>by simpa only [RA] using h
 | .dead,_,_,_=>by simp [RA]
theorem RAs.off {F:Fix} {G G':Gh} {L L':Nat→Option Obj} {i:Nat} (hL:∀ j,j≠i→L' j=L j∧G'.γ j=G.γ j∧G'.hd j=G.hd j):∀ {l:List AV} {vs:List Value},offAll i l=true→RAs F G L l vs→RAs F G' L' l vs
 | [],_,_,h=>by simpa only [RAs] using h
 | x::l,vs,ho,h=>by
  simp only [offAll,bX] at ho
  simp only [RAs] at h ⊢
  obtain ⟨v,r,h1,h2,h3⟩:=h
  exact ⟨v,r,h1,RA.off hL ho.1 h2,RAs.off hL ho.2 h3⟩
end
theorem RAs.kill {F:Fix} {G G':Gh} {L L':Nat→Option Obj} {i:Nat} (hL:∀ j,j≠i→L' j=L j∧G'.γ j=G.γ j∧G'.hd j=G.hd j):∀ {l:List AV} {vs:List Value},RAs F G L l vs→RAs F G' L' (Dl i l) vs
 | [],_,h=>by simpa only [RAs,Dl] using h
 | x::l,vs,h=>by
  simp only [RAs] at h
  obtain ⟨v,r,h1,h2,h3⟩:=h
  simp only [Dl,RAs]
  refine ⟨v,r,h1,?_,RAs.kill hL h3⟩
  cases ho:x.off i with
  | true=>exact RA.off hL ho h2
  | false=>simp [RA]
theorem objsOff_at {i:Nat}:∀ {o:Gb},T5 i o=true→∀ {j:Nat} {ag:Bool} {cells:List AV},lk o j=some (.box ag cells)→offAll i cells=true
 | [],_,j,ag,cells,hj=>by simp [lk] at hj
 | (k,q)::r,h,j,ag,cells,hj=>by
  simp only [lk] at hj
  by_cases hjk:j=k
  ·subst hjk
   rw [if_pos rfl] at hj
   injection hj with hj
   subst hj
   simp only [T5,bX] at h
   exact h.1
  ·rw [if_neg hjk] at hj
   have hr:T5 i r=true:=by
    cases q<;>simp only [T5,bX] at h<;>first|exact h|exact h.2
   exact objsOff_at hr hj
theorem objsOff_hole {i:Nat}:∀ {o:Gb},T5 i o=true→∀ {j k n e f:Nat} {x:AV},lk o j=some (.hole k n e f x)→k≠i∧x.off i=true
 | [],_,j,k,n,e,f,x,hj=>by simp [lk] at hj
 | (q0,q)::r,h,j,k,n,e,f,x,hj=>by
  simp only [lk] at hj
  by_cases hjk:j=q0
  ·subst hjk
   rw [if_pos rfl] at hj
   injection hj with hj
   subst hj
   simp only [T5,bX,bne_iff_ne] at h
   exact h.1
  ·rw [if_neg hjk] at hj
   have hr:T5 i r=true:=by
    cases q<;>simp only [T5,bX] at h<;>first|exact h|exact h.2
   exact objsOff_hole hr hj
section
variable {P:Program} {C:Ctx} {G:Gh}
variable {base:Nat} {pass:Nat→Prop} {F0:Anc} {m:Nat→Nat} {st:AS} {a:Act} {w:World}
theorem SRg.cut (h:SRg base pass F0 m G st a w) {i s k c:Nat} {els:List D} (hi:lk st.objs i=some (.row s els k)) {n:Nat} (hn:n≤els.length) (hk:k≤n) (ho:T5 i st.objs=true) (hi9:i<90000) {A:Option Addr} (hd:G.hd i=.slice A els.length c) :
  SRg base pass F0 m ⟨G.γ,fun j=>if j=i then .slice A n c else G.hd j⟩ ⟨Dl i st.tmps,upd st.objs i (.row s (els.take n) k)⟩ a w:=by
 have hL:∀ j,j≠i→lk (upd st.objs i (.row s (els.take n) k)) j=lk st.objs j∧(⟨G.γ,fun j=>if j=i then .slice A n c else G.hd j⟩:Gh).γ j=G.γ j∧(⟨G.γ,fun j=>if j=i then .slice A n c else G.hd j⟩:Gh).hd j=G.hd j:=by
  intro j hj
  exact ⟨by rw [Bm,if_neg hj],rfl,by simp [hj]⟩
 have own:∀ j o',lk (upd st.objs i (.row s (els.take n) k)) j=some o'→∃ o,lk st.objs j=some o∧o.owns=o'.owns:=by
  intro j o' hj
  rw [Bm] at hj
  by_cases hji:j=i
  ·subst hji
   rw [if_pos rfl] at hj
   injection hj with hj
   subst hj
   exact ⟨_,hi,rfl⟩
  ·rw [if_neg hji] at hj
   exact ⟨o',hj,rfl⟩
 constructor
 ·exact h.defers
 ·exact RAs.kill hL h.tmps
 ·intro j o' hj
  simp only at hj
  by_cases hji:j=i
  ·subst hji
   rw [Bm,if_pos rfl] at hj
   injection hj with hj
   subst hj
   have hob:=h.objs j _ hi
   simp only [Hd] at hob ⊢
   have hlen:(els.take n).length=n:=by rw [List.length_take];omega
   rcases hob with ⟨h1,h2,h3,h4⟩|⟨b,cap,cs,t,h1,h2,h3,h4,h5,h6,h7,h8,h9⟩
   ·left
    subst h3
    simp only [List.length_nil,Nat.le_zero_eq] at hn
    subst hn
    rw [h2] at hd
    simp only [List.length_nil,Value.slice.injEq] at hd
    obtain ⟨rfl,_,rfl⟩:=hd
    exact ⟨h1,by simp,by simp,h4⟩
   ·right
    rw [h2] at hd
    simp only [Value.slice.injEq,true_and] at hd
    obtain ⟨rfl,rfl⟩:=hd
    refine ⟨b,cap,cs,t,h1,by simp [hlen],by omega,h4,h5,h6,?_,h8,by omega⟩
    rw [hlen]
    have:=(h7.split n).1
    rw [List.take_take] at this
    have e:min (n*s) (els.length*s)=n*s:=Nat.min_eq_left (Nat.mul_le_mul_right _ hn)
    rw [e] at this
    exact this
  ·rw [(hL j hji).1] at hj
   have hob:=h.objs j _ hj
   obtain ⟨e1,e2,e3⟩:=hL j hji
   cases o' with
   | box ag cells =>
    simp only [Hd] at hob ⊢
    obtain ⟨b,cs,t,h1,h2,h3,h4,h5⟩:=hob
    exact ⟨b,cs,t,h1,h2,RAs.off hL (objsOff_at ho hj) h3,h4,h5⟩
   | fbox s' x=>exact hob
   | row s' els' k' =>
    simp only [Hd,if_neg hji] at hob ⊢
    exact hob
   | mp ks vs f=>exact hob
   | gone=>trivial
   | slot e f=>trivial
   | hole j' n' e f x =>
    obtain ⟨o1,o2⟩:=objsOff_hole ho hj
    simp only [Hd] at hob ⊢
    obtain ⟨b,off,v,g1,g2,g3,g4⟩:=hob
    exact ⟨b,off,v,RA.off hL (by simp only [AV.off,bne_iff_ne];exact o1) g1,g2,g3,RA.off hL o2 g4⟩
 ·intro j j' o o' b hj hj' hoo hoo' hb hb'
  obtain ⟨q,q1,q2⟩:=own j o hj
  obtain ⟨q',q1',q2'⟩:=own j' o' hj'
  exact h.apart j j' q q' b q1 q1' (q2.trans hoo) (q2'.trans hoo') hb hb'
 ·intro j o b hj hoo hb
  obtain ⟨q,q1,q2⟩:=own j o hj
  exact h.mine j q b q1 (q2.trans hoo) hb
 ·exact h.frame
 ·exact h.old
 ·exact h.new
 ·exact h.small
 ·intro j o hj
  obtain ⟨h1,o1,h2,h3⟩:=h.lent j o hj
  have hji:j≠i:=by omega
  refine ⟨h1,o1,by rw [(hL j hji).1];exact h2,?_⟩
  refine h3.trans ⟨fun hb=>⟨hb,rfl⟩,fun s' els' k' he=>⟨els',k',he,cZ _,fun _=>⟨rfl,by simp [hji]⟩⟩⟩
end
section
variable {P:Program} {C:Ctx} {G:Gh}
variable {base:Nat} {pass:Nat→Prop} {F0:Anc} {m:Nat→Nat} {st:AS} {a:Act} {w:World}
theorem u8s_nums {F:Fix}:∀ {xs:List D} {vs:List Value},u8s xs→RE F 1 xs vs→vs=(xs.map D.i).map (Value.int .u8)∧u8b xs=(xs.map D.i).map fun n=>UInt8.ofNat n.toNat
 | [],vs,_,h=>by
  simp only [RE] at h
  subst h
  exact ⟨rfl,rfl⟩
 | x::l,vs,⟨h1,h2⟩,h=>by
  simp only [RE] at h
  obtain ⟨v,r,rfl,-,-,hv,hr⟩:=h
  obtain ⟨e1,e2⟩:=u8s_nums h2 hr
  have hv2:=hv.of_int h1
  subst hv2
  subst e1
  exact ⟨rfl,by rw [u8b,e2];rfl⟩
theorem convO_sound (T:B8 P C.τ) (h:SRg base pass F0 m G st a w) {s t:Nat} {x z:AV} {v:Value} {c:Prop} {os:Gb} (hh:hConvO C s t x st.objs=some (c,z,os)) (hc:c) (hx:RA ⟨w,m⟩ G (lk st.objs) x v) :
  ∃ u,(convert s t v).run P w=.ok u w∧RA ⟨w,m⟩ G (lk st.objs) z u∧os=st.objs:=by
 unfold hConvO at hh
 split at hh
 ·next e hk hk' =>
  split at hh
  ·next c1 xs hke hsrc =>
   simp only [aZ,aJ] at hh
   obtain ⟨rfl,rfl,rfl⟩:=hh
   obtain ⟨d,hd,hkd⟩:=T.kind hk rfl
   obtain ⟨d',hd',hkd'⟩:=T.kind hk' rfl
   obtain ⟨d2,hd2,hkd2⟩:=T.kind hke rfl
   simp only [TK.is] at hkd hkd' hkd2
   obtain ⟨rfl,-⟩:=hkd
   subst hkd';subst hkd2
   obtain ⟨B,cap,rfl,hB⟩:=source_sound h hx hsrc hc.1
   rcases hB with rfl|⟨b,off,vs,rfl,hE,hcell⟩
   ·refine ⟨.string .empty,?_,by simp only [RA,R];rfl,rfl⟩
    rw [run_convert_bytes_string w s t e B _ cap hd hd2 hd']
    cases B with
    | none=>simp [Conv.bytesToString]
    | some B =>
     exact run_bytesToString w B 0 cap [] (by simp [loadCells,loadCellsFrom])
   ·obtain ⟨e1,e2⟩:=u8s_nums hc.2 hE
    refine ⟨_,run_convert_bytes_arg w s e hd hd2 b off xs.length cap (xs.map D.i) (by simp) (fun i hi=>hcell i _ ?_) t hd',?_,rfl⟩
    ·rw [e1]
     simp [hi]
    ·simp only [RA,R,strOfNums]
     rw [e2]
  ·cases hh
 ·unfold Lz at hh
  split at hh
  ·next c1 d hb =>
   simp only [aZ,aJ] at hh
   obtain ⟨rfl,rfl,rfl⟩:=hh
   obtain ⟨v,hr,hv⟩:=conv_sound (w:=w) T hb hc hx
   exact ⟨v,hr,by simpa only [RA] using hv,rfl⟩
  ·cases hh
theorem Ea {F:Fix} {L:Nat→Option Obj} (h:RAs F G L st.tmps a.tmps.toList):∀ (xs:List Operand) (ts:List Nat),RAs F G L (evs C st xs ts) (xs.map a.eval)
 | [],ts=>by cases ts<;>simp [evs,RAs]
 | x::xs,[]=>by simp only [evs,List.map_cons,RAs];exact ⟨_,_,rfl,Sd h x,Ea h xs []⟩
 | x::xs,t::ts=>by simp only [evs,List.map_cons,RAs];exact ⟨_,_,rfl,Sd h x,Ea h xs ts⟩
theorem evParts_sound {F:Fix} {L:Nat→Option Obj} (h:RAs F G L st.tmps a.tmps.toList) (hint:Nat):∀ (ps:List (Nat×Operand)) (j i:Nat) (x:AV),(L1 C st hint ps)[j]?=some (i,x) →
  ∃ v,(ps.map fun p=>(p.1,a.eval p.2))[j]?=some (i,v)∧RA F G L x v
 | [],j,i,x,hj=>by simp [L1] at hj
 | (i0,y)::ps,0,i,x,hj=>by
  simp only [L1,List.getElem?_cons_zero,aZ,aJ] at hj
  obtain ⟨rfl,rfl⟩:=hj
  exact ⟨a.eval y,rfl,Sd h y⟩
 | (i0,y)::ps,j+1,i,x,hj=>by
  simp only [L1,List.getElem?_cons_succ] at hj
  simpa using evParts_sound h hint ps j i x hj
theorem evParts_length (hint:Nat):∀ (ps:List (Nat×Operand)),(L1 C st hint ps).length=ps.length
 | []=>rfl
 | (i,x)::ps=>by simp [L1,evParts_length hint ps]
theorem evO_sound {F:Fix} {L:Nat→Option Obj} (h:RAs F G L st.tmps a.tmps.toList) (t:Nat) (x:Option Operand):Tb F G L (evO C st t x) (x.map a.eval):=by
 cases x with
 | none=>simp [evO,Tb]
 | some x=>simp only [evO,Option.map_some,Tb];exact Sd h x
def After (base:Nat) (pass:Nat→Prop) (F0:Anc) (a:Act) (tm:List AV) (dst:Option Tmp) (z:AV) (os:Gb) (K:Act→World→Prop):Prop :=
 ∀ v w' m' G',SRg base pass F0 m' G' ⟨tm,os⟩ a w'→RA ⟨w',m'⟩ G' (lk os) z v→K (a.put dst v) w'
theorem Nc {o:Oper} {s:Sem Value} {z:AV} {os:Gb} {K:Act→World→Prop} {Q:Exit→Act→World→Prop} (he:execOp a.eval o=(do pure (.value (←s)))) (ht:Rv P base pass F0 a st.tmps s w z os)
  (hn:After base pass F0 a st.tmps o.dst z os K):o.wp P a w K Q:=by
 obtain ⟨v,w',m',G',hr,hs,hz⟩:=ht
 unfold Oper.wp
 rw [he]
 simp only [Sem.run_bind,hr,Result.andThen_ok,Sem.run_pure,Oper.upon]
 exact hn v w' m' G' hs hz
theorem wp_stores {o:Oper} {s:Sem Unit} {os:Gb} {K:Act→World→Prop} {Q:Exit→Act→World→Prop} (he:execOp a.eval o=(do s;pure .skip)) (ht:Stores P base pass F0 a st.tmps s w os)
  (hn:After base pass F0 a st.tmps o.dst .dead os K):o.wp P a w K Q:=by
 obtain ⟨w',m',G',hr,hs⟩:=ht
 unfold Oper.wp
 rw [he]
 simp only [Sem.run_bind,hr,Result.andThen_ok,Sem.run_pure,Oper.upon]
 exact hn _ w' m' G' hs (by simp [RA])
theorem O7 {o:Oper} {f:FuncId} {args:Array Value} {z:AV} {os:Gb} {K:Act→World→Prop} {Q:Exit→Act→World→Prop} (he:(execOp a.eval o).run P w=.ok (.enter f args) w)
  (hc:Calls P f args w fun e w'=>∃ v m' G',e=.returned v∧SRg base pass F0 m' G' ⟨st.tmps,os⟩ a w'∧RA ⟨w',m'⟩ G' (lk os) z v) (hn:After base pass F0 a st.tmps o.dst z os K):o.wp P a w K Q:=by
 unfold Oper.wp
 rw [he]
 simp only [Oper.upon]
 refine hc.mono fun e w' ⟨v,m',G',he',hs,hz⟩=>?_
 subst he'
 exact hn v w' m' G' hs hz
theorem array_one {α:Type} {a:Array α} {x:α} (h:a.toList=[x]):a=#[x]:=by cases a;simp_all
theorem array_two {α:Type} {a:Array α} {x y:α} (h:a.toList=[x,y]):a=#[x,y]:=by cases a;simp_all
theorem op_sound (K:Gu P C) (h:SRg base pass F0 m G st a w) {o:Oper} {c:Prop} {z:AV} {os:Gb} {N:Act→World→Prop} {Q:Exit→Act→World→Prop} (hh:Dh C o st=some (c,z,os)) (hc:c)
  (hn:After base pass F0 a st.tmps o.dst z os N):o.wp P a w N Q:=by
 have T:=K.1
 have ev:∀ (hint:Nat) (x:Operand),RA ⟨w,m⟩ G (lk st.objs) (st.ev C hint x) (a.eval x):=fun hint x=>Sd h.tmps x
 unfold Dh at hh
 split at hh
 case h_1 x hop =>
  simp only [aZ,aJ] at hh
  obtain ⟨rfl,rfl,rfl⟩:=hh
  exact Nc (st:=st) (s:=pure (a.eval x)) (by simp [execOp,hop]) (Gv h rfl (ev _ x)) hn
 case h_2 x hop =>
  simp only [aZ,aJ] at hh
  obtain ⟨rfl,rfl,rfl⟩:=hh
  exact Nc (st:=st) (s:=pure (a.eval x)) (by simp [execOp,hop]) (Gv h rfl (ev _ x)) hn
 case h_3 cnd x y hop =>
  split at hh
  ·next r hr =>
   simp only [aZ,aJ] at hh
   obtain ⟨rfl,rfl,rfl⟩:=hh
   have h0:=ev 0 cnd
   unfold hPick at hr
   split at hr
   ·next hb =>
    simp only [aZ] at hr
    subst hr
    rw [hb] at h0
    simp only [RA,R] at h0
    exact Nc (st:=st) (s:=pure (a.eval x)) (by simp [execOp,hop,h0,asBool]) (Gv h rfl (ev _ x)) hn
   ·next hb =>
    simp only [aZ] at hr
    subst hr
    rw [hb] at h0
    simp only [RA,R] at h0
    exact Nc (st:=st) (s:=pure (a.eval y)) (by simp [execOp,hop,h0,asBool]) (Gv h rfl (ev _ y)) hn
   ·cases hr
  ·cases hh
 case h_4 e hop =>
  split at hh
  ·next k hd=>exact Nc (st:=st) (by simp only [execOp,hop]) (alloc_sound T h hh hc) hn
  ·cases hh
 case h_5 e x hop =>
  split at hh
  ·next k hd=>exact Nc (st:=st) (by simp only [execOp,hop]) (box_sound h (ev _ x) hh hc) hn
  ·cases hh
 case h_6 t ps hop =>
  refine Nc (st:=st) (s:=Instr.build t (ps.toList.map fun p=>(p.1,a.eval p.2)).toArray) ?_ (build_sound T h (by rw [evParts_length];simp) (evParts_sound h.tmps 0 ps.toList) hh hc) hn
  simp only [execOp,hop]
  congr 2
  cases ps
  simp
 case h_7 t n ps hop =>
  split at hh
  ·next k hd =>
   refine Nc (st:=st) (s:=Instr.buildSlice t n (ps.toList.map fun p=>(p.1,a.eval p.2)).toArray) ?_ (buildSlice_sound T h (by rw [evParts_length];simp) (evParts_sound h.tmps _ ps.toList) hh hc) hn
   simp only [execOp,hop]
   congr 2
   cases ps
   simp
  ·cases hh
 case h_8 t p hop=>exact Nc (st:=st) (by simp only [execOp,hop]) (load_sound T h (ev _ p) hh hc) hn
 case h_9 t p x hop =>
  obtain ⟨rfl,hs⟩:=store_sound (P:=P) T h (ev 0 p) (ev t x) hh hc
  exact wp_stores (st:=st) (by simp only [execOp,hop]) hs hn
 case h_10 op t x y ty hop =>
  unfold Lz at hh
  split at hh
  ·next c1 d hb =>
   simp only [aZ,aJ] at hh
   obtain ⟨rfl,rfl,rfl⟩:=hh
   obtain ⟨v,hr,hv⟩:=bin_sound (w:=w) (ox:=x) (oy:=y) T hb hc (ev t x) (ev t y)
   exact Nc (st:=st) (s:=Bd op t x y (a.eval x) (a.eval y)) (by simp only [execOp,hop,Bd]) (Gv h hr (by simpa only [RA] using hv)) hn
  ·cases hh
 case h_11 op t x hop =>
  unfold Lz at hh
  split at hh
  ·next c1 d hb =>
   simp only [aZ,aJ] at hh
   obtain ⟨rfl,rfl,rfl⟩:=hh
   obtain ⟨v,hr,hv⟩:=un_sound (P:=P) (w:=w) hb hc (ev t x)
   exact Nc (st:=st) (by simp only [execOp,hop]) (Gv h hr (by simpa only [RA] using hv)) hn
  ·cases hh
 case h_12 s t x hop =>
  obtain ⟨v,hr,hv,rfl⟩:=convO_sound T h hh hc (ev s x)
  exact Nc (st:=st) (by simp only [execOp,hop]) (Gv h hr hv) hn
 case h_13 f first caps hop =>
  split at hh
  ·next hf =>
   simp only [aZ,aJ] at hh
   obtain ⟨rfl,rfl,rfl⟩:=hh
   refine Nc (st:=st) (s:=Instr.makeFunc (.func f) (first.map a.eval) (caps.map a.eval)) (by simp only [execOp,hop]) (Gv h (v:=.func (.func f) #[] (caps.toList.map a.eval).toArray) ?_ (mkClo_sound (Ea h.tmps caps.toList []))) hn
   have hf':first=#[]:=by cases first;simp_all
   subst hf'
   simp [Instr.makeFunc]
   cases caps
   simp
  ·cases hh
 case h_14 t l cp hop =>
  split at hh
  ·next k hd=>exact Nc (st:=st) (by simp only [execOp,hop]) (makeSlice_sound T h (ev _ l) (ev _ cp) hh hc) hn
  ·cases hh
 case h_15 t x lo hi mx hop =>
  exact Nc (st:=st) (by simp only [execOp,hop]) (slice_sound T h (ev _ x) (evO_sound h.tmps _ lo) (evO_sound h.tmps _ hi) (evO_sound h.tmps _ mx) hh hc) hn
 case h_16 t hop =>
  split at hh
  ·next k hd=>exact Nc (st:=st) (by simp [execOp,hop]) (makeMap_sound (t:=t) h hh) hn
  ·cases hh
 case h_17 t x i ok hop=>exact Nc (st:=st) (by simp only [execOp,hop]) (lookup_sound T h (ev _ x) (ev _ i) hh hc) hn
 case h_18 t x i y hop =>
  obtain ⟨rfl,hs⟩:=mapUpdate_sound (P:=P) T h (ev 0 x) (ev 0 i) (ev _ y) hh hc
  exact wp_stores (st:=st) (by simp only [execOp,hop]) hs hn
 case h_19 t p f hop=>exact Nc (st:=st) (by simp only [execOp,hop]) (fieldAddr_sound T h (ev _ p) hh hc) hn
 case h_20 t x f hop=>exact Nc (st:=st) (by simp only [execOp,hop]) (field_sound T h (ev _ x) hh hc) hn
 case h_21 t x i hop=>exact Nc (st:=st) (by simp only [execOp,hop]) (indexAddr_sound T h (ev _ x) (ev _ i) hh hc) hn
 case h_22 t x i hop=>exact Nc (st:=st) (by simp only [execOp,hop]) (index_sound T h (ev _ x) (ev _ i) hh hc) hn
 case h_23 x i hop=>exact Nc (st:=st) (by simp only [execOp,hop]) (extract_sound h (ev _ x) hh) hn
 case h_24 cl hop =>
  split at hh
  case h_1 hcal =>
   split at hh
   ·next x t hx ht =>
    have e1:=array_one hx
    have e2:=array_one ht
    refine Nc (st:=st) (s:=Builtin.len_ #[t] o.type #[a.eval x]) ?_ (len_sound T h (ev t x) hh hc o.type) hn
    simp [execOp,hop,resolve,hcal,e1,e2,invoke,builtin]
   ·cases hh
  case h_2 hcal =>
   split at hh
   ·next s x t t' k hx ht hk =>
    split at hh
    ·next htt =>
     subst htt
     have e1:=array_two hx
     have e2:=array_two ht
     refine Nc (st:=st) (s:=Builtin.append_ #[t,t] o.type #[a.eval s,a.eval x]) ?_ (append_sound T h (ev t s) (ev t x) hh hc o.type) hn
     simp [execOp,hop,resolve,hcal,e1,e2,invoke,builtin]
    ·cases hh
   ·cases hh
  case h_3 hcal =>
   split at hh
   ·next x y t ts hx ht =>
    unfold Lz at hh
    split at hh
    ·next c1 d hb =>
     simp only [aZ,aJ] at hh
     obtain ⟨rfl,rfl,rfl⟩:=hh
     have e1:=array_two hx
     obtain ⟨v,hr,hv⟩:=min_sound (P:=P) (w:=w) hb hc (ev t x) (ev t y) cl.argTypes o.type
     refine Nc (st:=st) (s:=Builtin.min_ cl.argTypes o.type #[a.eval x,a.eval y]) ?_ (Gv h hr (by simpa only [RA] using hv)) hn
     simp [execOp,hop,resolve,hcal,e1,invoke,builtin]
    ·cases hh
   ·cases hh
  case h_4 hcal =>
   split at hh
   ·next x y t ts hx ht =>
    unfold Lz at hh
    split at hh
    ·next c1 d hb =>
     simp only [aZ,aJ] at hh
     obtain ⟨rfl,rfl,rfl⟩:=hh
     have e1:=array_two hx
     obtain ⟨v,hr,hv⟩:=max_sound (P:=P) (w:=w) hb hc (ev t x) (ev t y) cl.argTypes o.type
     refine Nc (st:=st) (s:=Builtin.max_ cl.argTypes o.type #[a.eval x,a.eval y]) ?_ (Gv h hr (by simpa only [RA] using hv)) hn
     simp [execOp,hop,resolve,hcal,e1,invoke,builtin]
    ·cases hh
   ·cases hh
  case h_5 f hcal =>
   split at hh
   ·next k hk =>
    obtain ⟨hent,hcalls⟩:=call_sound K h (Ea h.tmps cl.args.toList cl.argTypes.toList) hh hc
    refine O7 (st:=st) (args:=(cl.args.toList.map a.eval).toArray) ?_ hcalls hn
    have:=hent (cl.args.toList.map a.eval).toArray w
    have e:cl.args.map a.eval=(cl.args.toList.map a.eval).toArray:=by cases cl.args;simp
    simp only [execOp,hop,resolve,hcal,Act.eval,Deferred.ofValue]
    simpa [invoke,e] using this
   ·cases hh
  case h_6 f hcal =>
   split at hh
   ·next k hk =>
    have hf:=ev 0 (.tmp f)
    unfold hCallV at hh
    have e:cl.args.map a.eval=(cl.args.toList.map a.eval).toArray:=by cases cl.args;simp
    split at hh
    ·next g caps hfv =>
     rw [hfv] at hf
     simp only [RA,R] at hf
     obtain ⟨cs,hfe,hcs⟩:=hf
     obtain ⟨hent,hcalls⟩:=call_sound K h (RAs.append (Ea h.tmps cl.args.toList cl.argTypes.toList) (RAs.of_Rs hcs)) hh hc
     refine O7 (st:=st) (args:=(cl.args.toList.map a.eval++cs).toArray) ?_ hcalls hn
     have:=hent (cl.args.toList.map a.eval++cs).toArray w
     simp only [execOp,hop,resolve,hcal,hfe,Deferred.ofValue]
     simpa [invoke,e] using this
    ·next g caps hfv =>
     rw [hfv] at hf
     simp only [RA] at hf
     obtain ⟨cs,hfe,hcs⟩:=hf
     obtain ⟨hent,hcalls⟩:=call_sound K h (RAs.append (Ea h.tmps cl.args.toList cl.argTypes.toList) hcs) hh hc
     refine O7 (st:=st) (args:=(cl.args.toList.map a.eval++cs).toArray) ?_ hcalls hn
     have:=hent (cl.args.toList.map a.eval++cs).toArray w
     simp only [execOp,hop,resolve,hcal,hfe,Deferred.ofValue]
     simpa [invoke,e] using this
    ·cases hh
   ·cases hh
  case h_7=>cases hh
 case h_25=>cases hh
end
def Loc {α:Type} (S:Nat→Prop) (f:Gb→Option (Prop×α×Gb)):Prop :=
 ∀ o o' c x p,(∀ k,S k→lk o k=lk o' k)→f o=some (c,x,p)→∃ p',f o'=some (c,x,p')∧(∀ k,S k→lk p k=lk p' k)∧(∀ k,¬ S k→lk p k=lk o k∧lk p' k=lk o' k)
section
variable {α β:Type} {S:Nat→Prop}
theorem Loc.ret (c:Prop) (x:α):Loc S (fun o=>some (c,x,o)):=by
 intro o o' c' x' p h he
 simp only [aZ,aJ] at he
 obtain ⟨rfl,rfl,rfl⟩:=he
 exact ⟨o',rfl,h,fun k _=>⟨rfl,rfl⟩⟩
theorem Loc.none:Loc (α:=α) S (fun _=>none):=by
 intro o o' c' x' p h he
 cases he
theorem Loc.upd {i:Nat} (hi:S i) (c:Prop) (x:α) (b:Obj):Loc S (fun o=>some (c,x,upd o i b)):=by
 intro o o' c' x' p h he
 simp only [aZ,aJ] at he
 obtain ⟨rfl,rfl,rfl⟩:=he
 refine ⟨_,rfl,fun k hk=>?_,fun k hk=>?_⟩
 ·rw [Bm,Bm,h k hk]
 ·have:k≠i:=fun e=>hk (e▸hi)
  rw [Bm,Bm,if_neg this,if_neg this]
  exact ⟨rfl,rfl⟩
theorem Loc.lk {i:Nat} (hi:S i) {g:Option Obj→Gb→Option (Prop×α×Gb)} (h:∀ v,Loc S (g v)):Loc S (fun o=>g (lk o i) o):=by
 intro o o' c x p ho he
 have:=h (Go.Am.lk o i) o o' c x p ho he
 rw [ho i hi] at this
 exact this
theorem Loc.bind {f:Gb→Option (Prop×α×Gb)} {g:Prop→α→Gb→Option (Prop×β×Gb)} (hf:Loc S f) (hg:∀ c x,Loc S (g c x)) :
  Loc S (fun o=>match f o with|some (c,x,p)=>g c x p|Option.none=>Option.none):=by
 intro o o' c x p ho he
 simp only at he
 split at he
 ·next c1 x1 p1 hf1 =>
  obtain ⟨p1',k1,k2,k3⟩:=hf o o' c1 x1 p1 ho hf1
  obtain ⟨p',j1,j2,j3⟩:=hg c1 x1 p1 p1' c x p k2 he
  refine ⟨p',?_,j2,fun k hk=>⟨(j3 k hk).1.trans (k3 k hk).1,(j3 k hk).2.trans (k3 k hk).2⟩⟩
  simp only [k1]
  exact j1
 ·cases he
theorem Loc.bindE {f:Gb→Option (Prop×α×Gb)} {g:Prop→α→Gb→Option (Prop×β×Gb)} {F:Gb→Option (Prop×β×Gb)} (hf:Loc S f) (hg:∀ c x,Loc S (g c x))
  (h0:∀ o,f o=Option.none→F o=Option.none) (h1:∀ o c x p,f o=some (c,x,p)→F o=g c x p):Loc S F:=by
 have:F=fun o=>match f o with|some (c,x,p)=>g c x p|Option.none=>Option.none:=by
  funext o
  split
  ·next c x p h=>exact h1 o c x p h
  ·next h=>exact h0 o h
 rw [this]
 exact Loc.bind hf hg
theorem Loc.lkE {i:Nat} (hi:S i) {g:Option Obj→Gb→Option (Prop×α×Gb)} {F:Gb→Option (Prop×α×Gb)} (h:∀ v,Loc S (g v)) (hF:∀ o v,Go.Am.lk o i=v→F o=g v o):Loc S F:=by
 have:F=fun o=>g (Go.Am.lk o i) o:=by
  funext o
  exact hF o _ rfl
 rw [this]
 exact Loc.lk hi h
theorem Loc.congr {f g:Gb→Option (Prop×α×Gb)} (h:Loc S f) (e:∀ o,f o=g o):Loc S g:=by
 have:f=g:=funext e
 exact this▸h
theorem Loc.mono {S':Nat→Prop} {f:Gb→Option (Prop×α×Gb)} (h:Loc S f) (hs:∀ k,S k→S' k):Loc S' f:=by
 intro o o' c x p ho he
 obtain ⟨p',k1,k2,k3⟩:=h o o' c x p (fun k hk=>ho k (hs k hk)) he
 refine ⟨p',k1,fun k hk=>?_,fun k hk=>k3 k (fun h=>hk (hs k h))⟩
 by_cases hs:S k
 ·exact k2 k hs
 ·rw [(k3 k hs).1,(k3 k hs).2,ho k hk]
end
section
variable {C:Ctx} {S:Nat→Prop}
theorem alloc_loc {e key:Nat} {x:AV} (hk:S key):Loc S (hAlloc C e key x):=by
 refine Loc.congr (Loc.lk (g:=fun v o=>match C.ag e,v with
  | some ag,none=>some (x.fits (C.size e),AV.ref key 0,upd o key (.box ag (x.cells ag (C.size e))))
  | _,_=>none) hk fun v=>?_) (fun o=>rfl)
 split
 ·exact Loc.upd hk _ _ _
 ·exact Loc.none
theorem load_loc0 {t:Nat} {p:AV} (hk:∀ k∈p.keys,S k):Loc S (E4 C t p):=by
 cases p with
 | d x =>
  cases x with
  | ptr s x =>
   refine Loc.congr (f:=fun o=>match C.ag t with
    | some true=>if s=C.size t then some (True,.d x.asAgg,o) else none
    | some false=>if s=1 then some (True,.d (x.cell 0),o) else none
    | none=>none) ?_ (fun o=>rfl)
   repeat' split
   all_goals first|exact Loc.ret _ _|exact Loc.none
  | _=>exact Loc.none
 | ref i f =>
  have hi:=hk i (by simp [AV.keys])
  refine Loc.congr (Loc.lk (g:=fun v o=>match v with
   | some (.box _ cells)=>match C.ag t with
    | some true=>if f+C.size t≤cells.length then some (True,mkAgg ((cells.drop f).take (C.size t)),o) else none
    | some false=>if f<cells.length then some (True,cells.getD f .dead,o) else none
    | none=>none
   | some (.fbox s x)=>match C.ag t with
    | some true=>if f=0∧s=C.size t then some (True,.d x.asAgg,o) else none
    | some false=>if f<s then some (True,.d (x.cell f),o) else none
    | none=>none
   | _=>none) hi fun v=>?_) (fun o=>rfl)
  repeat' split
  all_goals first|exact Loc.ret _ _|exact Loc.none
 | rref i n e f =>
  have hi:=hk i (by simp [AV.keys])
  refine Loc.congr (Loc.lk (g:=fun v o=>match v with
   | some (.row s els _)=>match C.ag t with
    | some true=>if f=0∧s=C.size t then some (n=els.length∧e<els.length,.d (el els e).asAgg,o) else none
    | some false=>if f<s then some (n=els.length∧e<els.length,.d ((el els e).cell f),o) else none
    | none=>none
   | _=>none) hi fun v=>?_) (fun o=>rfl)
  repeat' split
  all_goals first|exact Loc.ret _ _|exact Loc.none
 | _=>exact Loc.none
theorem load_loc {t:Nat} {p:AV} (hk:∀ k∈p.keys,S k):Loc S (hLoad C t p):=by
 cases p with
 | rref i n e f =>
  have hi:=hk i (by simp [AV.keys])
  have hj:=hk (50000+i) (by simp [AV.keys])
  refine Loc.lkE hj (g:=fun v o=>match v with
   | some (.hole i' n0 e0 f0 x)=>if i'=i∧f0=f then match lk o i,C.ag t with
     | some (.row s els _),some false=>some (n=n0∧n=els.length∧e=e0,x,o)
     | _,_=>none
    else E4 C t (.rref i n e f) o
   | _=>E4 C t (.rref i n e f) o) (fun v=>?_) (fun o v h=>by simp only [hLoad,h];rcases v with _|(_|_|_|_|_|_|_)<;>rfl)
  split
  ·next i' n0 e0 f0 x =>
   split
   ·refine Loc.lkE hi (g:=fun v o=>match v,C.ag t with
     | some (.row s els _),some false=>some (n=n0∧n=els.length∧e=e0,x,o)
     | _,_=>none) (fun v=>?_) (fun o v h=>by simp only [h])
    split
    ·exact Loc.ret _ _
    ·exact Loc.none
   ·exact load_loc0 hk
  ·exact load_loc0 hk
 | _=>exact Loc.congr (load_loc0 (C:=C) (t:=t) hk) (fun o=>rfl)
theorem leafA_loc {x:AV} (hk:∀ k∈x.keys,S k):Loc S (leafA x):=by
 cases x with
 | d x=>exact Loc.ret _ _
 | nils s=>exact Loc.ret _ _
 | sl i n =>
  have hi:=hk i (by simp [AV.keys])
  refine Loc.lkE hi (g:=fun v o=>match v with
   | some (.row s els _)=>some (n=els.length,D.list s els,upd o i (.row s els els.length))
   | _=>none) (fun v=>?_) (fun o v h=>?_)
  ·split
   ·exact Loc.upd hi _ _ _
   ·exact Loc.none
  ·simp only [leafA,h]
   rcases v with _|(_|_|_|_|_|_|_)<;>rfl
 | _=>exact Loc.none
theorem leafAs_loc:∀ {l:List AV} (_:∀ k∈keysAll l,S k),Loc S (leafAs l)
 | [],_=>Loc.ret _ _
 | x::r,h=>by
  simp only [keysAll,List.mem_append] at h
  refine Loc.bindE (g:=fun c y o'=>match leafAs r o' with
   | some (c',l,o'')=>some (c∧c',y::l,o'')
   | none=>none) (leafA_loc (fun k hk=>h k (.inl hk))) (fun c y=>?_) (fun o e=>by simp only [leafAs,e]) (fun o c x p e=>by simp only [leafAs,e];try rfl)
  refine Loc.bindE (g:=fun c' l o''=>some (c∧c',y::l,o'')) (leafAs_loc (fun k hk=>h k (.inr hk))) (fun c y=>Loc.ret _ _) (fun o e=>by simp only [e]) (fun o c x p e=>by simp only [e];try rfl)
theorem pur1_loc {x:AV} (hk:∀ k∈x.keys,S k):Loc S (pur 1 x):=by
 cases x with
 | d x=>exact Loc.ret _ _
 | nils s=>exact Loc.ret _ _
 | sl i n =>
  have hi:=hk i (by simp [AV.keys])
  refine Loc.lkE hi (g:=fun v o=>match v with
   | some (.row s els _)=>some (n=els.length,D.list s els,upd o i (.row s els els.length))
   | _=>none) (fun v=>?_) (fun o v h=>?_)
  ·split
   ·exact Loc.upd hi _ _ _
   ·exact Loc.none
  ·simp only [pur,h]
   rcases v with _|(_|_|_|_|_|_|_)<;>rfl
 | ref i f =>
  have hi:=hk i (by simp [AV.keys])
  cases f with
  | succ f=>exact Loc.none
  | zero =>
   refine Loc.lkE hi (g:=fun v o=>match v with
    | some (.fbox s x)=>some (True,D.ptr s x,o)
    | _=>none) (fun v=>?_) (fun o v h=>?_)
   ·split
    ·exact Loc.ret _ _
    ·exact Loc.none
   ·simp only [pur,h]
    cases v with
    | none=>rfl
    | some ob=>cases ob<;>simp [purs]
 | mpr i =>
  have hi:=hk i (by simp [AV.keys])
  refine Loc.lkE hi (g:=fun v o=>match v with
   | some (.mp ks vs _)=>some (True,D.map ks vs,upd o i (.mp ks vs true))
   | _=>none) (fun v=>?_) (fun o v h=>?_)
  ·split
   ·exact Loc.upd hi _ _ _
   ·exact Loc.none
  ·simp only [pur,h]
   rcases v with _|(_|_|_|_|_|_|_)<;>rfl
 | agg l =>
  cases hf:flatAs l with
  | some xs=>exact Loc.congr (Loc.ret True (D.agg xs)) (fun o=>by simp only [pur,hf])
  | none =>
   refine Loc.bindE (g:=fun c xs o'=>some (c,D.agg xs,o')) (leafAs_loc (l:=l) (fun k h=>hk k (by simpa [AV.keys] using h))) (fun c y=>Loc.ret _ _) (fun o e=>by simp only [pur,hf,e];cases l<;>simp [purs]) (fun o c x p e=>by simp only [pur,hf,e])
 | tup l=>exact Loc.congr Loc.none (fun o=>by cases l<;>simp [pur,purs])
 | clo f l=>exact Loc.congr Loc.none (fun o=>by cases l<;>simp [pur,purs])
 | rref a b c d=>exact Loc.none
 | sb a b c=>exact Loc.none
 | dead=>exact Loc.none
theorem store_loc0 {C:Ctx} (hC:C.dp=1) {t:Nat} {p x:AV} (hp:∀ k∈p.keys,S k) (hx:∀ k∈x.keys,S k):Loc S (Dd C t p x):=by
 cases p with
 | ref i f =>
  have hi:=hp i (by simp [AV.keys])
  refine Loc.lkE hi (g:=fun v o=>match v with
   | some (.box ag cells)=>match C.ag t with
    | some true=>if f+C.size t≤cells.length then some (x.fits (C.size t),AV.dead,upd o i (.box ag (splice cells f (x.cells true (C.size t))))) else none
    | some false=>if f<cells.length then some (x.fits 1∧C.size t=1,AV.dead,upd o i (.box ag (splice cells f (x.cells false 1)))) else none
    | none=>none
   | _=>none) (fun v=>?_) (fun o v h=>?_)
  ·repeat' split
   all_goals first|exact Loc.upd hi _ _ _|exact Loc.none
  ·simp only [Dd,h]
   rcases v with _|(_|_|_|_|_|_|_)<;>rfl
 | rref i n e f =>
  have hi:=hp i (by simp [AV.keys])
  refine Loc.lkE hi (g:=fun v o=>match v with
   | some (.row _ _ _)=>(match pur 1 x o with
    | some (c,y,o')=>(match lk o' i with
     | some (.row s els k)=>match C.ag t with
      | some true=>if f=0∧s=C.size t then some (c∧n=els.length∧e<els.length∧k≤e∧y.fits s,AV.dead,upd o' i (.row s (els.set e y) k)) else none
      | some false=>if f<s then some (c∧n=els.length∧e<els.length∧k≤e∧y.fits 1∧C.size t=1,AV.dead,upd o' i (.row s (els.set e ((el els e).setCell f (y.cell 0))) k)) else none
      | none=>none
     | _=>none)
    | none=>none)
   | _=>none) (fun v=>?_) (fun o v h=>?_)
  ·split
   ·refine Loc.bindE (g:=fun c y o'=>(match lk o' i with
     | some (.row s els k)=>match C.ag t with
      | some true=>if f=0∧s=C.size t then some (c∧n=els.length∧e<els.length∧k≤e∧y.fits s,AV.dead,upd o' i (.row s (els.set e y) k)) else none
      | some false=>if f<s then some (c∧n=els.length∧e<els.length∧k≤e∧y.fits 1∧C.size t=1,AV.dead,upd o' i (.row s (els.set e ((el els e).setCell f (y.cell 0))) k)) else none
      | none=>none
     | _=>none)) (pur1_loc hx) (fun c y=>?_) (fun o h=>by simp only [h]) (fun o c x p h=>by simp only [h];try rfl)
    refine Loc.lkE hi (g:=fun v o'=>match v with
     | some (.row s els k)=>match C.ag t with
      | some true=>if f=0∧s=C.size t then some (c∧n=els.length∧e<els.length∧k≤e∧y.fits s,AV.dead,upd o' i (.row s (els.set e y) k)) else none
      | some false=>if f<s then some (c∧n=els.length∧e<els.length∧k≤e∧y.fits 1∧C.size t=1,AV.dead,upd o' i (.row s (els.set e ((el els e).setCell f (y.cell 0))) k)) else none
      | none=>none
     | _=>none) (fun v=>?_) (fun o v h=>by simp only [h];try rfl)
    repeat' split
    all_goals first|exact Loc.upd hi _ _ _|exact Loc.none
   ·exact Loc.none
  ·simp only [Dd,hC,h]
   cases v with
   | none=>rfl
   | some ob =>
    cases ob with
    | row s els k =>
     simp only
     cases pur 1 x o with
     | none=>rfl
     | some r=>rfl
    | _=>rfl
 | _=>exact Loc.none
theorem store_loc {C:Ctx} (hC:C.dp=1) {t:Nat} {p x:AV} (hp:∀ k∈p.keys,S k) (hx:∀ k∈x.keys,S k):Loc S (hStore C t p x):=by
 cases p with
 | rref i n e f =>
  have hi:=hp i (by simp [AV.keys])
  have hj:=hp (50000+i) (by simp [AV.keys])
  cases x with
  | sl j jm =>
   refine Loc.lkE hj (g:=fun v o=>match v with
    | some (.slot e0 f0)=>if f0=f then match lk o i,C.ag t with
      | some (.row s els k),some false=>if f<s then some (e=e0∧k≤e∧n=els.length∧e<els.length∧C.size t=1,AV.dead,upd (upd o i (.row s (els.set e ((el els e).setCell f .any)) (e+1))) (50000+i) (.hole i n e f (.sl j jm))) else none
      | _,_=>none
     else Dd C t (.rref i n e f) (.sl j jm) o
    | _=>Dd C t (.rref i n e f) (.sl j jm) o) (fun v=>?_) (fun o v h=>by simp only [hStore,h];rcases v with _|(_|_|_|_|_|_|_)<;>rfl)
   split
   ·next e0 f0 =>
    split
    ·refine Loc.lkE hi (g:=fun v o=>match v,C.ag t with
      | some (.row s els k),some false=>if f<s then some (e=e0∧k≤e∧n=els.length∧e<els.length∧C.size t=1,AV.dead,upd (upd o i (.row s (els.set e ((el els e).setCell f .any)) (e+1))) (50000+i) (.hole i n e f (.sl j jm))) else none
      | _,_=>none) (fun v=>?_) (fun o v h=>by simp only [h])
     split
     ·split
      ·next s els k _ _ =>
       refine Loc.bindE (f:=fun o=>some (True,(),upd o i (.row s (els.set e ((el els e).setCell f .any)) (e+1)))) (g:=fun _ _ o=>some (e=e0∧k≤e∧n=els.length∧e<els.length∧C.size t=1,AV.dead,upd o (50000+i) (.hole i n e f (.sl j jm)))) (Loc.upd hi _ _ _) (fun _ _=>Loc.upd hj _ _ _) (fun o h=>by cases h) (fun o c x p h=>by
        simp only [aZ,aJ] at h
        obtain ⟨-,-,rfl⟩:=h
        rfl)
      ·exact Loc.none
     ·exact Loc.none
    ·exact store_loc0 hC hp hx
   ·exact store_loc0 hC hp hx
  | _=>exact Loc.congr (store_loc0 hC (t:=t) hp hx) (fun o=>rfl)
 | _=>cases x<;>exact Loc.congr (store_loc0 hC (t:=t) hp hx) (fun o=>rfl)
theorem fieldAddr_loc {t f:Nat} {p:AV} (hp:∀ k∈p.keys,S k):Loc S (Dp C t p f):=by
 unfold Dp
 split
 ·next off sz _ =>
  cases p with
  | ref i f0 =>
   have hi:=hp i (by simp [AV.keys])
   refine Loc.lkE hi (g:=fun v o=>match v with
    | some ob=>if ob.isBox=true then some (True,.ref i (f0+off),o) else none
    | none=>none) (fun v=>?_) (fun o v h=>by simp only [h];cases v<;>rfl)
   repeat' split
   all_goals first|exact Loc.ret _ _|exact Loc.none
  | rref i n e f0 =>
   have hi:=hp i (by simp [AV.keys])
   refine Loc.lkE hi (g:=fun v o=>match v with
    | some (.row _ els _)=>some (n=els.length,.rref i n e (f0+off),o)
    | _=>none) (fun v=>?_) (fun o v h=>by simp only [h];rcases v with _|(_|_|_|_|_|_|_)<;>rfl)
   repeat' split
   all_goals first|exact Loc.ret _ _|exact Loc.none
  | d x =>
   cases x with
   | ptr s x =>
    simp only
    repeat' split
    all_goals first|exact Loc.ret _ _|exact Loc.none
   | _=>exact Loc.none
  | _=>exact Loc.none
 ·exact Loc.none
theorem mapRes_loc {kt et:Nat} {ks vs:List D} {i:D} {ok:Bool}:Loc S (mapRes C kt et ks vs i ok):=by
 unfold mapRes
 repeat' split
 all_goals first|exact Loc.ret _ _|exact Loc.none
theorem lookup_loc {t:Nat} {x ix:AV} {ok:Bool} (hp:∀ k∈x.keys,S k):Loc S (hLookup C t x ix ok):=by
 unfold hLookup
 split
 ·split
  ·exact mapRes_loc
  ·next j =>
   have hi:=hp j (by simp [AV.keys])
   refine Loc.lkE hi (g:=fun v o=>match v with
    | some (.mp ks vs _)=>mapRes C _ _ ks vs _ ok o
    | _=>none) (fun v=>?_) (fun o v h=>by simp only [h];rcases v with _|(_|_|_|_|_|_|_)<;>rfl)
   split
   ·exact mapRes_loc
   ·exact Loc.none
  ·exact Loc.none
 ·exact Loc.none
theorem makeMap_loc {key:Nat} (hk:S key):Loc S (hMakeMap key):=by
 refine Loc.congr (Loc.lk (g:=fun v o=>match v with
  | none=>some (True,AV.mpr key,upd o key (.mp [] [] false))
  | some _=>none) hk fun v=>?_) (fun o=>rfl)
 split
 ·exact Loc.upd hk _ _ _
 ·exact Loc.none
theorem mapUpdate_loc (hC:C.dp=1) {t:Nat} {x ix y:AV} (hp:∀ k∈x.keys,S k) (hy:∀ k∈y.keys,S k):Loc S (hMapUpdate C t x ix y):=by
 unfold hMapUpdate
 split
 ·next kt et i j _ =>
  have hi:=hp j (by simp [AV.keys])
  refine Loc.bindE (g:=fun c z o'=>(match lk o' j with
   | some (.mp ks vs false)=>some (c∧Dm (C.τ kt).kind i∧D8 (C.τ kt).kind ks,AV.dead,upd o' j (.mp (mSetK i ks) (mSetV i z ks vs) false))
   | _=>none)) (pur1_loc hy) (fun c z=>?_) (fun o h=>by simp only [hC,h]) (fun o c x p h=>by simp only [hC,h];try rfl)
  refine Loc.lkE hi (g:=fun v o'=>match v with
   | some (.mp ks vs false)=>some (c∧Dm (C.τ kt).kind i∧D8 (C.τ kt).kind ks,AV.dead,upd o' j (.mp (mSetK i ks) (mSetV i z ks vs) false))
   | _=>none) (fun v=>?_) (fun o v h=>by simp only [h];try rfl)
  repeat' split
  all_goals first|exact Loc.upd hi _ _ _|exact Loc.none
 ·exact Loc.none
theorem indexAddr_loc {t:Nat} {x ix:AV} (hp:∀ k∈x.keys,S k):Loc S (Dn C t x ix):=by
 unfold Dn
 split
 ·next e i _ =>
  cases x with
  | d y=>exact Loc.ret _ _
  | sl k n =>
   have hi:=hp k (by simp [AV.keys])
   refine Loc.lkE hi (g:=fun v o=>match v with
    | some (.row s els _)=>if s=C.size e then some (n=els.length∧i.isAnyInt∧0≤i.i∧i.i<els.length,.rref k n i.i.toNat 0,o) else none
    | _=>none) (fun v=>?_) (fun o v h=>by simp only [h];rcases v with _|(_|_|_|_|_|_|_)<;>rfl)
   repeat' split
   all_goals first|exact Loc.ret _ _|exact Loc.none
  | sb k n f =>
   have hi:=hp k (by simp [AV.keys])
   refine Loc.lkE hi (g:=fun v o=>match v with
    | some (.row s els _)=>if s=C.size e then some (n=els.length∧i.isAnyInt∧0≤i.i∧(f:Int)+i.i<els.length,.rref k n (f+i.i.toNat) 0,o) else none
    | _=>none) (fun v=>?_) (fun o v h=>by simp only [h];rcases v with _|(_|_|_|_|_|_|_)<;>rfl)
   repeat' split
   all_goals first|exact Loc.ret _ _|exact Loc.none
  | _=>exact Loc.none
 ·next n e k j _ =>
  split
  ·cases x with
   | ref i f0 =>
    have hi:=hp i (by simp [AV.keys])
    refine Loc.lkE hi (g:=fun v o=>match v with
     | some ob=>if ob.isBox=true then some (True,.ref i (f0+j.toNat),o) else none
     | none=>none) (fun v=>?_) (fun o v h=>by simp only [h];cases v<;>rfl)
    repeat' split
    all_goals first|exact Loc.ret _ _|exact Loc.none
   | d y =>
    cases y with
    | ptr s y =>
     simp only
     repeat' split
     all_goals first|exact Loc.ret _ _|exact Loc.none
    | _=>exact Loc.none
   | _=>exact Loc.none
  ·exact Loc.none
 ·exact Loc.none
theorem index_loc {t:Nat} {x ix:AV}:Loc S (hIndex C t x ix):=by
 unfold hIndex
 split
 ·exact Loc.ret _ _
 ·exact Loc.none
theorem slice_loc (hC:C.dp=1) {t:Nat} {x:AV} {lo hi mx:Option AV} (hp:∀ k∈x.keys,S k):Loc S (hSlice C t x lo hi mx):=by
 unfold hSlice
 split
 ·split
  ·split
   all_goals first|exact Loc.ret _ _|exact Loc.none
  ·exact Loc.none
 ·next e _ =>
  refine Loc.bindE (g:=fun c y o'=>match lo,hi with
   | some (.d a),some (.d b)=>some (c∧y.isList (C.size e)∧a.isAnyInt∧b.isAnyInt∧0≤a.i∧a.i≤b.i∧b.i≤y.l.length,.d (.list (C.size e) ((y.l.take b.i.toNat).drop a.i.toNat)),o')
   | some (.d a),none=>some (c∧y.isList (C.size e)∧a.isAnyInt∧0≤a.i∧a.i≤y.l.length,.d (.list (C.size e) (y.l.drop a.i.toNat)),o')
   | none,some (.d b)=>some (c∧y.isList (C.size e)∧b.isAnyInt∧0≤b.i∧b.i≤y.l.length,.d (.list (C.size e) (y.l.take b.i.toNat)),o')
   | _,_=>none) (pur1_loc hp) (fun c y=>?_) (fun o h=>by simp only [hC,h]) (fun o c x p h=>by simp only [hC,h];try rfl)
  split
  all_goals first|exact Loc.ret _ _|exact Loc.none
 ·next e m _ =>
  refine Loc.bindE (g:=fun c y o'=>match lo,hi with
   | some (.d a),some (.d b)=>some (c∧y.isList (C.size e)∧a.isAnyInt∧b.isAnyInt∧m.isAnyInt∧0≤a.i∧a.i≤b.i∧b.i≤m.i∧m.i≤y.l.length,.d (.list (C.size e) ((y.l.take b.i.toNat).drop a.i.toNat)),o')
   | _,_=>none) (pur1_loc hp) (fun c y=>?_) (fun o h=>by simp only [hC,h]) (fun o c x p h=>by simp only [hC,h];try rfl)
  split
  all_goals first|exact Loc.ret _ _|exact Loc.none
 ·exact Loc.none
theorem extract_loc {x:AV} {i:Nat}:Loc S (Ia x i):=by
 unfold Ia
 split
 ·split
  all_goals first|exact Loc.ret _ _|exact Loc.none
 ·split
  all_goals first|exact Loc.ret _ _|exact Loc.none
 ·exact Loc.none
theorem field_loc {t f:Nat} {x:AV}:Loc S (hField C t x f):=by
 unfold hField
 split
 ·split
  ·split
   ·exact Loc.ret _ _
   ·split
    all_goals first|exact Loc.ret _ _|exact Loc.none
   ·exact Loc.none
  ·exact Loc.none
 ·exact Loc.none
theorem purParts_loc (hC:C.dp=1):∀ {ps:List (Nat×AV)} (_:∀ k∈keysAll (ps.map (·.2)),S k),Loc S (Dg C ps)
 | [],_=>Loc.ret _ _
 | (i,x)::r,h=>by
  simp only [List.map_cons,keysAll,List.mem_append] at h
  refine Loc.bindE (g:=fun c y o'=>match Dg C r o' with
   | some (c',l,o'')=>some (c∧c',(i,y)::l,o'')
   | none=>none) (pur1_loc (fun k hk=>h k (.inl hk))) (fun c y=>?_) (fun o e=>by simp only [Dg,hC,e]) (fun o c x p e=>by simp only [Dg,hC,e];try rfl)
  refine Loc.bindE (g:=fun c' l o''=>some (c∧c',(i,y)::l,o'')) (purParts_loc hC (fun k hk=>h k (.inr hk))) (fun c y=>Loc.ret _ _) (fun o e=>by simp only [e]) (fun o c x p e=>by simp only [e];try rfl)
theorem buildSlice_loc (hC:C.dp=1) {t n key:Nat} {ps:List (Nat×AV)} (hp:∀ k∈keysAll (ps.map (·.2)),S k) (hk:S key):Loc S (Dq C t n ps key):=by
 unfold Dq
 split
 ·next e _ =>
  refine Loc.bindE (g:=fun c qs o'=>match lk o' key with
   | none=>if n*C.size e≤16777216∧allLt n ps=true then
     some (c∧allFit (C.size e) (qs.map (·.2)),AV.sl key n,upd o' key (.row (C.size e) (setAll (zerosD (C.τ e).zd n) qs) 0)) else none
   | some _=>none) (purParts_loc hC hp) (fun c y=>?_) (fun o e=>by simp only [e]) (fun o c x p e=>by simp only [e];try rfl)
  refine Loc.lkE hk (g:=fun v o'=>match v with
   | none=>if n*C.size e≤16777216∧allLt n ps=true then
     some (c∧allFit (C.size e) (y.map (·.2)),AV.sl key n,upd o' key (.row (C.size e) (setAll (zerosD (C.τ e).zd n) y) 0)) else none
   | some _=>none) (fun v=>?_) (fun o v h=>by simp only [h];try rfl)
  repeat' split
  all_goals first|exact Loc.upd hk _ _ _|exact Loc.none
 ·exact Loc.none
theorem makeSlice_loc {t key:Nat} {l c:AV} (hk:S key):Loc S (E3 C t l c key):=by
 unfold E3
 split
 ·next e a b _ =>
  refine Loc.lkE hk (g:=fun v o=>match v with
   | none=>some (a.isAnyInt∧b.isAnyInt∧0≤a.i∧a.i=b.i∧(C.τ e).bytes*b.i≤281474976710656∧b.i≤4294967296,
     AV.sl key a.i.toNat,upd o key (.row (C.size e) (List.replicate a.i.toNat (C.τ e).zd) 0))
   | some _=>none) (fun v=>?_) (fun o v h=>by simp only [h];cases v<;>rfl)
  repeat' split
  all_goals first|exact Loc.upd hk _ _ _|exact Loc.none
 ·exact Loc.none
theorem source_loc {s:Nat} {x:AV} (hx:∀ k∈x.keys,S k) {o o':Gb} (h:∀ k,S k→lk o k=lk o' k):De s x o=De s x o':=by
 cases x with
 | sl i n=>simp only [De,h i (hx i (by simp [AV.keys]))]
 | _=>rfl
theorem append_loc {t key:Nat} {s x:AV} (hs:∀ k∈s.keys,S k) (hx:∀ k∈x.keys,S k) (hk:S key):Loc S (hAppend C t s x key):=by
 intro o o' c z p ho he
 have hsrc:∀ s',De s' x o'=De s' x o:=fun s'=>(source_loc hx ho).symm
 unfold hAppend at he ⊢
 simp only [hsrc]
 revert he
 split
 ·next e _ =>
  split
  ·next c1 xs _ =>
   cases s with
   | nils s =>
    have h2:Loc S (fun o=>match lk o key with
     | none=>some (c1∧xs.length*(C.τ e).bytes≤140737488355328∧xs.length≤4611686018427387904,AV.sl key xs.length,upd o key (.row (C.size e) xs 0))
     | some _=>none):=by
     refine Loc.lkE hk (g:=fun v o=>match v with
      | none=>some (c1∧xs.length*(C.τ e).bytes≤140737488355328∧xs.length≤4611686018427387904,AV.sl key xs.length,upd o key (.row (C.size e) xs 0))
      | some _=>none) (fun v=>?_) (fun o v h=>by simp only [h];try rfl)
     repeat' split
     all_goals first|exact Loc.upd hk _ _ _|exact Loc.none
    exact h2 o o' c z p ho
   | sl i n =>
    have hi:=hs i (by simp [AV.keys])
    have h2:Loc S (fun o=>match lk o i with
     | some (.row s' els k)=>if s'=C.size e then
       some (c1∧n=els.length∧(els.length+xs.length)*(C.τ e).bytes≤140737488355328∧els.length+xs.length≤4611686018427387904,AV.sl i (els++xs).length,upd o i (.row s' (els++xs) k)) else none
     | _=>none):=by
     refine Loc.lkE hi (g:=fun v o=>match v with
      | some (.row s' els k)=>if s'=C.size e then
       some (c1∧n=els.length∧(els.length+xs.length)*(C.τ e).bytes≤140737488355328∧els.length+xs.length≤4611686018427387904,AV.sl i (els++xs).length,upd o i (.row s' (els++xs) k)) else none
      | _=>none) (fun v=>?_) (fun o v h=>by simp only [h];try rfl)
     repeat' split
     all_goals first|exact Loc.upd hi _ _ _|exact Loc.none
    exact h2 o o' c z p ho
   | _=>intro he;cases he
  ·intro he;cases he
 ·intro he;cases he
theorem Loc.eqf {α:Type} {f g:Gb→Option (Prop×α×Gb)} (h:∀ o,f o=g o) (hg:Loc S g):Loc S f:=by
 rw [show f=g from funext h]
 exact hg
theorem src_loc {α:Type} {x:AV} (hx:∀ k∈x.keys,S k) {n:Nat} {f:Prop×List D→Option (Prop×α)}:Loc S (fun o=>match De n x o with
  | some y=>(f y).map fun z=>(z.1,z.2,o)
  | none=>none):=by
 have hret:∀ y:Prop×List D,Loc S fun o=>(f y).map fun z=>(z.1,z.2,o):=fun y=>by
  cases f y with
  | none=>exact Loc.none
  | some z=>exact Loc.ret _ _
 unfold De
 split
 ·exact hret _
 ·exact hret _
 ·next i n' =>
  have hi:=hx i (by simp [AV.keys])
  refine Loc.lkE hi (g:=fun v o=>match (match v with
   | some (.row s' els _)=>if s'=n then some (n'=els.length,els) else none
   | _=>none:Option (Prop×List D)) with
   | some y=>(f y).map fun z=>(z.1,z.2,o)
   | none=>none) (fun v=>?_) (fun o v h=>by simp only [h];rcases v with _|(_|_|_|_|_|_|_)<;>rfl)
  rcases v with _|(_|_|_|_|_)
  all_goals first|exact Loc.none|skip
  all_goals
   simp only
   split
   ·next h=>split at h<;>first|(cases h;exact hret _)|cases h
   ·exact Loc.none
 ·exact Loc.none
theorem convO_loc {s t:Nat} {x:AV} (hx:∀ k∈x.keys,S k):Loc S (hConvO C s t x):=by
 unfold hConvO
 split
 ·next e _ _ =>
  by_cases hk:(C.τ e).kind=.int .u8
  ·have:=src_loc (S:=S) (α:=AV) hx (n:=1) (f:=fun y=>some (y.1∧u8s y.2,AV.d (.str (u8b y.2))))
   simp only [Option.map_some] at this
   rw [hk]
   exact Loc.eqf (fun o=>by cases De 1 x o<;>rfl) this
  ·refine Loc.eqf (g:=fun _=>none) (fun o=>?_) Loc.none
   split
   ·next h _=>exact absurd h hk
   ·rfl
 ·unfold Lz
  split<;>first|exact Loc.ret _ _|exact Loc.none
theorem len_loc {t:Nat} {x:AV} (hx:∀ k∈x.keys,S k):Loc S (hLen C t x):=by
 unfold hLen
 split
 ·exact Loc.ret _ _
 ·exact Loc.ret _ _
 ·exact Loc.ret _ _
 ·next i n _ =>
  have hi:=hx i (by simp [AV.keys])
  refine Loc.lkE hi (g:=fun v o=>match v with
   | some (.row _ els _)=>some (n=els.length,AV.d (.int .i64 els.length),o)
   | _=>none) (fun v=>?_) (fun o v h=>by simp only [h];rcases v with _|(_|_|_|_|_|_|_)<;>rfl)
  repeat' split
  all_goals first|exact Loc.ret _ _|exact Loc.none
 ·next i n f _ =>
  have hi:=hx i (by simp [AV.keys])
  refine Loc.lkE hi (g:=fun v o=>match v with
   | some (.row _ els _)=>some (n=els.length,AV.d (.int .i64 (els.length-f:Nat)),o)
   | _=>none) (fun v=>?_) (fun o v h=>by simp only [h];rcases v with _|(_|_|_|_|_|_|_)<;>rfl)
  repeat' split
  all_goals first|exact Loc.ret _ _|exact Loc.none
 ·exact Loc.none
theorem inArgs_loc (hC:C.dp=1):∀ {xs:List AV} {ms:List Bool} (_:∀ k∈keysAll xs,S k),Loc S (Sk C ms xs)
 | [],ms,_=>by cases ms<;>exact Loc.ret _ _
 | x::r,[],_=>Loc.none
 | x::r,false::ms,h=>by
  simp only [keysAll,List.mem_append] at h
  refine Loc.bindE (g:=fun c y o'=>match Sk C ms r o' with
   | some (c',l,o'')=>some (c∧c',CV.d y::l,o'')
   | none=>none) (pur1_loc (fun k hk=>h k (.inl hk))) (fun c y=>?_) (fun o e=>by simp only [Sk,hC,e]) (fun o c x p e=>by simp only [Sk,hC,e];try rfl)
  refine Loc.bindE (g:=fun c' l o''=>some (c∧c',CV.d y::l,o'')) (inArgs_loc hC (xs:=r) (ms:=ms) (fun k hk=>h k (.inr hk))) (fun c y=>Loc.ret _ _) (fun o e=>by simp only [e]) (fun o c x p e=>by simp only [e];try rfl)
 | x::r,true::ms,h=>by
  simp only [keysAll,List.mem_append] at h
  have ih:=inArgs_loc hC (ms:=ms) (fun k hk=>h k (.inr hk))
  cases x with
  | sl i n =>
   have hi:=h i (.inl (by simp [AV.keys]))
   refine Loc.lkE hi (g:=fun v o=>match v with
    | some (.row s els k)=>(match Sk C ms r (upd o i .gone) with
     | some (c,l,o')=>some (c∧n=els.length∧k=0∧0<s,CV.own s els::l,o')
     | none=>none)
    | _=>none) (fun v=>?_) (fun o v h=>by simp only [Sk,h];try rfl)
   split
   ·next s els k =>
    refine Loc.bindE (f:=fun o=>some (True,(),upd o i .gone)) (g:=fun _ _ o=>match Sk C ms r o with
     | some (c,l,o')=>some (c∧n=els.length∧k=0∧0<s,CV.own s els::l,o')
     | none=>none) (Loc.upd hi _ _ _) (fun _ _=>?_) (fun o e=>by cases e) (fun o c x p e=>by
      simp only [aZ,aJ] at e
      obtain ⟨_,_,rfl⟩:=e
      rfl)
    refine Loc.bindE (g:=fun c l o'=>some (c∧n=els.length∧k=0∧0<s,CV.own s els::l,o')) ih (fun c y=>Loc.ret _ _) (fun o e=>by simp only [e]) (fun o c x p e=>by simp only [e];try rfl)
   ·exact Loc.none
  | nils s =>
   refine Loc.bindE (g:=fun c l o'=>some (c,CV.own s []::l,o')) ih (fun c y=>Loc.ret _ _) (fun o e=>by simp only [Sk,e]) (fun o c x p e=>by simp only [Sk,e];try rfl)
  | _=>exact Loc.none
theorem outAll_loc:∀ {l:List CV} {key:Nat} (_:∀ j,S (key+4096*j)),Loc S (fun o=>match E1 key l o with
  | some (ys,o')=>some (True,ys,o')
  | none=>none)
 | [],key,_=>Loc.congr (Loc.ret True []) (fun o=>rfl)
 | x::r,key,hk=>by
  have hk0:S key:=hk 0
  have ih:=outAll_loc (l:=r) (key:=key+4096) (fun j=>by have:=hk (j+1);rwa [Nat.mul_add,Nat.mul_one,Nat.add_comm (4096*j),←Nat.add_assoc] at this)
  cases x with
  | tup l=>exact Loc.congr Loc.none (fun o=>by simp only [E1,R9])
  | d y =>
   refine Loc.bindE (g:=fun _ ys o'=>some (True,AV.d y::ys,o')) ih (fun c y=>Loc.ret _ _) (fun o h=>?_) (fun o c x p h=>?_)
   ·simp only [E1,R9]
    split at h
    ·cases h
    ·next h2=>simp only [h2]
   ·simp only [E1,R9]
    split at h
    ·next h2 =>
     simp only [aZ,aJ] at h
     obtain ⟨_,rfl,rfl⟩:=h
     simp only [h2]
    ·cases h
  | own s l =>
   refine Loc.lkE hk0 (g:=fun v o=>match v with
    | none=>(match E1 (key+4096) r (upd o key (.row s l 0)) with
     | some (ys,o')=>some (True,AV.sl key l.length::ys,o')
     | none=>none)
    | some _=>none) (fun v=>?_) (fun o v h=>?_)
   ·split
    ·refine Loc.bindE (f:=fun o=>some (True,(),upd o key (.row s l 0))) (g:=fun _ _ o=>match E1 (key+4096) r o with
      | some (ys,o')=>some (True,AV.sl key l.length::ys,o')
      | none=>none) (Loc.upd hk0 _ _ _) (fun _ _=>?_) (fun o e=>by cases e) (fun o c x p e=>by
       simp only [aZ,aJ] at e
       obtain ⟨_,_,rfl⟩:=e
       rfl)
     refine Loc.bindE (g:=fun _ ys o'=>some (True,AV.sl key l.length::ys,o')) ih (fun c y=>Loc.ret _ _) (fun o h=>?_) (fun o c x p h=>?_)
     ·split at h
      ·cases h
      ·next h2=>simp only [h2]
     ·split at h
      ·next h2 =>
       simp only [aZ,aJ] at h
       obtain ⟨_,rfl,rfl⟩:=h
       simp only [h2]
      ·cases h
    ·exact Loc.none
   ·simp only [E1,R9,h]
    cases v with
    | some _=>rfl
    | none =>
     simp only
     cases E1 (key+4096) r (upd o key (.row s l 0)) with
     | none=>rfl
     | some q=>rfl
theorem outCV_loc {x:CV} {key:Nat} (hk:∀ j,S (key+4096*j)):Loc S (fun o=>match outCV key x o with
  | some (y,o')=>some (True,y,o')
  | none=>none):=by
 cases x with
 | tup l =>
  refine Loc.bindE (g:=fun _ ys o'=>some (True,mkTup ys,o')) (outAll_loc (l:=l) hk) (fun c y=>Loc.ret _ _) (fun o h=>?_) (fun o c x p h=>?_)
  ·simp only [outCV]
   split at h
   ·cases h
   ·next h2=>simp only [h2]
  ·simp only [outCV]
   split at h
   ·next h2 =>
    simp only [aZ,aJ] at h
    obtain ⟨_,rfl,rfl⟩:=h
    simp only [h2]
   ·cases h
 | d y=>exact Loc.congr (Loc.ret True (AV.d y)) (fun o=>rfl)
 | own s l =>
  refine Loc.lkE (hk 0) (g:=fun v o=>match v with
   | none=>some (True,AV.sl key l.length,upd o key (.row s l 0))
   | some _=>none) (fun v=>?_) (fun o v h=>?_)
  ·split
   ·exact Loc.upd (hk 0) _ _ _
   ·exact Loc.none
  ·have h':lk o key=v:=by simpa using h
   simp only [outCV,R9,h']
   cases v<;>rfl
theorem call_loc (hC:C.dp=1) {f key:Nat} {args:List AV} (ha:∀ k∈keysAll args,S k) (hk:∀ j,S (key+4096*j)):Loc S (hCall C f args key):=by
 unfold hCall
 split
 ·next con _ =>
  refine Loc.bindE (g:=fun c cvs o'=>match outCV key (con.fn cvs) o' with
   | some (y,o'')=>some (c∧con.pre cvs,y,o'')
   | none=>none) (inArgs_loc hC (ms:=con.modes) ha) (fun c cvs=>?_) (fun o h=>by simp only [h]) (fun o c x p h=>by simp only [h];try rfl)
  refine Loc.bindE (g:=fun _ y o'=>some (c∧con.pre cvs,y,o')) (outCV_loc (x:=con.fn cvs) hk) (fun c y=>Loc.ret _ _) (fun o h=>?_) (fun o c x p h=>?_)
  ·split at h
   ·cases h
   ·next h2=>simp only [h2]
  ·split at h
   ·next h2 =>
    simp only [aZ,aJ] at h
    obtain ⟨_,rfl,rfl⟩:=h
    simp only [h2]
   ·cases h
 ·exact Loc.none
theorem keysAll_append:∀ {a b:List AV},keysAll (a++b)=keysAll a++keysAll b
 | [],b=>rfl
 | x::a,b=>by simp [keysAll,keysAll_append (a:=a),List.append_assoc]
theorem keysAll_d:∀ (l:List D),keysAll (l.map .d)=[]
 | []=>rfl
 | x::l=>by simp [keysAll,AV.keys,keysAll_d l]
theorem callV_loc (hC:C.dp=1) {f:AV} {key:Nat} {args:List AV} (hf:∀ k∈f.keys,S k) (ha:∀ k∈keysAll args,S k) (hk:∀ j,S (key+4096*j)):Loc S (hCallV C f args key):=by
 cases f with
 | d x =>
  cases x with
  | clo g caps =>
   refine call_loc hC (fun k h=>?_) hk
   rw [keysAll_append,keysAll_d,List.append_nil] at h
   exact ha k h
  | _=>exact Loc.none
 | clo g caps =>
  refine call_loc hC (fun k h=>?_) hk
  rw [keysAll_append,List.mem_append] at h
  rcases h with h|h
  ·exact ha k h
  ·exact hf k (by simpa [AV.keys] using h)
 | _=>exact Loc.none
def C4 (l:List Nat) (k:Nat):Prop:=k % 4096∈l
theorem ev_keys {st:AS} (hint:Nat) (x:Operand):(st.ev C hint x).keys=(st.ev C 0 x).keys:=by
 cases x with
 | const v =>
  simp only [AS.ev]
  unfold constAV
  split
  ·rfl
  ·rfl
 | _=>rfl
theorem mem_keysAll {k:Nat}:∀ {l:List AV},k∈keysAll l↔∃ x∈l,k∈x.keys
 | []=>by simp [keysAll]
 | x::l=>by simp [keysAll,mem_keysAll (l:=l)]
theorem evs_keys {st:AS}:∀ (xs:List Operand) (ts:List Nat),keysAll (evs C st xs ts)=keysAll (xs.map (st.ev C 0))
 | [],ts=>by cases ts<;>rfl
 | x::xs,[]=>by simp [evs,keysAll,evs_keys xs []]
 | x::xs,t::ts=>by simp [evs,keysAll,evs_keys xs ts,ev_keys t x]
theorem evParts_keys {st:AS} (h:Nat):∀ (ps:List (Nat×Operand)),keysAll ((L1 C st h ps).map (·.2))=keysAll ((ps.map (·.2)).map (st.ev C 0))
 | []=>rfl
 | (i,x)::ps=>by simp [L1,keysAll,evParts_keys h ps,ev_keys h x]
theorem opStep_loc (hC:C.dp=1) (o:Oper) (st:AS):Loc (C4 (Iz C o st)) (fun os=>Dh C o ⟨st.tmps,os⟩):=by
 have hev:∀ (hint:Nat) (x:Operand),x∈Bk o.op→∀ k∈(AS.ev C st hint x).keys,C4 (Iz C o st) k:=by
  intro hint x hx k hk
  unfold C4 Iz
  rw [List.mem_map]
  refine ⟨k,List.mem_append_left _ (mem_keysAll.2 ⟨_,List.mem_map.2 ⟨x,hx,rfl⟩,?_⟩),rfl⟩
  rwa [ev_keys] at hk
 have hown:∀ k,o.dst=some k→makes o.op=true→∀ j,C4 (Iz C o st) (k+4096*j):=by
  intro k hk hm j
  unfold C4 Iz
  rw [List.mem_map]
  refine ⟨k,List.mem_append_right _ (by simp [hk,ownKey,hm]),by omega⟩
 have hown0:∀ k,o.dst=some k→makes o.op=true→C4 (Iz C o st) k:=fun k hk hm=>by simpa using hown k hk hm 0
 have E:∀ (os:Gb) (hint:Nat) (x:Operand),AS.ev C ⟨st.tmps,os⟩ hint x=AS.ev C st hint x:=fun os hint x=>by cases x<;>rfl
 have ES:∀ (os:Gb) (xs:List Operand) (ts:List Nat),evs C ⟨st.tmps,os⟩ xs ts=evs C st xs ts:=by
  intro os xs
  induction xs with
  | nil=>intro ts;cases ts<;>rfl
  | cons x xs ih=>intro ts;cases ts<;>simp [evs,ih,E]
 have EP:∀ (os:Gb) (h:Nat) (ps:List (Nat×Operand)),L1 C ⟨st.tmps,os⟩ h ps=L1 C st h ps:=by
  intro os h ps
  induction ps with
  | nil=>rfl
  | cons p ps ih=>obtain ⟨i,x⟩:=p;simp [L1,ih,E]
 have EO:∀ (os:Gb) (t:Nat) (x:Option Operand),evO C ⟨st.tmps,os⟩ t x=evO C st t x:=by
  intro os t x;cases x<;>simp [evO,E]
 unfold Dh
 simp only [E,ES,EP,EO]
 have args:∀ (xs:List Operand) (ts:List Nat),(∀ x∈xs,x∈Bk o.op)→∀ k∈keysAll (evs C st xs ts),C4 (Iz C o st) k:=by
  intro xs ts hx k hk
  rw [evs_keys,mem_keysAll] at hk
  obtain ⟨a,ha,hka⟩:=hk
  obtain ⟨x,hx1,rfl⟩:=List.mem_map.1 ha
  exact hev 0 x (hx x hx1) k hka
 have Rw:∀ (h:Nat) (ps:List (Nat×Operand)),(∀ x∈ps.map (·.2),x∈Bk o.op)→∀ k∈keysAll ((L1 C st h ps).map (·.2)),C4 (Iz C o st) k:=by
  intro h ps hx k hk
  rw [evParts_keys,mem_keysAll] at hk
  obtain ⟨a,ha,hka⟩:=hk
  obtain ⟨x,hx1,rfl⟩:=List.mem_map.1 ha
  exact hev 0 x (hx x hx1) k hka
 split
 case h_1=>exact Loc.ret _ _
 case h_2=>exact Loc.ret _ _
 case h_3=>split<;>first|exact Loc.ret _ _|exact Loc.none
 case h_4 e hop =>
  split
  ·next k hk=>exact alloc_loc (hown0 k hk (by simp [hop,makes]))
  ·exact Loc.none
 case h_5 e x hop =>
  split
  ·next k hk=>exact alloc_loc (hown0 k hk (by simp [hop,makes]))
  ·exact Loc.none
 case h_6 t ps hop =>
  unfold hBuild
  split
  ·next fs _ =>
   have:∀ (r:List (Nat×AV)) (cells:List AV) (c:Prop),Loc (C4 (Iz C o st)) (fun os=>C1 os fs cells r c):=by
    intro r
    induction r with
    | nil=>intro cells c;exact Loc.ret _ _
    | cons p r ih =>
     intro cells c
     obtain ⟨i,x⟩:=p
     simp only [C1]
     split
     ·split
      ·exact ih _ _
      ·exact Loc.none
     ·exact Loc.none
   exact this _ _ _
  ·exact Loc.none
 case h_7 t n ps hop =>
  split
  ·next k hk=>exact buildSlice_loc hC (Rw _ _ (fun x hx=>by simpa [hop,Bk,Ht] using hx)) (hown0 k hk (by simp [hop,makes]))
  ·exact Loc.none
 case h_8 t p hop=>exact load_loc (hev 0 p (by simp [hop,Bk,Ht]))
 case h_9 t p x hop=>exact store_loc hC (hev 0 p (by simp [hop,Bk,Ht])) (hev t x (by simp [hop,Bk,Ht]))
 case h_10 =>
  unfold Lz
  split<;>first|exact Loc.ret _ _|exact Loc.none
 case h_11 =>
  unfold Lz
  split<;>first|exact Loc.ret _ _|exact Loc.none
 case h_12 s1 t x hop=>exact convO_loc (hev s1 x (by simp [hop,Bk,Ht]))
 case h_13=>split<;>first|exact Loc.ret _ _|exact Loc.none
 case h_14 t l c hop =>
  split
  ·next k hk=>exact makeSlice_loc (hown0 k hk (by simp [hop,makes]))
  ·exact Loc.none
 case h_15 t x lo hi mx hop=>exact slice_loc hC (hev t x (by simp [hop,Bk,Ht]))
 case h_16 t hop =>
  split
  ·next k hk=>exact makeMap_loc (hown0 k hk (by simp [hop,makes]))
  ·exact Loc.none
 case h_17 t x i ok hop=>exact lookup_loc (hev 0 x (by simp [hop,Bk,Ht]))
 case h_18 t x i y hop=>exact mapUpdate_loc hC (hev 0 x (by simp [hop,Bk,Ht])) (hev _ y (by simp [hop,Bk,Ht]))
 case h_19 t p f hop=>exact fieldAddr_loc (hev 0 p (by simp [hop,Bk,Ht]))
 case h_20 t x f hop=>exact field_loc
 case h_21 t x i hop=>exact indexAddr_loc (hev t x (by simp [hop,Bk,Ht]))
 case h_22 t x i hop=>exact index_loc
 case h_23 x i hop=>exact extract_loc
 case h_24 cl hop =>
  split
  case h_1 hcal =>
   split
   ·next x t hx ht=>exact len_loc (hev t x (by simp [hop,Bk,Ht,hcal,hx]))
   ·exact Loc.none
  case h_2 hcal =>
   split
   ·next s x t t' k hx ht hk =>
    split
    ·exact append_loc (hev t s (by simp [hop,Bk,Ht,hcal,hx])) (hev t' x (by simp [hop,Bk,Ht,hcal,hx])) (hown0 k hk (by simp [hop,makes,hcal]))
    ·exact Loc.none
   ·exact Loc.none
  case h_3 =>
   split
   ·unfold Lz
    split<;>first|exact Loc.ret _ _|exact Loc.none
   ·exact Loc.none
  case h_4 =>
   split
   ·unfold Lz
    split<;>first|exact Loc.ret _ _|exact Loc.none
   ·exact Loc.none
  case h_5 f hcal =>
   split
   ·next k hk=>exact call_loc hC (args _ _ (fun x hx=>by simp only [hop,Bk,Ht,hcal];exact List.mem_cons_of_mem _ hx)) (hown k hk (by simp [hop,makes,hcal]))
   ·exact Loc.none
  case h_6 f hcal =>
   split
   ·next k hk=>exact callV_loc hC (hev 0 (.tmp f) (by simp [hop,Bk,Ht,hcal])) (args _ _ (fun x hx=>by simp only [hop,Bk,Ht,hcal];exact List.mem_cons_of_mem _ hx)) (hown k hk (by simp [hop,makes,hcal]))
   ·exact Loc.none
  case h_7=>exact Loc.none
 case h_25=>exact Loc.none
theorem mapRes_os {kt et:Nat} {ks vs:List D} {i:D} {ok:Bool} {os p:Gb} {c:Prop} {x:AV} (h:mapRes C kt et ks vs i ok os=some (c,x,p)):p=os:=by
 unfold mapRes at h
 split at h
 ·cases ok<;>simp only [aZ,aJ] at h<;>exact h.2.2.symm
 ·cases h
theorem opStep_ro {o:Oper} {st:AS} {c:Prop} {x:AV} {p:Gb} (hr:roOf o.op=true) (h:Dh C o st=some (c,x,p)):p=st.objs:=by
 unfold Dh at h
 split at h
 case h_1=>simp only [aZ,aJ] at h;exact h.2.2.symm
 case h_2=>simp only [aZ,aJ] at h;exact h.2.2.symm
 case h_3=>split at h<;>simp_all
 case h_4 hop=>simp [hop,roOf] at hr
 case h_5 hop=>simp [hop,roOf] at hr
 case h_6 t ps hop =>
  unfold hBuild at h
  split at h
  ·next fs _ =>
   have:∀ (r:List (Nat×AV)) (cells:List AV) (c0:Prop),C1 st.objs fs cells r c0=some (c,x,p)→p=st.objs:=by
    intro r
    induction r with
    | nil =>
     intro cells c0 h
     simp only [C1,aZ,aJ] at h
     exact h.2.2.symm
    | cons q r ih =>
     intro cells c0 h
     obtain ⟨i,y⟩:=q
     simp only [C1] at h
     split at h
     ·split at h
      ·exact ih _ _ h
      ·cases h
     ·cases h
   exact this _ _ _ h
  ·cases h
 case h_7 hop=>simp [hop,roOf] at hr
 case h_8 t q hop =>
  unfold hLoad E4 at h
  repeat' split at h
  all_goals first|(simp only [aZ,aJ] at h;exact h.2.2.symm)|cases h
 case h_9 hop=>simp [hop,roOf] at hr
 case h_10 =>
  unfold Lz at h
  split at h
  all_goals first|(simp only [aZ,aJ] at h;exact h.2.2.symm)|cases h
 case h_11 =>
  unfold Lz at h
  split at h
  all_goals first|(simp only [aZ,aJ] at h;exact h.2.2.symm)|cases h
 case h_12 =>
  unfold hConvO at h
  split at h
  ·split at h
   ·simp only [aZ,aJ] at h;exact h.2.2.symm
   ·cases h
  ·unfold Lz at h
   split at h
   all_goals first|(simp only [aZ,aJ] at h;exact h.2.2.symm)|cases h
 case h_13 =>
  split at h
  all_goals first|(simp only [aZ,aJ] at h;exact h.2.2.symm)|cases h
 case h_14 hop=>simp [hop,roOf] at hr
 case h_15 hop=>simp [hop,roOf] at hr
 case h_16 hop=>simp [hop,roOf] at hr
 case h_17 =>
  unfold hLookup at h
  split at h
  ·split at h
   ·exact mapRes_os h
   ·split at h
    ·exact mapRes_os h
    ·cases h
   ·cases h
  ·cases h
 case h_18 hop=>simp [hop,roOf] at hr
 case h_19 =>
  unfold Dp at h
  repeat' split at h
  all_goals first|(simp only [aZ,aJ] at h;exact h.2.2.symm)|cases h
 case h_20 =>
  unfold hField at h
  repeat' split at h
  all_goals first|(simp only [aZ,aJ] at h;exact h.2.2.symm)|cases h
 case h_21 =>
  unfold Dn at h
  repeat' split at h
  all_goals first|(simp only [aZ,aJ] at h;exact h.2.2.symm)|cases h
 case h_22 =>
  unfold hIndex at h
  repeat' split at h
  all_goals first|(simp only [aZ,aJ] at h;exact h.2.2.symm)|cases h
 case h_23 =>
  unfold Ia at h
  repeat' split at h
  all_goals first|(simp only [aZ,aJ] at h;exact h.2.2.symm)|cases h
 case h_24 cl hop =>
  split at h
  case h_1 =>
   split at h
   ·unfold hLen at h
    repeat' split at h
    all_goals first|(simp only [aZ,aJ] at h;exact h.2.2.symm)|cases h
   ·cases h
  case h_2 hcal=>simp [hop,roOf,hcal] at hr
  case h_3 hcal=>simp [hop,roOf,hcal] at hr
  case h_4 hcal=>simp [hop,roOf,hcal] at hr
  case h_5 hcal=>simp [hop,roOf,hcal] at hr
  case h_6 hcal=>simp [hop,roOf,hcal] at hr
  case h_7=>cases h
 case h_25=>cases h
theorem opStep_congr {o:Oper} {s s':AS} (ho:s.objs=s'.objs) (h:∀ x∈Ht o.op,∀ hint,s.ev C hint x=s'.ev C hint x):Dh C o s=Dh C o s':=by
 have args:∀ (xs:List Operand) (ts:List Nat),(∀ x∈xs,x∈Ht o.op)→evs C s xs ts=evs C s' xs ts:=by
  intro xs
  induction xs with
  | nil=>intro ts _;cases ts<;>rfl
  | cons x xs ih =>
   intro ts hx
   have h1:=fun hint=>h x (hx x (by simp)) hint
   cases ts<;>simp [evs,h1,ih _ (fun y hy=>hx y (List.mem_cons_of_mem _ hy))]
 have Rw:∀ (hint:Nat) (ps:List (Nat×Operand)),(∀ x∈ps.map (·.2),x∈Ht o.op)→L1 C s hint ps=L1 C s' hint ps:=by
  intro hint ps
  induction ps with
  | nil=>intro _;rfl
  | cons q ps ih =>
   intro hx
   obtain ⟨i,x⟩:=q
   have h1:=h x (hx x (by simp)) hint
   simp [L1,h1,ih (fun y hy=>hx y (by simp only [List.map_cons];exact List.mem_cons_of_mem _ hy))]
 have opt:∀ (t:Nat) (x:Option Operand),(∀ y∈x.toList,y∈Ht o.op)→evO C s t x=evO C s' t x:=by
  intro t x hx
  cases x with
  | none=>rfl
  | some x=>simp [evO,h x (hx x (by simp))]
 unfold Dh
 rw [ho]
 split
 case h_1 x hop=>rw [h x (by simp [hop,Ht])]
 case h_2 x hop=>rw [h x (by simp [hop,Ht])]
 case h_3 c a b hop=>rw [h c (by simp [hop,Ht]),h a (by simp [hop,Ht]),h b (by simp [hop,Ht])]
 case h_4=>rfl
 case h_5 e x hop=>rw [h x (by simp [hop,Ht])]
 case h_6 t ps hop=>rw [Rw _ _ (fun x hx=>by simpa [hop,Ht] using hx)]
 case h_7 t n ps hop=>rw [Rw _ _ (fun x hx=>by simpa [hop,Ht] using hx)]
 case h_8 t p hop=>rw [h p (by simp [hop,Ht])]
 case h_9 t p x hop=>rw [h p (by simp [hop,Ht]),h x (by simp [hop,Ht])]
 case h_10 op t x y ty hop=>rw [h x (by simp [hop,Ht]),h y (by simp [hop,Ht])]
 case h_11 op t x hop=>rw [h x (by simp [hop,Ht])]
 case h_12 s1 t x hop=>rw [h x (by simp [hop,Ht])]
 case h_13 f first caps hop=>rw [args _ _ (fun x hx=>by simpa [hop,Ht] using hx)]
 case h_14 t l c hop=>rw [h l (by simp [hop,Ht]),h c (by simp [hop,Ht])]
 case h_15 t x lo hi mx hop =>
  rw [h x (by simp [hop,Ht]),opt 0 lo (fun y hy=>by simp only [hop,Ht];simp only [bQ,List.mem_append];exact .inr (.inl (.inl hy))),
   opt 0 hi (fun y hy=>by simp only [hop,Ht];simp only [bQ,List.mem_append];exact .inr (.inl (.inr hy))),
   opt 0 mx (fun y hy=>by simp only [hop,Ht];simp only [bQ,List.mem_append];exact .inr (.inr hy))]
 case h_16=>rfl
 case h_17 t x i ok hop=>rw [h x (by simp [hop,Ht]),h i (by simp [hop,Ht])]
 case h_18 t x i y hop=>rw [h x (by simp [hop,Ht]),h i (by simp [hop,Ht]),h y (by simp [hop,Ht])]
 case h_19 t p f hop=>rw [h p (by simp [hop,Ht])]
 case h_20 t x f hop=>rw [h x (by simp [hop,Ht])]
 case h_21 t x i hop=>rw [h x (by simp [hop,Ht]),h i (by simp [hop,Ht])]
 case h_22 t x i hop=>rw [h x (by simp [hop,Ht]),h i (by simp [hop,Ht])]
 case h_23 x i hop=>rw [h x (by simp [hop,Ht])]
 case h_24 cl hop =>
  split
  case h_1 hcal =>
   split
   ·next x t hx ht=>rw [h x (by simp [hop,Ht,hcal,hx])]
   ·rfl
  case h_2 hcal =>
   split
   ·next a x t t' k hx ht hk=>rw [h a (by simp [hop,Ht,hcal,hx]),h x (by simp [hop,Ht,hcal,hx])]
   ·rfl
  case h_3 hcal =>
   split
   ·next x y t ts hx ht=>rw [h x (by simp [hop,Ht,hcal,hx]),h y (by simp [hop,Ht,hcal,hx])]
   ·rfl
  case h_4 hcal =>
   split
   ·next x y t ts hx ht=>rw [h x (by simp [hop,Ht,hcal,hx]),h y (by simp [hop,Ht,hcal,hx])]
   ·rfl
  case h_5 f hcal=>rw [args _ _ (fun x hx=>by simp only [hop,Ht,hcal];exact List.mem_cons_of_mem _ hx)]
  case h_6 f hcal=>rw [args _ _ (fun x hx=>by simp only [hop,Ht,hcal];exact List.mem_cons_of_mem _ hx),h (.tmp f) (by simp [hop,Ht,hcal])]
  case h_7=>rfl
 case h_25=>rfl
def AS.same (s s':AS):Prop:=s.tmps=s'.tmps∧∀ k,lk s.objs k=lk s'.objs k
theorem AS.same.refl (s:AS):s.same s:=⟨rfl,fun _=>rfl⟩
theorem AS.same.trans {a b c:AS} (h:a.same b) (k:b.same c):a.same c:=⟨h.1.trans k.1,fun i=>(h.2 i).trans (k.2 i)⟩
theorem AS.same.symm {a b:AS} (h:a.same b):b.same a:=⟨h.1.symm,fun i=>(h.2 i).symm⟩
theorem SRg.same {base:Nat} {pass:Nat→Prop} {F0:Anc} {m:Nat→Nat} {G:Gh} {s s':AS} {a:Act} {w:World} (h:SRg base pass F0 m G s a w) (e:s.same s'):SRg base pass F0 m G s' a w:=by
 have el:lk s.objs=lk s'.objs:=funext e.2
 obtain ⟨a1,a2,a3,a4,a5,a6,a7,a8,a9,a10⟩:=h
 constructor
 ·exact a1
 ·rw [←e.1,←el];exact a2
 ·rw [←el];exact a3
 ·rw [←el];exact a4
 ·rw [←el];exact a5
 ·exact a6
 ·exact a7
 ·exact a8
 ·exact a9
 ·rw [←el];exact a10
theorem SR.same {base:Nat} {pass:Nat→Prop} {F0:Anc} {s s':AS} {a:Act} {w:World} (h:SR base pass F0 s a w) (e:s.same s'):SR base pass F0 s' a w:=by
 obtain ⟨m,G,h⟩:=h
 exact ⟨m,G,h.same e⟩
def BStep (C:Ctx) (o:Oper) (s:AS) (bc:BCon) (x:bc.X) (rs:List Nat):Prop :=
 bOf C o s=some (bc,rnAs rs (bc.args x))∧bc.ok x∧rs.Nodup∧rs.length=(bc.post x).length∧(bc.objs x).length≤rs.length∧Cl rs rs (bc.objs x) s.objs∧freeAt (rs.drop (bc.objs x).length) s.objs
theorem evs_congr {s s':AS}:∀ (xs:List Operand) (ts:List Nat),(∀ x∈xs,∀ hint,s.ev C hint x=s'.ev C hint x)→evs C s xs ts=evs C s' xs ts
 | [],_,_=>rfl
 | x::r,[],h=>by simp only [evs];rw [h x (by simp),evs_congr r [] (fun y hy=>h y (List.mem_cons_of_mem _ hy))]
 | x::r,t::ts,h=>by simp only [evs];rw [h x (by simp),evs_congr r ts (fun y hy=>h y (List.mem_cons_of_mem _ hy))]
theorem bOf_congr {o:Oper} {s s':AS} (h:∀ y∈Ht o.op,∀ hint,s.ev C hint y=s'.ev C hint y):bOf C o s=bOf C o s':=by
 unfold bOf
 cases hop:o.op with
 | call c =>
  rw [hop] at h
  simp only
  cases hc:c.callee with
  | value f =>
   simp only [Ht,hc] at h
   have ha:∀ x∈c.args.toList,∀ hint,s.ev C hint x=s'.ev C hint x:=fun x hx=>h x (List.mem_cons_of_mem _ hx)
   have hf:=h f (by simp)
   cases f with
   | func f=>simp only [evs_congr _ _ ha]
   | tmp f=>simp only [evs_congr _ _ ha,hf]
   | _=>rfl
  | _=>rfl
 | _=>rfl
theorem standAt_congr {rs0:List Nat} {o o':Gb}:∀ {ks:List Nat} {l:List Obj},(∀ k∈ks,lk o k=lk o' k)→Cl rs0 ks l o→Cl rs0 ks l o'
 | _,[],_,_=>by unfold Cl;trivial
 | [],_::_,_,h=>by simp [Cl] at h
 | k::ks,x::l,hk,h=>by
  simp only [Cl] at h ⊢
  exact ⟨by rw [←hk k (by simp)];exact h.1,standAt_congr (fun q hq=>hk q (List.mem_cons_of_mem _ hq)) h.2⟩
theorem freeAt_congr {o o':Gb}:∀ {ks:List Nat},(∀ k∈ks,lk o k=lk o' k)→freeAt ks o→freeAt ks o'
 | [],_,_=>by unfold freeAt;trivial
 | k::ks,hk,h=>by
  simp only [freeAt] at h ⊢
  exact ⟨by rw [←hk k (by simp)];exact h.1,freeAt_congr (fun q hq=>hk q (List.mem_cons_of_mem _ hq)) h.2⟩
theorem among_rs {rs:List Nat} {k:Nat} (h:k∈rs):C4 (rs.map (· % 4096)) k:=List.mem_map.2 ⟨k,h,rfl⟩
theorem BStep.move {o:Oper} {s s':AS} {bc:BCon} {x:bc.X} {rs:List Nat} (h:BStep C o s bc x rs) (hop:∀ y∈Ht o.op,∀ hint,s'.ev C hint y=s.ev C hint y)
  (ho:∀ k,C4 (rs.map (· % 4096)) k→lk s.objs k=lk s'.objs k):BStep C o s' bc x rs∧(∀ k,C4 (rs.map (· % 4096)) k→lk (Sp rs rs (bc.post x) s.objs) k=lk (Sp rs rs (bc.post x) s'.objs) k) ∧
   (∀ k,¬ C4 (rs.map (· % 4096)) k→lk (Sp rs rs (bc.post x) s.objs) k=lk s.objs k∧lk (Sp rs rs (bc.post x) s'.objs) k=lk s'.objs k):=by
 obtain ⟨h1,h2,h3,h4,h5,h6,h7⟩:=h
 have hk:∀ k∈rs,lk s.objs k=lk s'.objs k:=fun k hk=>ho k (among_rs hk)
 refine ⟨⟨by rw [bOf_congr hop];exact h1,h2,h3,h4,h5,standAt_congr hk h6,freeAt_congr (fun k hk'=>hk k (List.mem_of_mem_drop hk')) h7⟩,fun k hka=>?_,fun k hka=>?_⟩
 ·by_cases hkr:k∈rs
  ·obtain ⟨j,hj⟩:=List.getElem?_of_mem hkr
   have hjl:j<(bc.post x).length:=by rw [←h4];exact (List.getElem?_eq_some_iff.1 hj).1
   have hp:=aK hjl
   rw [backTo_in h3 hj hp,backTo_in h3 hj hp]
  ·rw [Sa hkr,Sa hkr];exact ho k hka
 ·have hkr:k∉rs:=fun hkr=>hka (among_rs hkr)
  exact ⟨Sa hkr,Sa hkr⟩
def Step (C:Ctx) (ops:List Oper) (i:Nat) (fp:List Nat) (ro:Bool) (s s':AS):Prop:=∃ o,ops[i]?=some o ∧
 ((match o.guard with
  | none=>False
  | some (j,want)=>(Ml ops s j).skips want∧fp=[]∧ro=true∧s'=s.put o.dst (.d (.tup [])) s.objs) ∨
 ((match o.guard with
  | none=>True
  | some (j,want)=>(Ml ops s j).runs want)∧fp=Iz C o s∧ro=roOf o.op∧∃ c x os,Dh C o s=some (c,x,os)∧c∧s'=s.put o.dst x os) ∨
 ((match o.guard with
  | none=>True
  | some (j,want)=>(Ml ops s j).runs want)∧ro=false∧∃ (bc:BCon) (x:bc.X) (rs:List Nat),BStep C o s bc x rs∧fp=rs.map (· % 4096)∧s'=s.put o.dst (bc.rvr rs x) (Sp rs rs (bc.post x) s.objs)))
inductive Tr (C:Ctx) (ops:List Oper):List (Nat×List Nat×Bool)→AS→AS→Prop
 | nil (s:AS):Tr C ops [] s s
 | cons {i:Nat} {fp:List Nat} {ro:Bool} {l:List (Nat×List Nat×Bool)} {s t u:AS} (h:Step C ops i fp ro s t) (k:Tr C ops l t u):Tr C ops ((i,fp,ro)::l) s u
theorem put_ev {s:AS} {dst:Option Nat} {x:AV} {os:Gb} {y:Operand} {hint:Nat} (h:∀ d,dst=some d→d∉tmpOf y):(s.put dst x os).ev C hint y=s.ev C hint y:=by
 cases y with
 | tmp t =>
  cases dst with
  | none=>rfl
  | some d =>
   have:d≠t:=by simpa [tmpOf] using h d rfl
   simp [AS.put,AS.ev,aY,List.getElem?_set_ne this]
 | _=>rfl
theorem looks_opnd {ops:List Oper} {o:Oper} {d:Nat} (h:d∉looks ops o):∀ y∈Ht o.op,d∉tmpOf y:=by
 intro y hy hd
 exact h (List.mem_append_left _ (List.mem_flatMap.2 ⟨y,hy,hd⟩))
theorem put_guard {ops:List Oper} {s:AS} {o:Oper} {j:Nat} {want:Bool} (hg:o.guard=some (j,want)) {dst:Option Nat} {x:AV} {os:Gb} (h:∀ d,dst=some d→d∉looks ops o):Ml ops (s.put dst x os) j=Ml ops s j:=by
 unfold Ml
 cases hj:ops[j]? with
 | none=>rfl
 | some g =>
  simp only
  cases hd:g.dst with
  | none=>rfl
  | some t =>
   simp only
   cases dst with
   | none=>rfl
   | some d =>
    have hne:d≠t:=by
     intro e
     exact h d rfl (by simp [looks,hg,hj,hd,e])
    simp [AS.put,aY,List.getElem?_set_ne hne]
theorem guardOf_same {ops:List Oper} {s s':AS} (h:s.tmps=s'.tmps) (j:Nat):Ml ops s j=Ml ops s' j:=by
 unfold Ml
 rw [h]
theorem opndsF_sub {o:Op}:∀ y∈Bk o,y∈Ht o:=by
 intro y hy
 cases o<;>first|exact hy|(simp [Bk] at hy)
theorem fpOf_put {ops:List Oper} {s:AS} {o:Oper} {dst:Option Nat} {x:AV} {os:Gb} (h:∀ d,dst=some d→d∉looks ops o):Iz C o (s.put dst x os)=Iz C o s:=by
 have:(Bk o.op).map ((s.put dst x os).ev C 0)=(Bk o.op).map (s.ev C 0):=List.map_congr_left fun y hy=>put_ev (fun d hd=>looks_opnd (h d hd) y (opndsF_sub y hy))
 unfold Iz
 rw [this]
theorem fpOf_same {s s':AS} (h:s.tmps=s'.tmps) (o:Oper):Iz C o s=Iz C o s':=by
 have:(Bk o.op).map (s.ev C 0)=(Bk o.op).map (s'.ev C 0):=List.map_congr_left fun y hy=>by cases y<;>simp [AS.ev,h]
 unfold Iz
 rw [this]
theorem Pt {s:AS} {dst:Option Nat} {x:AV} {os:Gb}:(s.put dst x os).objs=os:=by cases dst<;>rfl
theorem put_comm {s:AS} {a b:Option Nat} {x y:AV} {p q r u:Gb} (h:∀ d,a=some d→b≠some d):((s.put a x p).put b y q).tmps=((s.put b y r).put a x u).tmps:=by
 cases a with
 | none=>cases b<;>rfl
 | some d =>
  cases b with
  | none=>rfl
  | some e =>
   have hne:d≠e:=fun he=>h d rfl (he▸rfl)
   simp [AS.put,List.set_comm _ _ hne]
theorem Step.same (hC:C.dp=1) {ops:List Oper} {i:Nat} {fp:List Nat} {ro:Bool} {s s' t:AS} (h:Step C ops i fp ro s t) (e:s.same s'):∃ t',Step C ops i fp ro s' t'∧t.same t':=by
 obtain ⟨o,ho,h⟩:=h
 rcases h with h|⟨hg,hfp,hro,c,x,os,h1,hc,rfl⟩|⟨hg,hro,bc,x,rs,hb,hfp,rfl⟩
 rotate_right
 ·have hev:∀ y∈Ht o.op,∀ hint,s'.ev C hint y=s.ev C hint y:=fun y _ hint=>by cases y<;>simp [AS.ev,e.1]
  obtain ⟨b1,b2,b3⟩:=hb.move hev (fun k _=>e.2 k)
  refine ⟨s'.put o.dst (bc.rvr rs x) (Sp rs rs (bc.post x) s'.objs),⟨o,ho,.inr (.inr ⟨?_,hro,bc,x,rs,b1,hfp,rfl⟩)⟩,?_,fun k=>?_⟩
  ·cases hgd:o.guard with
   | none=>trivial
   | some jw =>
    obtain ⟨j,want⟩:=jw
    simp only [hgd] at hg ⊢
    rw [←guardOf_same e.1]
    exact hg
  ·cases o.dst<;>simp [AS.put,e.1]
  ·rw [Pt,Pt]
   by_cases hk:C4 (rs.map (· % 4096)) k
   ·exact b2 k hk
   ·rw [(b3 k hk).1,(b3 k hk).2];exact e.2 k
 ·cases hgd:o.guard with
  | none=>simp only [hgd] at h
  | some jw =>
   obtain ⟨j,want⟩:=jw
   simp only [hgd] at h
   obtain ⟨h1,h3,h4,rfl⟩:=h
   refine ⟨s'.put o.dst (.d (.tup [])) s'.objs,⟨o,ho,.inl ?_⟩,?_⟩
   ·simp only [hgd]
    exact ⟨by rw [←guardOf_same e.1];exact h1,h3,h4,trivial⟩
   ·refine ⟨?_,fun k=>?_⟩
    ·cases o.dst<;>simp [AS.put,e.1]
    ·rw [Pt,Pt];exact e.2 k
 ·have h1':Dh C o ⟨s.tmps,s.objs⟩=some (c,x,os):=h1
  obtain ⟨os',k1,k2,k3⟩:=opStep_loc hC o s s.objs s'.objs c x os (fun k _=>e.2 k) h1'
  have k1':Dh C o s'=some (c,x,os'):=by
   have:s'=⟨s.tmps,s'.objs⟩:=by cases s';simp only [AS.mk.injEq,and_true];exact e.1.symm
   rw [this];exact k1
  refine ⟨s'.put o.dst x os',⟨o,ho,.inr (.inl ⟨?_,by rw [←fpOf_same e.1];exact hfp,hro,c,x,os',k1',hc,rfl⟩)⟩,?_,fun k=>?_⟩
  ·cases hgd:o.guard with
   | none=>trivial
   | some jw =>
    obtain ⟨j,want⟩:=jw
    simp only [hgd] at hg ⊢
    rw [←guardOf_same e.1]
    exact hg
  ·cases o.dst<;>simp [AS.put,e.1]
  ·rw [Pt,Pt]
   by_cases hk:C4 (Iz C o s) k
   ·exact k2 k hk
   ·rw [(k3 k hk).1,(k3 k hk).2];exact e.2 k
theorem Tr.same (hC:C.dp=1) {ops:List Oper} {l:List (Nat×List Nat×Bool)} {s s' t:AS} (h:Tr C ops l s t) (e:s.same s'):∃ t',Tr C ops l s' t'∧t.same t':=by
 induction h generalizing s' with
 | nil s=>exact ⟨s',.nil s',e⟩
 | cons h _ ih =>
  obtain ⟨t1,k1,k2⟩:=h.same hC e
  obtain ⟨t2,j1,j2⟩:=ih k2
  exact ⟨t2,.cons k1 j1,j2⟩
def Indep (ops:List Oper) (a b:Nat×List Nat×Bool):Prop:=(∀ x y,ops[a.1]?=some x→ops[b.1]?=some y→slotsApart ops x y=true)∧((∀ k,k∈a.2.1→k∉b.2.1)∨(a.2.2=true∧b.2.2=true))
theorem slotsApart_spec {ops:List Oper} {x y:Oper} (h:slotsApart ops x y=true) :
  (∀ d,x.dst=some d→d∉looks ops y)∧(∀ d,x.dst=some d→y.dst≠some d)∧(∀ d,y.dst=some d→d∉looks ops x):=by
 refine ⟨fun d hd=>?_,fun d hd=>?_,fun d hd=>?_⟩<;>simp [slotsApart,hd] at h
 ·exact h.1.1
 ·exact h.1.2
 ·exact h.2
def StepF (C:Ctx) (ops:List Oper) (o:Oper) (fp:List Nat) (ro:Bool) (s:AS) (x:AV) (os:Gb):Prop :=
 (match o.guard with
  | none=>False
  | some (j,want)=>(Ml ops s j).skips want∧fp=[]∧ro=true∧x=.d (.tup [])∧os=s.objs) ∨
 ((match o.guard with
  | none=>True
  | some (j,want)=>(Ml ops s j).runs want)∧fp=Iz C o s∧ro=roOf o.op∧∃ c,Dh C o s=some (c,x,os)∧c) ∨
 ((match o.guard with
  | none=>True
  | some (j,want)=>(Ml ops s j).runs want)∧ro=false∧∃ (bc:BCon) (q:bc.X) (rs:List Nat),BStep C o s bc q rs∧fp=rs.map (· % 4096)∧x=bc.rvr rs q∧os=Sp rs rs (bc.post q) s.objs)
theorem step_iff {ops:List Oper} {i:Nat} {fp:List Nat} {ro:Bool} {s t:AS}:Step C ops i fp ro s t↔∃ o x os,ops[i]?=some o∧StepF C ops o fp ro s x os∧t=s.put o.dst x os:=by
 constructor
 ·rintro ⟨o,ho,h⟩
  rcases h with h|⟨hg,hfp,hro,c,x,os,h1,hc,rfl⟩|⟨hg,hro,bc,x,rs,hb,hfp,rfl⟩
  rotate_right
  ·exact ⟨o,bc.rvr rs x,Sp rs rs (bc.post x) s.objs,ho,.inr (.inr ⟨hg,hro,bc,x,rs,hb,hfp,rfl,rfl⟩),rfl⟩
  ·refine ⟨o,.d (.tup []),s.objs,ho,.inl ?_,?_⟩
   ·cases hgd:o.guard with
    | none=>simp only [hgd] at h
    | some jw=>simp only [hgd] at h ⊢;obtain ⟨h1,h3,h4,_⟩:=h;exact ⟨h1,h3,h4,trivial,trivial⟩
   ·cases hgd:o.guard with
    | none=>simp only [hgd] at h
    | some jw=>simp only [hgd] at h;exact h.2.2.2
  ·exact ⟨o,x,os,ho,.inr (.inl ⟨hg,hfp,hro,c,h1,hc⟩),rfl⟩
 ·rintro ⟨o,x,os,ho,h,rfl⟩
  refine ⟨o,ho,?_⟩
  rcases h with h|⟨hg,hfp,hro,c,h1,hc⟩|⟨hg,hro,bc,q,rs,hb,hfp,rfl,rfl⟩
  ·refine .inl ?_
   cases hgd:o.guard with
   | none=>simp only [hgd] at h
   | some jw=>simp only [hgd] at h ⊢;obtain ⟨h1,h3,h4,rfl,rfl⟩:=h;exact ⟨h1,h3,h4,rfl⟩
  ·exact .inr (.inl ⟨hg,hfp,hro,c,x,os,h1,hc,rfl⟩)
  ·exact .inr (.inr ⟨hg,hro,bc,q,rs,hb,hfp,rfl⟩)
theorem StepF.move (hC:C.dp=1) {ops:List Oper} {o:Oper} {fp:List Nat} {ro:Bool} {s:AS} {x:AV} {os:Gb} (h:StepF C ops o fp ro s x os) {s':AS}
  (hg:∀ j want,o.guard=some (j,want)→Ml ops s' j=Ml ops s j) (hf:Iz C o s'=Iz C o s) (hop:∀ y∈Ht o.op,∀ hint,s'.ev C hint y=s.ev C hint y)
  (ho:∀ k,C4 fp k→lk s.objs k=lk s'.objs k):∃ os',StepF C ops o fp ro s' x os'∧(∀ k,C4 fp k→lk os k=lk os' k)∧(∀ k,¬ C4 fp k→lk os k=lk s.objs k∧lk os' k=lk s'.objs k):=by
 rcases h with h|⟨hgd,hfp,hro,c,h1,hc⟩|⟨hgd,hro,bc,q,rs,hb,hfp,rfl,rfl⟩
 rotate_right
 ·subst hfp
  obtain ⟨b1,b2,b3⟩:=hb.move hop ho
  refine ⟨Sp rs rs (bc.post q) s'.objs,.inr (.inr ⟨?_,hro,bc,q,rs,b1,rfl,rfl,rfl⟩),b2,b3⟩
  cases hgd':o.guard with
  | none=>trivial
  | some jw =>
   obtain ⟨j,want⟩:=jw
   simp only [hgd'] at hgd ⊢
   rw [hg j want hgd']
   exact hgd
 ·cases hgd:o.guard with
  | none=>simp only [hgd] at h
  | some jw =>
   obtain ⟨j,want⟩:=jw
   simp only [hgd] at h
   obtain ⟨h1,h3,h4,rfl,rfl⟩:=h
   refine ⟨s'.objs,.inl ?_,fun k hk=>ho k hk,fun k _=>⟨rfl,rfl⟩⟩
   simp only [hgd]
   exact ⟨by rw [hg j want hgd];exact h1,h3,h4,trivial,trivial⟩
 ·subst hfp
  obtain ⟨os',k1,k2,k3⟩:=opStep_loc hC o s s.objs s'.objs c x os ho h1
  refine ⟨os',.inr (.inl ⟨?_,hf.symm,hro,c,?_,hc⟩),k2,k3⟩
  ·cases hgd':o.guard with
   | none=>trivial
   | some jw =>
    obtain ⟨j,want⟩:=jw
    simp only [hgd'] at hgd ⊢
    rw [hg j want hgd']
    exact hgd
  ·rw [←k1]
   exact opStep_congr rfl (fun y hy hint=>by rw [hop y hy hint];cases y<;>rfl)
theorem StepF.ro {ops:List Oper} {o:Oper} {fp:List Nat} {s:AS} {x:AV} {os:Gb} (h:StepF C ops o fp true s x os):os=s.objs:=by
 rcases h with h|⟨_,_,hro,c,h1,_⟩|⟨_,hro,_⟩
 ·cases hgd:o.guard with
  | none=>simp only [hgd] at h
  | some jw=>simp only [hgd] at h;obtain ⟨h1,h3,h4,rfl,rfl⟩:=h;rfl
 ·exact opStep_ro hro.symm h1
 ·cases hro
theorem step_swap (hC:C.dp=1) {ops:List Oper} {a b:Nat×List Nat×Bool} {s t u:AS} (h1:Step C ops a.1 a.2.1 a.2.2 s t) (h2:Step C ops b.1 b.2.1 b.2.2 t u) (hi:Indep ops a b) :
  ∃ t' u',Step C ops b.1 b.2.1 b.2.2 s t'∧Step C ops a.1 a.2.1 a.2.2 t' u'∧u.same u':=by
 obtain ⟨oa,xa,osa,hoa,fa,rfl⟩:=step_iff.1 h1
 obtain ⟨ob,xb,osb,hob,fb,rfl⟩:=step_iff.1 h2
 obtain ⟨s1,s2,s3⟩:=slotsApart_spec (hi.1 oa ob hoa hob)
 have key:∀ k,C4 b.2.1 k→lk (s.put oa.dst xa osa).objs k=lk s.objs k:=by
  intro k hk
  rw [Pt]
  rcases hi.2 with hd|⟨hr,_⟩
  ·have:¬ C4 a.2.1 k:=fun hka=>hd _ hka hk
   obtain ⟨_,q1,q2,q3⟩:=fa.move hC (s':=s) (fun _ _ _=>rfl) rfl (fun _ _ _=>rfl) (fun _ _=>rfl)
   exact (q3 k this).1
  ·rw [hr] at fa
   rw [fa.ro]
 obtain ⟨osb',fb',e1,e2⟩:=fb.move hC (s':=s) (fun j want hg=>(put_guard hg s1).symm) (fpOf_put s1).symm (fun y hy hint=>(put_ev (fun d hd=>looks_opnd (s1 d hd) y hy)).symm) key
 have key2:∀ k,C4 a.2.1 k→lk s.objs k=lk (s.put ob.dst xb osb').objs k:=by
  intro k hk
  rw [Pt]
  rcases hi.2 with hd|⟨_,hr⟩
  ·have:¬ C4 b.2.1 k:=fun hkb=>hd _ hk hkb
   exact (e2 k this).2.symm
  ·rw [hr] at fb'
   rw [fb'.ro]
 obtain ⟨osa',fa',g1,g2⟩:=fa.move hC (s':=s.put ob.dst xb osb') (fun j want hg=>put_guard hg s3) (fpOf_put s3) (fun y hy hint=>put_ev (fun d hd=>looks_opnd (s3 d hd) y hy)) key2
 refine ⟨s.put ob.dst xb osb',(s.put ob.dst xb osb').put oa.dst xa osa',step_iff.2 ⟨ob,xb,osb',hob,fb',rfl⟩,step_iff.2 ⟨oa,xa,osa',hoa,fa',rfl⟩,put_comm s2,fun k=>?_⟩
 simp only [Pt] at e1 e2 g1 g2 key key2 ⊢
 rcases hi.2 with hd|⟨hra,hrb⟩
 ·by_cases hka:C4 a.2.1 k
  ·have hkb:¬ C4 b.2.1 k:=fun hkb=>hd _ hka hkb
   rw [(e2 k hkb).1,g1 k hka]
  ·rw [(g2 k hka).2]
   by_cases hkb:C4 b.2.1 k
   ·exact e1 k hkb
   ·rw [(e2 k hkb).1,(e2 k hkb).2,(g2 k hka).1]
 ·rw [hra] at fa fa'
  rw [hrb] at fb fb'
  rw [fb.ro,Pt,fa.ro,fa'.ro,Pt,fb'.ro]
theorem Tr.first (hC:C.dp=1) {ops:List Oper} {i:Nat×List Nat×Bool}:∀ {l1 l2:List (Nat×List Nat×Bool)} {s t:AS},Tr C ops (l1++i::l2) s t→(∀ k∈l1,Indep ops k i) →
  ∃ s1 t',Step C ops i.1 i.2.1 i.2.2 s s1∧Tr C ops (l1++l2) s1 t'∧t.same t'
 | [],l2,s,t,h,_=>by
  simp only [List.nil_append] at h ⊢
  cases h with
  | cons h k=>exact ⟨_,t,h,k,AS.same.refl t⟩
 | (k,fk,rk)::l1,l2,s,t,h,hi=>by
  simp only [List.cons_append] at h
  cases h with
  | cons h1 h2 =>
   obtain ⟨u1,t',k1,k2,k3⟩:=Tr.first hC h2 (fun q hq=>hi q (List.mem_cons_of_mem _ hq))
   obtain ⟨s1,u',j1,j2,j3⟩:=step_swap hC (a:=(k,fk,rk)) (b:=i) h1 k1 (hi _ (by simp))
   obtain ⟨t'',q1,q2⟩:=k2.same hC j3
   exact ⟨s1,t'',j1,.cons j2 q1,k3.trans q2⟩
end
section
variable {P:Program} {C:Ctx}
variable {base:Nat} {pass:Nat→Prop} {F0:Anc} {st:AS} {a:Act} {w:World}
theorem set_same {α:Type} {l:List α} {i:Nat} {x d:α} (h:l.getD i d=x) (hi:i<l.length):l.set i x=l:=by
 apply List.ext_getElem?
 intro j
 rw [List.getElem?_set]
 by_cases hij:i=j
 ·subst hij
  rw [if_pos rfl,if_pos hi]
  rw [aY,aK hi] at h
  rw [aK hi,←h]
  rfl
 ·rw [if_neg hij]
theorem guardOf_spec {ops:List Oper} {j t:Nat} {b:Bool} (h:Ml ops st j=.b t b):∃ g,ops[j]?=some g∧g.dst=some t∧t<st.tmps.length∧st.tmps.getD t .dead=.d (.bool b):=by
 unfold Ml at h
 split at h
 ·next g hg =>
  split at h
  ·next t' ht =>
   split at h
   ·next b' hb =>
    injection h with h1 h2
    subst h1;subst h2
    refine ⟨g,hg,ht,?_,hb⟩
    rcases Nat.lt_or_ge t' st.tmps.length with hlt|hge
    ·exact hlt
    ·rw [aY,List.getElem?_eq_none hge] at hb;simp at hb
   ·cases h
   ·cases h
  ·cases h
 ·cases h
theorem guard_yield {m:Nat→Nat} {G:Gh} (h:SRg base pass F0 m G st a w) {ops:List Oper} {j t:Nat} {b:Bool} (hg:Ml ops st j=.b t b):yielded ops.toArray a.tmps j=some b:=by
 obtain ⟨g,h1,h2,h3,h4⟩:=guardOf_spec hg
 have hx:st.tmps[t]?=some (.d (.bool b)):=by
  rw [aK h3]
  rw [aY,aK h3] at h4
  simpa using h4
 obtain ⟨u,hu,hr⟩:=h.tmps.at hx
 simp only [RA,R] at hr
 subst hr
 have hu':a.tmps[t]?=some (.bool b):=by simpa using hu
 simp [yielded,h1,h2,hu']
theorem guard_und {m:Nat→Nat} {G:Gh} (h:SRg base pass F0 m G st a w) {ops:List Oper} {j:Nat} (hg:Ml ops st j=.und):yielded ops.toArray a.tmps j=none:=by
 unfold Ml at hg
 split at hg
 ·next g hj =>
  split at hg
  ·next t ht =>
   split at hg
   ·cases hg
   ·next hb =>
    have hlt:t<st.tmps.length:=by
     rcases Nat.lt_or_ge t st.tmps.length with hlt|hge
     ·exact hlt
     ·rw [aY,List.getElem?_eq_none hge] at hb;simp at hb
    have hx:st.tmps[t]?=some (.d (.tup [])):=by
     rw [aK hlt]
     rw [aY,aK hlt] at hb
     simpa using hb
    obtain ⟨u,hu,hr⟩:=h.tmps.at hx
    simp only [RA,R,Rs] at hr
    obtain ⟨cs,rfl,rfl⟩:=hr
    have hu':a.tmps[t]?=some (.tuple #[]):=by simpa using hu
    simp [yielded,hj,ht,hu']
   ·cases hg
  ·cases hg
 ·cases hg
theorem undef_ok {F:Fix} {G:Gh} {L:Nat→Option Obj}:RA F G L (.d (.tup [])) undef:=by
 simp only [RA,R,Rs]
 exact ⟨[],rfl,rfl⟩
theorem bcall_wp (K:Gu P C) {m:Nat→Nat} {G:Gh} (h:SRg base pass F0 m G st a w) {o:Oper} {bc:BCon} {x:bc.X} {rs:List Nat} (hb:bOf C o st=some (bc,rnAs rs (bc.args x))) (hok:bc.ok x)
  (hnd:rs.Nodup) (hlen:rs.length=(bc.post x).length) (hst:Cl rs rs (bc.objs x) st.objs) (hfr:freeAt (rs.drop (bc.objs x).length) st.objs) {N:Act→World→Prop} {Q:Exit→Act→World→Prop}
  (hn:After base pass F0 a st.tmps o.dst (bc.rvr rs x) (Sp rs rs (bc.post x) st.objs) N):o.wp P a w N Q:=by
 unfold bOf at hb
 split at hb
 ·next cl hop =>
  have e:cl.args.map a.eval=(cl.args.toList.map a.eval).toArray:=by cases cl.args;simp
  split at hb
  ·next f hcal =>
   split at hb
   ·next bc' hf =>
    injection hb with hb
    injection hb with hb1 hb2
    subst hb1
    have hx:=Ea (C:=C) h.tmps cl.args.toList cl.argTypes.toList
    rw [hb2] at hx
    obtain ⟨hent,hcalls⟩:=bcall_sound K h hf hok hx hnd hlen hst hfr
    refine O7 (st:=st) (args:=(cl.args.toList.map a.eval).toArray) ?_ hcalls hn
    have:=hent (cl.args.toList.map a.eval).toArray w
    simp only [execOp,hop,resolve,hcal,Act.eval,Deferred.ofValue]
    simpa [invoke,e] using this
   ·cases hb
  ·next f hcal =>
   have hf0:=Sd (C:=C) (hint:=0) h.tmps (.tmp f)
   split at hb
   ·next g caps hfv =>
    split at hb
    ·next bc' hf =>
     injection hb with hb
     injection hb with hb1 hb2
     subst hb1
     rw [hfv] at hf0
     simp only [RA,R] at hf0
     obtain ⟨cs,hfe,hcs⟩:=hf0
     have hx:=RAs.append (Ea (C:=C) h.tmps cl.args.toList cl.argTypes.toList) (RAs.of_Rs (G:=G) (L:=lk st.objs) hcs)
     rw [hb2] at hx
     obtain ⟨hent,hcalls⟩:=bcall_sound K h hf hok hx hnd hlen hst hfr
     refine O7 (st:=st) (args:=(cl.args.toList.map a.eval++cs).toArray) ?_ hcalls hn
     have:=hent (cl.args.toList.map a.eval++cs).toArray w
     simp only [execOp,hop,resolve,hcal,hfe,Deferred.ofValue]
     simpa [invoke,e] using this
    ·cases hb
   ·next g caps hfv =>
    split at hb
    ·next bc' hf =>
     injection hb with hb
     injection hb with hb1 hb2
     subst hb1
     rw [hfv] at hf0
     simp only [RA] at hf0
     obtain ⟨cs,hfe,hcs⟩:=hf0
     have hx:=RAs.append (Ea (C:=C) h.tmps cl.args.toList cl.argTypes.toList) hcs
     rw [hb2] at hx
     obtain ⟨hent,hcalls⟩:=bcall_sound K h hf hok hx hnd hlen hst hfr
     refine O7 (st:=st) (args:=(cl.args.toList.map a.eval++cs).toArray) ?_ hcalls hn
     have:=hent (cl.args.toList.map a.eval++cs).toArray w
     simp only [execOp,hop,resolve,hcal,hfe,Deferred.ofValue]
     simpa [invoke,e] using this
    ·cases hb
   ·cases hb
  ·cases hb
 ·cases hb
theorem cut_wp (K:Gu P C) {m:Nat→Nat} {G:Gh} (h:SRg base pass F0 m G st a w) {o:Oper} {i n s k:Nat} {b:D} {els:List D} (hb:cutOf C o st=some (i,n,b,s,els,k))
  (hc:n=els.length∧b.isAnyInt∧0≤b.i∧b.i≤els.length∧(k:Int)≤b.i∧T5 i st.objs=true∧i<90000) {N:Act→World→Prop} {Q:Exit→Act→World→Prop}
  (hn:After base pass F0 a (Dl i st.tmps) o.dst (.sl i b.i.toNat) (upd st.objs i (.row s (els.take b.i.toNat) k)) N):o.wp P a w N Q:=by
 obtain ⟨c1,c2,c3,c4,c5,c6,c7⟩:=hc
 unfold cutOf at hb
 split at hb
 ·next t x hi d hop hdst =>
  split at hb
  ·split at hb
   ·next e i' n' b' hk hx hhi =>
    split at hb
    ·next s' els' k' hl =>
     split at hb
     ·next hs =>
      simp only [aZ,aJ] at hb
      obtain ⟨rfl,rfl,rfl,rfl,rfl,rfl⟩:=hb
      have hvx:=Sd (C:=C) (hint:=t) h.tmps x
      have hvh:=Sd (C:=C) (hint:=0) h.tmps hi
      rw [hx] at hvx
      rw [hhi] at hvh
      simp only [RA,hl] at hvx hvh
      have hv:=hvx.2.2 c1
      obtain ⟨q2,hq⟩:=hvh.of_anyInt c2
      obtain ⟨dd,hd,hkd⟩:=K.1.kind hk rfl
      simp only [TK.is] at hkd
      obtain ⟨rfl,he⟩:=hkd
      have hsz:=Ft (K.1 e he)
      obtain ⟨A,cp,hhd,hle⟩:∃ A cp,G.hd i'=.slice A els'.length cp∧els'.length≤cp:=by
       have hob:=h.objs i' _ hl
       simp only [Hd] at hob
       rcases hob with ⟨_,h2,h3,_⟩|⟨bb,cap,cs,ty,_,h2,h3,_⟩
       ·subst h3;exact ⟨none,0,by rw [h2];rfl,cZ _⟩
       ·exact ⟨_,cap,h2,h3⟩
      have hnb:b'.i.toNat≤els'.length:=by omega
      have hr:=Tk (P:=P) (w:=w) (A:=A) (c:=cp) hd hsz (lo:=none) (hi:=some (.int q2 b'.i)) (n:=els'.length) (l:=0) (h:=b'.i.toNat) (.inl ⟨rfl,rfl⟩) (.inr ⟨q2,by rw [D9 c3]⟩) (Nat.zero_le _) hnb hle
      have hA:(if cp=0 then A else A.map (·.add (0*C.size e)))=A:=by
       split
       ·rfl
       ·cases A<;>simp [Addr.add]
      have hcut:=h.cut hl hnb (by omega) c6 c7 hhd
      have hlen:(els'.take b'.i.toNat).length=b'.i.toNat:=by rw [List.length_take];omega
      unfold Oper.wp
      rw [show execOp a.eval o=(do pure (.value (←Instr.sliceAt t (a.eval x) none (some (a.eval hi)) none))) by simp only [execOp,hop];rfl]
      rw [hv,hhd,hq]
      simp only [Sem.run_bind,hr,Result.andThen_ok,Sem.run_pure,Oper.upon]
      refine hn _ w m _ hcut ?_
      simp only [RA,Bm,if_true]
      refine ⟨rfl,by omega,fun _=>?_⟩
      rw [hA]
      simp
     ·cases hb
    ·cases hb
   ·cases hb
  ·cases hb
 ·cases hb
theorem run_clear_row {t e ty:TypeId} {z:Value} (ht:P.underlying t=some (.slice e)) (hv:∀ w,(zeroValue e).run P w=.ok z w) {zc:Value} (hz:z.cells=#[zc]) (h1:zc.oneCell'=true) {b o n c:Nat} (hn:0<n) {cur:Array Value} {tt:TypeId}
  (hg:w.heap[b]?=some (.cells cur tt (0,0))) (hl:o+n≤cur.size) :
  (Builtin.clear_ #[t] ty #[.slice (some ⟨b,o,none⟩) n c]).run P w=.ok (.tuple #[]) (w.setRow b (cur.toList.take o++List.replicate n zc++cur.toList.drop (o+n)).toArray):=by
 have hzc:(Builtin.zeroCells z.cells n).toList=List.replicate n zc:=by
  rw [hz]
  simp [Builtin.zeroCells]
  apply List.ext_getElem
  ·simp
  ·intro i h1 h2
   simp [Nat.mod_one]
 have hst:=run_storeCells_at P b o tt (List.replicate n zc) 0 cur w hg (by simpa using hl) (by intro v hv';rw [List.eq_of_mem_replicate hv'];exact h1)
 simp only [Nat.add_zero,List.length_replicate] at hst
 obtain ⟨m,rfl⟩:∃ m,n=m+1:=⟨n-1,by omega⟩
 simp [Builtin.clear_,run_underlying ht,hv,hzc,hst]
theorem RE_reps {F:Fix} {d:D} {z zc:Value} (h:R F d z) (hz:z.cells=#[zc]) (h1:zc.oneCell'=true):∀ n,RE F 1 (List.replicate n d) (List.replicate n zc)
 | 0=>by simp [RE]
 | n+1=>by
  rw [List.replicate_succ,List.replicate_succ]
  simp only [RE]
  exact ⟨z,_,by rw [hz];rfl,by rw [hz];rfl,by rw [hz];simpa using h1,h,RE_reps h hz h1 n⟩
theorem ext_wp (K:Gu P C) {m:Nat→Nat} {G:Gh} (h:SRg base pass F0 m G st a w) {o:Oper} {c:Prop} {z:AV} {os:Gb} (hb:extStep C o st=some (c,z,os)) (hc:c)
  {N:Act→World→Prop} {Q:Exit→Act→World→Prop} (hn:After base pass F0 a st.tmps o.dst z os N):o.wp P a w N Q:=by
 unfold extStep at hb
 split at hb
 ·next t x lo hop =>
  split at hb
  ·next d hdst =>
   split at hb
   ·split at hb
    ·next e i n y hk hx hlo =>
     split at hb
     ·next s els k hl =>
      split at hb
      ·next hs =>
       simp only [aZ,aJ] at hb
       obtain ⟨rfl,rfl,rfl⟩:=hb
       obtain ⟨c1,c2,c3,c4⟩:=hc
       have hvx:=Sd (C:=C) (hint:=t) h.tmps x
       have hvl:=Sd (C:=C) (hint:=0) h.tmps lo
       rw [hx] at hvx
       rw [hlo] at hvl
       simp only [RA,hl] at hvx hvl
       have hv:=hvx.2.2 c1
       obtain ⟨q2,hq⟩:=hvl.of_anyInt c2
       obtain ⟨dd,hd,hkd⟩:=K.1.kind hk rfl
       simp only [TK.is] at hkd
       obtain ⟨rfl,he⟩:=hkd
       have hsz:=Ft (K.1 e he)
       have hob:=h.objs i _ hl
       simp only [Hd] at hob
       rcases hob with ⟨_,_,h3,_⟩|⟨bb,cap,cs,ty,h1,h2,h3,_⟩
       ·subst h3;simp at c4;omega
       ·have hr:=Tk (P:=P) (w:=w) (A:=some ⟨bb,0,none⟩) (c:=cap) hd hsz (lo:=some (.int q2 y.i)) (hi:=none) (n:=els.length) (l:=y.i.toNat) (h:=els.length) (.inr ⟨q2,by rw [D9 c3]⟩) (.inl ⟨rfl,rfl⟩) (by omega) (cZ _) h3
        have hne:¬ cap=y.i.toNat:=by omega
        rw [if_neg hne] at hr
        refine Nc (st:=st) (s:=Instr.sliceAt t (a.eval x) (some (a.eval lo)) none none) (by simp only [execOp,hop];rfl) (Gv h (v:=.slice (some ⟨bb,y.i.toNat*s,none⟩) (els.length-y.i.toNat) (cap-y.i.toNat)) ?_ ?_) hn
        ·rw [hv,h2,hq,hr]
         simp [It,hs]
        ·simp only [RA,hl]
         refine ⟨rfl,by omega,fun _=>⟨bb,cap,h1,by rw [h2,c1],by omega,by rw [c1]⟩⟩
      ·cases hb
     ·cases hb
    ·cases hb
   ·cases hb
  ·cases hb
 ·next cl hop =>
  split at hb
  ·next hcal =>
   split at hb
   ·next x t hx ht =>
    split at hb
    ·next e i n f hk hxe =>
     split at hb
     ·next s els k hl =>
      split at hb
      ·next hs =>
       obtain ⟨hs,rfl⟩:=hs
       simp only [aZ,aJ] at hb
       obtain ⟨rfl,rfl,rfl⟩:=hb
       obtain ⟨c1,c2⟩:=hc
       have e1:=array_one hx
       have e2:=array_one ht
       have hvx:=Sd (C:=C) (hint:=t) h.tmps x
       rw [hxe] at hvx
       simp only [RA,hl] at hvx
       obtain ⟨bb,cc,g1,g2,g3,hv⟩:=hvx.2.2 c1
       obtain ⟨dd,hd,hkd⟩:=K.1.kind hk rfl
       simp only [TK.is] at hkd
       obtain ⟨rfl,he⟩:=hkd
       obtain ⟨ii,zv,i1,i2,i3,i4,i5,i6,i7,i8⟩:=(K.1 e he).info
       have hz1:zv.cells.size=1:=by rw [i7];exact hs.symm
       obtain ⟨zc,hzc⟩:∃ zc,zv.cells=#[zc]:=⟨zv.cells[0],by
        apply Array.ext
        ·simpa using hz1
        ·intro j h1 h2
         have:j=0:=by simp at h2;omega
         subst this
         rfl⟩
       have hzo:zc.oneCell'=true:=i8 zc (by rw [hzc];simp)
       have hzr:∀ w,(zeroValue e).run P w=.ok zv w:=by
        intro w
        simp [zeroValue,typeInfo,i1,i4]
       have hob:=h.objs i _ hl
       simp only [Hd] at hob
       rcases hob with ⟨_,_,h3,_⟩|⟨b',cap,cs,ty,h1,h2,h3,h4,h5,h6,h7,h8,h9⟩
       ·subst h3;simp at c1;omega
       ·rw [g1] at h1
        injection h1 with h1
        subst h1
        rw [h2] at g2
        injection g2 with _ _ g2
        subst g2
        simp only [Nat.mul_one] at hv h6 h7 h8
        have hr:=run_clear_row (P:=P) (w:=w) (ty:=o.type) hd hzr hzc hzo (b:=bb) (o:=f) (n:=n-f) (c:=cap-f) (by omega) h5 (by omega)
        refine Nc (st:=st) (s:=Builtin.clear_ #[t] o.type #[a.eval x]) (by simp [execOp,hop,resolve,hcal,e1,e2,invoke,builtin]) ⟨_,_,m,G,by rw [hv];exact hr,?_,?_⟩ hn
        ·refine (h.write hl rfl g1 h5 (fun off ho=>?_) (by simp [Obj.isBox]) (fun s' els' k' he'=>?_) (fun hF hg=>?_)).2.2
         ·rw [h8] at ho
          have:off<f:=by omega
          rw [←Array.getElem?_toList,List.append_assoc,List.getElem?_append_left (by simp;omega),List.getElem?_take,if_pos this]
          simp
         ·simp only [Obj.row.injEq] at he'
          obtain ⟨rfl,rfl,rfl⟩:=he'
          exact ⟨els,k,rfl,by simp;omega⟩
         ·simp only [Hd]
          have hlen:(els.take f++List.replicate (els.length-f) (C.τ e).zd).length=els.length:=by simp;omega
          have hz2:(cs.toList.take f++List.replicate (n-f) zc++cs.toList.drop (f+(n-f))).length=cs.size:=by simp;omega
          refine .inr ⟨bb,cap,_,ty,g1,by rw [hlen];exact h2,by rw [hlen];exact h3,h4,setRow_heap w bb cs _ ty (0,0) h5,?_,?_,by simpa using h8,by rw [hlen];exact h9⟩
          ·rw [Nat.mul_one,←h6];simpa using hz2
          ·have r1:=(RE.split f (RE.mono hF h7)).1
           have r2:=RE.append r1 (RE_reps (F:=⟨w.setRow bb (cs.toList.take f++List.replicate (n-f) zc++cs.toList.drop (f+(n-f))).toArray,m⟩) (i6 _) hzc hzo (els.length-f))
           rw [hlen]
           have e3:(cs.toList.take f++List.replicate (n-f) zc++cs.toList.drop (f+(n-f))).toArray.toList.take (els.length*1)=(cs.toList.take els.length).take (f*1)++List.replicate (els.length-f) zc:=by
            rw [Nat.mul_one,Nat.mul_one,List.take_take,c1]
            simp only []
            rw [List.take_append_of_le_length (by simp;omega),List.take_of_length_le (by simp;omega)]
            congr 2
            omega
           rw [e3]
           exact r2
        ·simp only [RA,R,Rs]
         exact ⟨[],rfl,rfl⟩
      ·cases hb
     ·cases hb
    ·cases hb
   ·cases hb
  ·cases hb
 ·cases hb
theorem nil_wp (K:Gu P C) {m:Nat→Nat} {G:Gh} (h:SRg base pass F0 m G st a w) {o:Oper} {c:Prop} {l:List D} {b:Bool} (hb:nilOf C o st=some (c,l,b)) (hc:c)
  {N:Act→World→Prop} {Q:Exit→Act→World→Prop} (hn1:l=[]→After base pass F0 a st.tmps o.dst (.d (.bool b)) st.objs N) (hn2:After base pass F0 a st.tmps o.dst (.d (.bool (!b))) st.objs N):o.wp P a w N Q:=by
 have key:∀ (op:BinOp) (t:Nat) (ox oy:Operand) (ty:TypeId),(op=.eql∧b=true∨op=.neq∧b=false)→o.op=.binOp op t ox oy ty→nilArg C t (st.ev C t ox) (st.ev C t oy) st.objs=some (c,l)→o.wp P a w N Q:=by
  intro op t ox oy ty hopb hop hna
  have hvx:=Sd (C:=C) (hint:=t) h.tmps ox
  have hvy:=Sd (C:=C) (hint:=t) h.tmps oy
  obtain ⟨e,A,cc,hk,hv,hvy',hnone⟩:∃ e A cc,(C.τ t).kind=.slice e∧a.eval ox=.slice A l.length cc∧a.eval oy=.slice none 0 0∧(A=none→l=[]):=by
   unfold nilArg at hna
   split at hna
   ·next e d s hk hx hy =>
    simp only [aZ,aJ] at hna
    obtain ⟨rfl,rfl⟩:=hna
    rw [hx] at hvx
    rw [hy] at hvy
    simp only [RA] at hvx hvy
    have hl:=hvx.of_list hc
    simp only [R] at hl
    obtain ⟨A,cc,hv,_,_,hA⟩:=hl
    refine ⟨e,A,cc,hk,hv,hvy,fun hz=>?_⟩
    apply Classical.byContradiction
    intro hne
    obtain ⟨b,off,vs,hz',_⟩:=hA hne
    rw [hz] at hz'
    cases hz'
   ·next e i n s hk hx hy =>
    split at hna
    ·next s' els k hl =>
     simp only [aZ,aJ] at hna
     obtain ⟨rfl,rfl⟩:=hna
     rw [hx] at hvx
     rw [hy] at hvy
     simp only [RA,hl] at hvx hvy
     have hv:=hvx.2.2 hc
     have hob:=h.objs i _ hl
     simp only [Hd] at hob
     rcases hob with ⟨_,h2,h3,_⟩|⟨bb,cap,cs,ty',_,h2,_⟩
     ·subst h3
      exact ⟨e,none,0,hk,by rw [hv,h2];rfl,hvy,fun _=>rfl⟩
     ·exact ⟨e,_,cap,hk,by rw [hv,h2],hvy,fun hz=>by cases hz⟩
    ·cases hna
   ·cases hna
  obtain ⟨dd,hd,hkd⟩:=K.1.kind hk rfl
  simp only [TK.is] at hkd
  obtain ⟨rfl,_⟩:=hkd
  have heq:∀ d:Nat,(Op.equalIn (d+1) t (.slice A l.length cc) (.slice none 0 0)).run P w=.ok A.isNone w:=fun d=>by cases A<;>simp [Op.equalIn,run_underlying hd]
  have run1:(Bd .eql t ox oy (a.eval ox) (a.eval oy)).run P w=.ok (.bool A.isNone) w:=by
   rw [hv,hvy']
   unfold Bd
   simp only [binOp]
   simp [eqGuard,Op.equal,Op.maxDepth,heq 9999]
  have run2:(Bd .neq t ox oy (a.eval ox) (a.eval oy)).run P w=.ok (.bool (!A.isNone)) w:=by
   rw [hv,hvy']
   unfold Bd
   simp only [binOp]
   simp [eqGuard,Op.equal,Op.maxDepth,heq 9999]
  have hnone':A.isNone=true→l=[]:=fun h=>hnone (by cases A with|none=>rfl|some _=>cases h)
  rcases hopb with ⟨rfl,rfl⟩|⟨rfl,rfl⟩
  ·cases hz:A.isNone with
   | true =>
    rw [hz] at run1
    exact Nc (st:=st) (s:=Bd .eql t ox oy (a.eval ox) (a.eval oy)) (by simp only [execOp,hop,Bd]) (Gv h run1 (by simp only [RA];exact R.bool)) (hn1 (hnone' hz))
   | false =>
    rw [hz] at run1
    exact Nc (st:=st) (s:=Bd .eql t ox oy (a.eval ox) (a.eval oy)) (by simp only [execOp,hop,Bd]) (Gv h run1 (by simp only [RA];exact R.bool)) hn2
  ·cases hz:A.isNone with
   | true =>
    rw [hz] at run2
    exact Nc (st:=st) (s:=Bd .neq t ox oy (a.eval ox) (a.eval oy)) (by simp only [execOp,hop,Bd]) (Gv h run2 (by simp only [RA];exact R.bool)) (hn1 (hnone' hz))
   | false =>
    rw [hz] at run2
    exact Nc (st:=st) (s:=Bd .neq t ox oy (a.eval ox) (a.eval oy)) (by simp only [execOp,hop,Bd]) (Gv h run2 (by simp only [RA];exact R.bool)) hn2
 unfold nilOf at hb
 split at hb
 ·next t ox oy ty hop =>
  split at hb
  ·split at hb
   ·split at hb
    ·next c' l' hna =>
     simp only [aZ,aJ] at hb
     obtain ⟨rfl,rfl,h3⟩:=hb
     exact key .eql t ox oy ty (.inl ⟨rfl,h3.symm⟩) hop hna
    ·cases hb
   ·cases hb
  ·cases hb
 ·next t ox oy ty hop =>
  split at hb
  ·split at hb
   ·split at hb
    ·next c' l' hna =>
     simp only [aZ,aJ] at hb
     obtain ⟨rfl,rfl,h3⟩:=hb
     exact key .neq t ox oy ty (.inr ⟨rfl,h3.symm⟩) hop hna
    ·cases hb
   ·cases hb
  ·cases hb
 ·cases hb
theorem D3 (K:Gu P C) {ops:List Oper} {N:AS→Prop} {Q:Exit→Act→World→Prop} (hQ:∀ st a w,SR base pass F0 st a w→N st→Q .normal a w) :
  ∀ (l:List Oper) (st:AS) (a:Act) (w:World),SR base pass F0 st a w→aOps C ops l N st→wpList P ops.toArray Q l a w
 | [],st,a,w,h,hn=>by
  simp only [aOps] at hn
  exact wpList_nil (hQ st a w h hn)
 | o::l,st,a,w,h,hn=>by
  simp only [aOps] at hn
  have exec:∀ st a w,SR base pass F0 st a w→aExec C o (aOps C ops l N) st→o.wp P a w (wpList P ops.toArray Q l) Q:=by
   intro st a w ⟨m,G,h⟩ he
   unfold aExec at he
   split at he
   ·next bc args hbo =>
    obtain ⟨x,rs,hok,hargs,hnd,hlen,hst,hfr,hk⟩:=he
    subst hargs
    refine bcall_wp K h hbo hok hnd hlen hst hfr (fun v w' m' G' hs' hz=>?_)
    refine D3 K hQ l _ _ _ ⟨m',G',?_⟩ hk
    have:=hs'.putO (t:=o.dst) hz
    unfold AS.put
    exact this
   ·split at he
    ·next i n b s els k hcu =>
     refine cut_wp K h hcu he.1 (fun v w' m' G' hs' hz=>?_)
     refine D3 K hQ l _ _ _ ⟨m',G',?_⟩ he.2
     have:=hs'.putO (t:=o.dst) hz
     unfold AS.put
     exact this
    ·split at he
     ·next c x os hs =>
      refine ext_wp K h hs he.1 (fun v w' m' G' hs' hz=>?_)
      refine D3 K hQ l _ _ _ ⟨m',G',?_⟩ he.2
      have:=hs'.putO (t:=o.dst) hz
      unfold AS.put
      exact this
     ·split at he
      ·next c ll b hni =>
       obtain ⟨he1,he2,he3⟩:=he
       refine nil_wp K h hni he1 (fun hnil v w' m' G' hs' hz=>?_) (fun v w' m' G' hs' hz=>?_)
       ·refine D3 K hQ l _ _ _ ⟨m',G',?_⟩ (he2 hnil)
        have:=hs'.putO (t:=o.dst) hz
        unfold AS.put
        exact this
       ·refine D3 K hQ l _ _ _ ⟨m',G',?_⟩ he3
        have:=hs'.putO (t:=o.dst) hz
        unfold AS.put
        exact this
      ·unfold aExecD at he
       split at he
       ·next c x os hs =>
        refine op_sound K h hs he.1 (fun v w' m' G' hs' hz=>?_)
        refine D3 K hQ l _ _ _ ⟨m',G',?_⟩ he.2
        have:=hs'.putO (t:=o.dst) hz
        unfold AS.put
        exact this
       ·exact he.elim
  unfold aOp at hn
  unfold wpList
  split at hn
  ·next hg =>
   rw [if_pos (by simp [Region.wanted,hg])]
   exact .inl (exec st a w h hn)
  ·next j want hg =>
   split at hn
   ·next t b hgo =>
    obtain ⟨m,G,hs⟩:=h
    have hy:=guard_yield hs hgo
    obtain ⟨g,g1,g2,g3,g4⟩:=guardOf_spec hgo
    have hsame:({ st with tmps:=st.tmps.set t (.d (.bool b)) }:AS)=st:=by rw [set_same g4 g3]
    by_cases hb:b=want
    ·rw [if_pos (by simp [Region.wanted,hg,hy,hb])]
     have:=hn.1 hb
     rw [←hb,hsame] at this
     exact .inl (exec st a w ⟨m,G,hs⟩ this)
    ·rw [if_neg (by simp [Region.wanted,hg,hy,hb])]
     have hb':b=!want:=by cases b<;>cases want<;>simp_all
     have:=hn.2 hb'
     rw [←hb',hsame] at this
     refine D3 K hQ l _ _ _ ⟨m,G,?_⟩ this
     have hp:=hs.putO (t:=o.dst) (x:=.d (.tup [])) (v:=undef) undef_ok
     unfold AS.put
     exact hp
   ·next hgo =>
    obtain ⟨m,G,hs⟩:=h
    have hy:=guard_und hs hgo
    rw [if_neg (by simp [Region.wanted,hg,hy])]
    refine D3 K hQ l _ _ _ ⟨m,G,?_⟩ hn
    have hp:=hs.putO (t:=o.dst) (x:=.d (.tup [])) (v:=undef) undef_ok
    unfold AS.put
    exact hp
   ·exact hn.elim
theorem maskOf_bit:∀ {es:List Edge} {acc:List Nat} {k:Nat},(maskOf es acc).testBit k=true→∃ e∈es,Region.binds .any e=true∧(e.on=k∨(acc.getD e.on 0).testBit k=true)
 | [],acc,k,h=>by simp [maskOf] at h
 | e::r,acc,k,h=>by
  simp only [maskOf] at h
  split at h
  ·next hb =>
   simp only [Nat.testBit_or,Bool.or_eq_true] at h
   rcases h with (h|h)|h
   ·rw [Nat.testBit_two_pow] at h
    exact ⟨e,by simp,hb,.inl (by simpa using h)⟩
   ·exact ⟨e,by simp,hb,.inr h⟩
   ·obtain ⟨e',h1,h2⟩:=maskOf_bit h
    exact ⟨e',List.mem_cons_of_mem _ h1,h2⟩
  ·obtain ⟨e',h1,h2⟩:=maskOf_bit h
   exact ⟨e',List.mem_cons_of_mem _ h1,h2⟩
theorem masksGo_spec:∀ (r:List Oper) (acc:List Nat),∃ l,masksGo r acc=acc++l∧l.length=r.length∧∀ (j:Nat) (o:Oper),r[j]?=some o→l[j]?=some (maskOf o.after.toList (acc++l.take j))
 | [],acc=>⟨[],by simp [masksGo],rfl,by simp⟩
 | o::r,acc=>by
  obtain ⟨l,h1,h2,h3⟩:=masksGo_spec r (acc++[maskOf o.after.toList acc])
  refine ⟨maskOf o.after.toList acc::l,by simp [masksGo,h1],by simp [h2],fun j x hj=>?_⟩
  cases j with
  | zero=>simp only [List.getElem?_cons_zero,aZ] at hj;subst hj;simp
  | succ j =>
   simp only [List.getElem?_cons_succ] at hj ⊢
   rw [h3 j x hj]
   simp
theorem masks_bit {ops:List Oper} {i k:Nat} {o:Oper} (ho:ops[i]?=some o) (h:((masks ops).getD i 0).testBit k=true) :
  ∃ e∈o.after.toList,Region.binds .any e=true∧(e.on=k∨(e.on<i∧((masks ops).getD e.on 0).testBit k=true)):=by
 obtain ⟨l,h1,h2,h3⟩:=masksGo_spec ops []
 have hm:masks ops=l:=by simpa [masks] using h1
 have hi:=h3 i o ho
 simp only [List.nil_append] at hi
 rw [hm,aY,hi] at h
 simp only [Option.getD_some] at h
 obtain ⟨e,g1,g2,g3⟩:=maskOf_bit h
 refine ⟨e,g1,g2,g3.elim (fun h=>.inl h) fun g=>.inr ?_⟩
 by_cases hlt:e.on<i
 ·refine ⟨hlt,?_⟩
  rw [hm]
  rw [aY,List.getElem?_take,if_pos hlt] at g
  rw [aY]
  exact g
 ·rw [aY,List.getElem?_take,if_neg hlt] at g
  simp at g
def Closed (ops:List Oper) (listed:Array Bool):Prop:=∀ i o,ops[i]?=some o→listed.getD i false=true→∀ e∈o.after.toList,Region.binds .any e=true→listed.getD e.on false=true
theorem anc_listed {ops:List Oper} {listed:Array Bool} (hc:Closed ops listed):∀ (n i:Nat),i≤n→∀ o,ops[i]?=some o→(∀ e∈o.after.toList,Region.binds .any e=true→listed.getD e.on false=true) →
  ∀ k,((masks ops).getD i 0).testBit k=true→listed.getD k false=true:=by
 intro n
 induction n with
 | zero =>
  intro i hi o ho he k hk
  obtain ⟨e,h1,h2,h3⟩:=masks_bit ho hk
  rcases h3 with rfl|⟨h3,_⟩
  ·exact he e h1 h2
  ·omega
 | succ n ih =>
  intro i hi o ho he k hk
  obtain ⟨e,h1,h2,h3⟩:=masks_bit ho hk
  rcases h3 with rfl|⟨h3,h4⟩
  ·exact he e h1 h2
  ·have hlt:i<ops.length:=(List.getElem?_eq_some_iff.1 ho).1
   have hoe:ops[e.on]?=some ops[e.on]:=aK (by omega)
   exact ih e.on (by omega) _ hoe (fun e' g1 g2=>hc e.on _ hoe (he e h1 h2) e' g1 g2) k h4
theorem edgesOk_spec:∀ {ops:List Oper} {n:Nat},edgesOk n ops=true→∀ i o,ops[i]?=some o→∀ e∈o.after.toList,Region.binds .any e=true→e.on<n+i
 | [],n,_,i,o,ho=>by simp at ho
 | x::r,n,h,i,o,ho=>by
  simp only [edgesOk,bX,List.all_eq_true,Bool.or_eq_true,Bool.not_eq_true',decide_eq_true_eq] at h
  cases i with
  | zero =>
   simp only [List.getElem?_cons_zero,aZ] at ho
   subst ho
   intro e he hb
   rcases h.1 e he with h1|h1
   ·rw [hb] at h1;cases h1
   ·exact h1
  | succ i =>
   simp only [List.getElem?_cons_succ] at ho
   intro e he hb
   have:=edgesOk_spec h.2 i o ho e he hb
   omega
theorem getD_two {l:Array Bool} {i:Nat} (h:i<l.size):l.getD i true=l.getD i false:=by simp [h]
theorem any_sound (K:Gu P C) (hC:C.dp=1) {ops:Array Oper} (hE:edgesOk 0 ops.toList=true) {N:Exit→Act→World→Prop}:∀ (n:Nat) (l:List (Nat×List Nat×Bool)) (listed:Array Bool) (s t:AS) (a:Act) (w:World),l.length=n →
  listed.size=ops.size→(∀ i,i<ops.size→(listed.getD i false=false↔∃ q∈l,q.1=i))→(∀ q∈l,q.1<ops.size)→(l.map (·.1)).Nodup→Closed ops.toList listed→Tr C ops.toList l s t →
  l.Pairwise (fun p q=>Indep ops.toList p q∨((masks ops.toList).getD q.1 0).testBit p.1=true)→SR base pass F0 s a w→(∀ a w,SR base pass F0 t a w→N .normal a w)→wpAny P .any ops N n listed a w:=by
 intro n
 induction n with
 | zero =>
  intro l listed s t a w hl hsz hun hlt hnd hcl htr hpw hs hN
  have:l=[]:=List.eq_nil_of_length_eq_zero hl
  subst this
  cases htr
  refine ⟨?_,hN a w hs⟩
  cases hr:Region.ready .any ops listed with
  | nil=>rfl
  | cons j r =>
   have hj:j∈Region.ready .any ops listed:=by rw [hr];simp
   obtain ⟨h1,o,ho,_⟩:=mem_ready.1 hj
   have hjl:j<ops.size:=(Array.getElem?_eq_some_iff.1 ho).1
   rw [getD_two (by omega)] at h1
   obtain ⟨q,hq,_⟩:=(hun j hjl).1 h1
   cases hq
 | succ n ih =>
  intro l listed s t a w hl hsz hun hlt hnd hcl htr hpw hs hN
  refine ⟨fun hnil=>?_,fun i hi=>?_⟩
  ·
   exfalso
   have ex:∀ m i,i≤m→i<ops.size→listed.getD i false=false→∃ j,j∈Region.ready .any ops listed:=by
    intro m
    induction m with
    | zero =>
     intro i him hil hu
     refine ⟨i,mem_ready.2 ⟨by rw [getD_two (by omega)];exact hu,ops[i],by simp [hil],fun e he hb=>?_⟩⟩
     have:=edgesOk_spec hE i ops[i] (by simp [hil]) e (by simpa using he) hb
     omega
    | succ m ihm =>
     intro i him hil hu
     by_cases hall:∀ e∈ops[i].after,Region.binds .any e=true→listed.getD e.on false=true
     ·exact ⟨i,mem_ready.2 ⟨by rw [getD_two (by omega)];exact hu,ops[i],by simp [hil],hall⟩⟩
     ·have:∃ e,e∈ops[i].after∧Region.binds .any e=true∧listed.getD e.on false=false:=by
       apply Classical.byContradiction
       intro hno
       apply hall
       intro e he hb
       cases hx:listed.getD e.on false with
       | true=>rfl
       | false=>exact absurd ⟨e,he,hb,hx⟩ hno
      obtain ⟨e,he,hb,hx⟩:=this
      have:=edgesOk_spec hE i ops[i] (by simp [hil]) e (by simpa using he) hb
      exact ihm e.on (by omega) (by omega) hx
   cases l with
   | nil=>simp at hl
   | cons q r =>
    have hq:=hlt q (by simp)
    obtain ⟨j,hj⟩:=ex q.1 q.1 (cZ _) hq ((hun q.1 hq).2 ⟨q,by simp,rfl⟩)
    rw [hnil] at hj
    cases hj
  ·obtain ⟨h1,o,ho,hall⟩:=mem_ready.1 hi
   have hil:i<ops.size:=(Array.getElem?_eq_some_iff.1 ho).1
   have hol:ops.toList[i]?=some o:=by simpa using ho
   rw [getD_two (by omega)] at h1
   obtain ⟨q,hq,rfl⟩:=(hun i hil).1 h1
   obtain ⟨l1,l2,rfl⟩:=List.append_of_mem hq
   have hind:∀ k∈l1,Indep ops.toList k q:=by
    intro k hk
    rcases (List.pairwise_append.1 hpw).2.2 k hk q (by simp) with h|h
    ·exact h
    ·exfalso
     have:=anc_listed hcl q.1 q.1 (cZ _) o hol (fun e he hb=>hall e (by simpa using he) hb) k.1 h
     have h2:=(hun k.1 (hlt k (by simp [hk]))).2 ⟨k,by simp [hk],rfl⟩
     rw [this] at h2
     cases h2
   obtain ⟨s1,t',hst,htr',hsame⟩:=htr.first hC hind
   have rest:∀ a w,SR base pass F0 s1 a w→wpAny P .any ops N n (listed.setIfInBounds q.1 true) a w:=by
    intro a w hs1
    have hnd':q.1∉(l1++l2).map (·.1):=by
     simp only [List.map_append,List.map_cons] at hnd
     have h2:=List.nodup_append.1 hnd
     have h3:=List.nodup_cons.1 h2.2.1
     simp only [List.map_append,List.mem_append,not_or]
     exact ⟨fun hx=>h2.2.2 q.1 hx q.1 (by simp) rfl,h3.1⟩
    refine ih (l1++l2) _ s1 t' a w (by simp at hl ⊢;omega) (by simpa using hsz) (fun i hi=>?_) (fun p hp=>hlt p (by simp at hp ⊢;rcases hp with hp|hp<;>simp [hp])) ?_ ?_ htr' ?_ hs1 (fun a w h=>hN a w (h.same hsame.symm))
    ·by_cases hiq:q.1=i
     ·subst hiq
      have:(listed.setIfInBounds q.1 true).getD q.1 false=true:=by simp [hsz,hi]
      rw [this]
      constructor
      ·intro h;cases h
      ·rintro ⟨p,hp,hpe⟩
       exact absurd (List.mem_map.2 ⟨p,hp,hpe⟩) hnd'
     ·rw [getD_set_ne false hiq,hun i hi]
      constructor
      ·rintro ⟨p,hp,rfl⟩
       refine ⟨p,?_,rfl⟩
       simp only [List.mem_append,bQ] at hp ⊢
       rcases hp with hp|rfl|hp
       ·exact .inl hp
       ·exact absurd rfl hiq
       ·exact .inr hp
      ·rintro ⟨p,hp,rfl⟩
       refine ⟨p,?_,rfl⟩
       simp only [List.mem_append,bQ] at hp ⊢
       rcases hp with hp|hp
       ·exact .inl hp
       ·exact .inr (.inr hp)
    ·simp only [List.map_append,List.map_cons] at hnd ⊢
     have h2:=List.nodup_append.1 hnd
     have h3:=List.nodup_cons.1 h2.2.1
     exact List.nodup_append.2 ⟨h2.1,h3.2,fun x hx y hy=>h2.2.2 x hx y (List.mem_cons_of_mem _ hy)⟩
    ·intro j oj hoj hlj e he hb
     by_cases hjq:q.1=j
     ·subst hjq
      rw [hol] at hoj
      injection hoj with hoj
      subst hoj
      exact getD_set_true (hall e (by simpa using he) hb)
     ·rw [getD_set_ne false hjq] at hlj
      exact getD_set_true (hcl j oj hoj hlj e he hb)
    ·have h2:=List.pairwise_append.1 hpw
     have h3:=List.pairwise_cons.1 h2.2.1
     exact List.pairwise_append.2 ⟨h2.1,h3.2,fun x hx y hy=>h2.2.2 x hx y (List.mem_cons_of_mem _ hy)⟩
   obtain ⟨o',ho',hstep⟩:=hst
   rw [hol] at ho'
   injection ho' with ho'
   subst ho'
   unfold wpOp
   simp only [ho]
   obtain ⟨m,G,hsg⟩:=hs
   rcases hstep with hstep|⟨hg,_,_,c,x,os,e1,hc,rfl⟩|⟨hg,_,bc,x,rs,⟨b1,b2,b3,b4,b5,b6,b7⟩,_,rfl⟩
   ·cases hgd:o.guard with
    | none=>simp only [hgd] at hstep
    | some jw =>
     obtain ⟨j,want⟩:=jw
     simp only [hgd] at hstep
     obtain ⟨g1,_,_,rfl⟩:=hstep
     have hw:¬ Region.wanted o (yielded ops a.tmps)=true:=by
      cases hgo:Ml ops.toList s j with
      | b t1 b =>
       rw [hgo] at g1
       have hy:=guard_yield hsg hgo
       have hy':yielded ops a.tmps j=some b:=by simpa using hy
       simp only [GV.skips] at g1
       simp [Region.wanted,hgd,hy',g1]
      | und =>
       have hy:=guard_und hsg hgo
       have hy':yielded ops a.tmps j=none:=by simpa using hy
       simp [Region.wanted,hgd,hy']
      | no=>rw [hgo] at g1;exact g1.elim
     rw [if_neg hw]
     refine rest _ _ ⟨m,G,?_⟩
     have hp:=hsg.putO (t:=o.dst) (x:=.d (.tup [])) (v:=undef) undef_ok
     unfold AS.put
     exact hp
   ·have hw:Region.wanted o (yielded ops a.tmps)=true:=by
     cases hgd:o.guard with
     | none=>simp [Region.wanted,hgd]
     | some jw =>
      obtain ⟨j,want⟩:=jw
      simp only [hgd] at hg
      cases hgo:Ml ops.toList s j with
      | b t1 b =>
       rw [hgo] at hg
       simp only [GV.runs] at hg
       subst hg
       have hy:=guard_yield hsg hgo
       have hy':yielded ops a.tmps j=some b:=by simpa using hy
       simp [Region.wanted,hgd,hy']
      | und=>rw [hgo] at hg;exact hg.elim
      | no=>rw [hgo] at hg;exact hg.elim
    rw [if_pos hw]
    refine .inl (op_sound K hsg e1 hc (fun v w' m' G' hs' hz=>rest _ _ ⟨m',G',?_⟩))
    have:=hs'.putO (t:=o.dst) hz
    unfold AS.put
    exact this
   ·have hw:Region.wanted o (yielded ops a.tmps)=true:=by
     cases hgd:o.guard with
     | none=>simp [Region.wanted,hgd]
     | some jw =>
      obtain ⟨j,want⟩:=jw
      simp only [hgd] at hg
      cases hgo:Ml ops.toList s j with
      | b t1 b =>
       rw [hgo] at hg
       simp only [GV.runs] at hg
       subst hg
       have hy:=guard_yield hsg hgo
       have hy':yielded ops a.tmps j=some b:=by simpa using hy
       simp [Region.wanted,hgd,hy']
      | und=>rw [hgo] at hg;exact hg.elim
      | no=>rw [hgo] at hg;exact hg.elim
    rw [if_pos hw]
    refine .inl (bcall_wp K hsg b1 b2 b3 b4 b6 b7 (fun v w' m' G' hs' hz=>rest _ _ ⟨m',G',?_⟩))
    have:=hs'.putO (t:=o.dst) hz
    unfold AS.put
    exact this
theorem fpsOk_spec {ms:List Nat}:∀ {acc:List (Nat×List Nat×Bool)},fpsOk ms acc=true→acc.Pairwise (fun q p=>(∀ k,k∈p.2.1→k∉q.2.1)∨(p.2.2=true∧q.2.2=true)∨(ms.getD q.1 0).testBit p.1=true)
 | [],_=>List.Pairwise.nil
 | (i,fi,ri)::r,h=>by
  simp only [fpsOk,bX,List.all_eq_true,Bool.or_eq_true] at h
  refine List.pairwise_cons.2 ⟨fun p hp=>?_,fpsOk_spec h.2⟩
  rcases h.1 p hp with (h1|h1)|h1
  ·exact .inr (.inr h1)
  ·refine .inl fun k hk hk2=>?_
   have:=h1 k hk2
   simp [hk] at this
  ·exact .inr (.inl ⟨h1.2,h1.1⟩)
theorem standAt_len {rs0:List Nat}:∀ {ks:List Nat} {l:List Obj} {o:Gb},Cl rs0 ks l o→l.length≤ks.length
 | _,[],_,_=>by simp
 | [],_::_,_,h=>by simp [Cl] at h
 | k::ks,x::l,o,h=>by
  simp only [Cl] at h
  have:=standAt_len h.2
  simp only [bJ];omega
theorem Ie {ops:List Oper} {Kp:AS→Prop}:∀ (r:List Oper) (i:Nat) (acc:List (Nat×List Nat×Bool)) (s:AS),(∀ j,r[j]?=ops[i+j]?)→Cd C ops i r acc Kp s →
  ∃ l t acc',Tr C ops l s t∧okD ops acc'=true∧Kp t∧l.map (·.1)=List.range' i r.length ∧
   (∃ d,acc'=d++acc∧d.reverse.Sublist l∧∀ q∈l,q∉d→q.2.1=[]∧q.2.2=true)
 | [],i,acc,s,_,h=>by
  simp only [Cd] at h
  exact ⟨[],s,acc,.nil s,h.1,h.2,rfl,[],rfl,List.Sublist.refl _,by simp⟩
 | o::r,i,acc,s,hr,h=>by
  have ho:ops[i]?=some o:=by have:=hr 0;simpa using this.symm
  have hr':∀ j,r[j]?=ops[i+1+j]?:=fun j=>by have:=hr (j+1);simpa [Nat.add_assoc,Nat.add_comm 1] using this
  have exec:∀ s,aExecB C o (fun fp ro=>Cd C ops (i+1) r ((i,fp,ro)::acc) Kp) s→(match o.guard with
    | none=>True
    | some (j,want)=>(Ml ops s j).runs want)→∃ l t acc',Tr C ops l s t∧okD ops acc'=true∧Kp t∧l.map (·.1)=List.range' i (o::r).length ∧
   (∃ d,acc'=d++acc∧d.reverse.Sublist l∧∀ q∈l,q∉d→q.2.1=[]∧q.2.2=true):=by
   intro s h hg
   unfold aExecB at h
   split at h
   ·next bc args hbo =>
    obtain ⟨x,rs,h1,rfl,h3,h4,h5,h6,h7⟩:=h
    obtain ⟨l,t,acc',k1,k2,k3,k4,d,k5,k6,k7⟩:=Ie r (i+1) _ _ hr' h7
    refine ⟨(i,rs.map (· % 4096),false)::l,t,acc',.cons ⟨o,ho,.inr (.inr ⟨hg,rfl,bc,x,rs,⟨hbo,h1,h3,h4,standAt_len h5,h5,h6⟩,rfl,rfl⟩)⟩ k1,k2,k3,by simp [k4,List.range'],d++[(i,rs.map (· % 4096),false)],by simp [k5],by simpa using k6,fun q hq hqd=>?_⟩
    simp only [List.mem_append,bW,not_or] at hqd
    rcases List.mem_cons.1 hq with rfl|hq
    ·exact absurd rfl hqd.2
    ·exact k7 q hq hqd.1
   ·split at h
    ·next c x os hs =>
     obtain ⟨l,t,acc',k1,k2,k3,k4,d,k5,k6,k7⟩:=Ie r (i+1) _ _ hr' h.2
     refine ⟨(i,Iz C o s,roOf o.op)::l,t,acc',.cons ⟨o,ho,.inr (.inl ⟨hg,rfl,rfl,c,x,os,hs,h.1,rfl⟩)⟩ k1,k2,k3,by simp [k4,List.range'],d++[(i,Iz C o s,roOf o.op)],by simp [k5],by simpa using k6,fun q hq hqd=>?_⟩
     simp only [List.mem_append,bW,not_or] at hqd
     rcases List.mem_cons.1 hq with rfl|hq
     ·exact absurd rfl hqd.2
     ·exact k7 q hq hqd.1
    ·exact h.elim
  simp only [Cd] at h
  split at h
  ·next hg=>exact exec s h (by simp only [hg])
  ·next j want hg =>
   split at h
   ·next t b hgo =>
    obtain ⟨g,g1,g2,g3,g4⟩:=guardOf_spec hgo
    have hsame:({ s with tmps:=s.tmps.set t (.d (.bool b)) }:AS)=s:=by rw [set_same g4 g3]
    by_cases hb:b=want
    ·have:=h.1 hb
     rw [←hb,hsame] at this
     exact exec s this (by simp only [hg,hgo,GV.runs];exact hb)
    ·have hb':b=!want:=by cases b<;>cases want<;>simp_all
     have:=h.2 hb'
     rw [←hb',hsame] at this
     obtain ⟨l,t',acc',k1,k2,k3,k4,d,k5,k6,k7⟩:=Ie r (i+1) _ _ hr' this
     refine ⟨(i,[],true)::l,t',acc',.cons ⟨o,ho,.inl ?_⟩ k1,k2,k3,by simp [k4,List.range'],d,k5,k6.cons _,fun q hq hqd=>?_⟩
     ·simp only [hg,hgo]
      exact ⟨hb,by simp⟩
     ·rcases List.mem_cons.1 hq with rfl|hq
      ·exact ⟨rfl,rfl⟩
      ·exact k7 q hq hqd
   ·next hgo =>
    obtain ⟨l,t',acc',k1,k2,k3,k4,d,k5,k6,k7⟩:=Ie r (i+1) _ _ hr' h
    refine ⟨(i,[],true)::l,t',acc',.cons ⟨o,ho,.inl ?_⟩ k1,k2,k3,by simp [k4,List.range'],d,k5,k6.cons _,fun q hq hqd=>?_⟩
    ·simp only [hg,hgo]
     exact ⟨trivial,by simp⟩
    ·rcases List.mem_cons.1 hq with rfl|hq
     ·exact ⟨rfl,rfl⟩
     ·exact k7 q hq hqd
   ·exact h.elim
theorem slotsOk_spec {ops:List Oper} (h:slotsOk ops=true) {i k:Nat} {x y:Oper} (hk:ops[k]?=some x) (hi:ops[i]?=some y) (hlt:k<i):((masks ops).getD i 0).testBit k=true∨slotsApart ops x y=true:=by
 simp only [slotsOk,List.all_eq_true,List.mem_range,Bool.or_eq_true] at h
 have:=h i (List.getElem?_eq_some_iff.1 hi).1 k hlt
 rw [hk,hi] at this
 exact this
theorem draw_sound (K:Gu P C) (hC:C.dp=1) {ops:Array Oper} {N:AS→Prop} {Q:Exit→Act→World→Prop} (hQ:∀ st a w,SR base pass F0 st a w→N st→Q .normal a w) {s:AS} (h:SR base pass F0 s a w)
  (hn:Cd C ops.toList 0 ops.toList [] N s):wpAny P .any ops Q ops.size (Array.replicate ops.size false) a w:=by
 obtain ⟨l,t,d,k1,k2,k3,k4,d',k5,k6,k7⟩:=Ie ops.toList 0 [] s (fun j=>by simp) hn
 simp only [List.append_nil] at k5
 subst k5
 simp only [okD,bX] at k2
 obtain ⟨⟨e1,e2⟩,e3⟩:=k2
 have hlen:l.length=ops.size:=by have:=congrArg List.length k4;simpa using this
 have hmem:∀ i,(∃ q∈l,q.1=i)↔i<ops.size:=by
  intro i
  have:i∈l.map (·.1)↔i<ops.size:=by rw [k4];simp
  rw [←this,List.mem_map]
 have hnd:(l.map (·.1)).Nodup:=by rw [k4,←List.range_eq_range'];exact List.nodup_range
 refine any_sound K hC e1 ops.size l _ s t a w hlen (by simp) (fun i hi=>?_) (fun q hq=>(hmem q.1).1 ⟨q,hq,rfl⟩) hnd (fun i o ho hl=>?_) k1 ?_ h (fun a w hs=>hQ t a w hs k3)
 ·simp [hi,hmem i]
 ·rcases Nat.lt_or_ge i ops.size with hlt|hge
  ·simp [hlt] at hl
  ·simp [Nat.not_lt.2 hge] at hl
 ·
  have hord:l.Pairwise (fun p q=>p.1<q.1):=by
   have:(l.map (·.1)).Pairwise (·<·):=by rw [k4,←List.range_eq_range'];exact List.pairwise_lt_range
   exact List.pairwise_map.1 this
  have hfp:=fpsOk_spec e3
  have hd:d.reverse.Pairwise (fun p q=>(∀ k,k∈p.2.1→k∉q.2.1)∨(p.2.2=true∧q.2.2=true)∨((masks ops.toList).getD q.1 0).testBit p.1=true):=List.pairwise_reverse.2 hfp
  have hall:∀ p∈l,∀ q∈l,p.1<q.1→(∀ k,k∈p.2.1→k∉q.2.1)∨(p.2.2=true∧q.2.2=true)∨((masks ops.toList).getD q.1 0).testBit p.1=true:=by
   intro p hp q hq hlt
   by_cases hpd:p∈d
   ·by_cases hqd:q∈d
    ·
     have hs:d.reverse.Pairwise (fun p q=>p.1<q.1):=hord.sublist k6
     have both:∀ {R:Nat×List Nat×Bool→Nat×List Nat×Bool→Prop} {L:List (Nat×List Nat×Bool)},L.Pairwise R→L.Pairwise (fun p q=>p.1<q.1)→∀ p∈L,∀ q∈L,p.1<q.1→R p q:=by
      intro R L
      induction L with
      | nil=>intro _ _ p hp;cases hp
      | cons x L ihL =>
       intro h1 h2 p hp q hq hlt
       rw [List.pairwise_cons] at h1 h2
       rcases List.mem_cons.1 hp with hpx|hp'
       ·rcases List.mem_cons.1 hq with hqx|hq'
        ·subst hpx;subst hqx;omega
        ·subst hpx;exact h1.1 q hq'
       ·rcases List.mem_cons.1 hq with hqx|hq'
        ·subst hqx;have:=h2.1 p hp';omega
        ·exact ihL h1.2 h2.2 p hp' q hq' hlt
     exact both hd hs p (by simpa using hpd) q (by simpa using hqd) hlt
    ·obtain ⟨q1,_⟩:=k7 q hq hqd
     exact .inl fun k _ hk=>by rw [q1] at hk;cases hk
   ·obtain ⟨q1,_⟩:=k7 p hp hpd
    exact .inl fun k hk=>by rw [q1] at hk;cases hk
  refine hord.imp_of_mem fun {p q} hp hq hlt=>?_
  have hpl:=(hmem p.1).1 ⟨p,hp,rfl⟩
  have hql:=(hmem q.1).1 ⟨q,hq,rfl⟩
  rcases slotsOk_spec e2 (k:=p.1) (i:=q.1) (x:=ops[p.1]) (y:=ops[q.1]) (by simp [hpl]) (by simp [hql]) hlt with hb|hap
  ·exact .inr hb
  ·rcases hall p hp q hq hlt with h1|h1|h1
   ·refine .inl ⟨fun x y hx hy=>?_,.inl h1⟩
    have hx':ops[p.1]=x:=by simpa [hpl] using hx
    have hy':ops[q.1]=y:=by simpa [hql] using hy
    rw [←hx',←hy']
    exact hap
   ·refine .inl ⟨fun x y hx hy=>?_,.inr h1⟩
    have hx':ops[p.1]=x:=by simpa [hpl] using hx
    have hy':ops[q.1]=y:=by simpa [hql] using hy
    rw [←hx',←hy']
    exact hap
   ·exact .inr h1
theorem SR.drew (h:SR base pass F0 st a w):SR base pass F0 st a { w with drawn:=w.drawn+1 }:=by
 obtain ⟨m,G,h⟩:=h
 exact ⟨m,G,h.drew⟩
def exitOf:AExit→Exit
 | .normal=>.normal
 | .exit id=>.exit id
 | .ret=>.ret
theorem WkP_sound:∀ {ks:List Nat} {st st':AS} {m:Nat→Nat} {G:Gh},SRg base pass F0 m G st a w→WkP ks st st'→∃ m' G',SRg base pass F0 m' G' st' a w
 | [],st,st',m,G,h,hw=>⟨m,_,h.weak hw⟩
 | k::ks,st,st',m,G,h,hw=>by
  simp only [WkP] at hw
  cases hp:pur 60 (st.tmps.getD k .dead) st.objs with
  | none=>rw [hp] at hw;exact hw.elim
  | some p =>
   obtain ⟨c,y,os⟩:=p
   rw [hp] at hw
   simp only at hw
   obtain ⟨hc,hw⟩:=hw
   have hk:k<st.tmps.length:=by
    refine Nat.lt_of_not_le fun hk=>?_
    rw [aY,List.getElem?_eq_none hk,Option.getD_none] at hp
    simp [pur] at hp
   have hx:st.tmps[k]?=some (st.tmps.getD k .dead):=by
    rw [aY,aK hk,Option.getD_some]
   obtain ⟨v,hv,hr⟩:=RAs.at h.tmps hx
   obtain ⟨m',h',_,_,hy⟩:=R8 h hp hc hr
   refine WkP_sound (m:=m') (G:=G) ?_ hw
   have ht:RAs ⟨w,m'⟩ G (lk os) (st.tmps.set k (.d y)) (a.tmps.toList.set k v):=RAs.set h'.tmps (by simpa only [RA] using hy)
   have hvs:a.tmps.toList.set k v=a.tmps.toList:=by
    have hl:k<a.tmps.toList.length:=by
     refine Nat.lt_of_not_le fun hn=>?_
     rw [List.getElem?_eq_none hn] at hv
     cases hv
    rw [aK hl] at hv
    injection hv with hv
    rw [←hv,List.set_getElem_self]
   rw [hvs] at ht
   exact ⟨h'.defers,ht,h'.objs,h'.apart,h'.mine,h'.frame,h'.old,h'.new,h'.small,h'.lent⟩
theorem Aw (K:Gu P C):∀ (c:Code) {N:AExit→AS→Prop} {Q:Exit→Act→World→Prop} {st:AS} {a:Act} {w:World},
  (∀ e st a w,SR base pass F0 st a w→N e st→Q (exitOf e) a w)→SR base pass F0 st a w→awp C c N st→c.wp P Q a w
 | .skip,N,Q,st,a,w,hQ,h,hn=>wp_skip (hQ .normal st a w h hn)
 | .region id ops false,N,Q,st,a,w,hQ,h,hn=>by
  simp only [awp] at hn
  refine wp_region_list ?_
  have:=D3 (P:=P) K (Q:=Q) (hQ .normal) ops.toList st a w h hn
  simpa using this
 | .region id ops true,N,Q,st,a,w,hQ,h,hn=>by
  simp only [awp] at hn
  refine wp_region_any K.2.2.1 (draw_sound (C:=C.one) ⟨K.1,K.2.1,K.2.2.1,K.2.2.2⟩ rfl (hQ .normal) h.drew hn)
 | .seq x y,N,Q,st,a,w,hQ,h,hn=>by
  simp only [awp] at hn
  refine wp_seq (Aw K x ?_ h hn)
  intro e st a w hs he
  cases e with
  | normal=>exact Aw K y hQ hs he
  | exit id=>exact hQ (.exit id) st a w hs he
  | ret=>exact hQ .ret st a w hs he
 | .cond c x y,N,Q,st,a,w,hQ,h,hn=>by
  simp only [awp] at hn
  split at hn
  ·next b hb =>
   obtain ⟨m,G,hs⟩:=h
   have hr:=Sd (C:=C) (hint:=0) hs.tmps c
   rw [hb] at hr
   simp only [RA] at hr
   have hv:=hr.of_bool hn.1
   exact wp_cond_split hv (fun ht=>Aw K x hQ ⟨m,G,hs⟩ (hn.2.1 ht)) (fun hf=>Aw K y hQ ⟨m,G,hs⟩ (hn.2.2 hf))
  ·exact hn.elim
 | .block id c,N,Q,st,a,w,hQ,h,hn=>by
  simp only [awp] at hn
  refine wp_block (Aw K c ?_ h hn)
  intro e st a w hs he
  cases e with
  | normal=>exact hQ .normal st a w hs he
  | exit id' =>
   simp only [aBlock] at he
   simp only [exitOf,Exit.inBlock]
   split
   ·next hid=>rw [if_pos hid] at he;exact hQ .normal st a w hs he
   ·next hid=>rw [if_neg hid] at he;exact hQ (.exit id') st a w hs he
  | ret=>exact hQ .ret st a w hs he
 | .loop c,N,Q,st,a,w,hQ,h,hn=>by
  simp only [awp] at hn
  obtain ⟨α,inv,ok,μ,rel,hrel,⟨x0,hw0,hok0⟩,hround⟩:=hn
  obtain ⟨m,G,hs⟩:=h
  obtain ⟨ks,hw0⟩:=hw0
  obtain ⟨m,G,hs⟩:=WkP_sound hs hw0
  refine wp_loop_ghost (fun n a w=>∃ x,ok x∧μ x=n∧SR base pass F0 (inv x) a w) (μ x0) ⟨x0,hok0,rfl,m,G,hs⟩ ?_
  rintro n a w ⟨x,hok,rfl,hsx⟩
  refine Aw K c ?_ hsx (hround x hok)
  intro e st a w hs he
  cases e with
  | normal =>
   obtain ⟨x',hw',hok',hlt⟩:=he
   obtain ⟨m',G',hs'⟩:=hs
   obtain ⟨m2,G2,hs2⟩:=hs'.back (hrel _ _ hw')
   exact ⟨μ x',hlt,x',hok',rfl,m2,G2,hs2⟩
  | exit id=>exact hQ (.exit id) st a w hs he
  | ret=>exact hQ .ret st a w hs he
 | .exit id,N,Q,st,a,w,hQ,h,hn=>wp_exit (hQ (.exit id) st a w h hn)
 | .ret,N,Q,st,a,w,hQ,h,hn=>wp_ret (hQ .ret st a w h hn)
 | .rangeFunc ..,_,_,_,_,_,_,_,hn=>by simp [awp] at hn
 | .scope _,_,_,_,_,_,_,_,hn=>by simp [awp] at hn
 | .label _,_,_,_,_,_,_,_,hn=>by simp [awp] at hn
 | .goto _,_,_,_,_,_,_,_,hn=>by simp [awp] at hn
 | .refuse _,_,_,_,_,_,_,_,hn=>by simp [awp] at hn
end
def resAV (C:Ctx) (st:AS):ResultVar→Option (Prop×AV)
 | .tmp t=>some (True,st.tmps.getD t .dead)
 | .cell t T=>match hLoad C T (st.tmps.getD t .dead) st.objs with
  | some (c,x,_)=>some (c,x)
  | none=>none
def resAll (C:Ctx) (st:AS):List ResultVar→Option (Prop×List AV)
 | []=>some (True,[])
 | r::rs=>match resAV C st r,resAll C st rs with
  | some (c,x),some (c',l)=>some (c∧c',x::l)
  | _,_=>none
def retOk (C:Ctx) (rs:List ResultVar) (outs:List Bool) (r:CV) (st:AS):Prop:=match resAll C st rs with
 | some (c,xs)=>match Sk C outs xs st.objs with
  | some (c',cvs,_)=>c∧c'∧match cvs with
   | [x]=>x=r
   | l=>CV.tup l=r
  | none=>False
 | none=>False
def Post (C:Ctx) (rs:List ResultVar) (outs:List Bool) (r:CV):AExit→AS→Prop
 | .exit _,_=>False
 | _,st=>retOk C rs outs r st
def Lb:Nat→List CV→List AV×Gb
 | _,[]=>([],[])
 | k,.d x::r=>(.d x::(Lb (k+1) r).1,(Lb (k+1) r).2)
 | k,.own s l::r=>(.sl k l.length::(Lb (k+1) r).1,(k,.row s l 0)::(Lb (k+1) r).2)
 | k,.tup _::r=>(.dead::(Lb (k+1) r).1,(Lb (k+1) r).2)
def deads:Nat→List AV
 | 0=>[]
 | n+1=>.dead::deads n
def beginAS (n:Nat) (cvs:List CV):AS:=⟨(Lb 80000 cvs).1++deads (n-cvs.length),(Lb 80000 cvs).2⟩
theorem upd_new:∀ {o:Gb} {k:Nat} {x:Obj},lk o k=none→upd o k x=o++[(k,x)]
 | [],_,_,_=>rfl
 | (j,p)::r,k,x,h=>by
  simp only [lk] at h
  by_cases hkj:k=j
  ·rw [if_pos hkj] at h;cases h
  ·rw [if_neg hkj] at h
   simp only [upd,if_neg hkj,List.cons_append,upd_new h]
theorem begin_sound {base:Nat} {pass:Nat→Prop} {F0:Anc} {m:Nat→Nat} {w:World}:∀ {cvs:List CV} {vs:List Value} {k:Nat} {os:Gb} {G:Gh},SRg base pass F0 m G ⟨[],os⟩ ⟨#[],[]⟩ w→Dc ⟨w,m⟩ cvs vs→(Hb cvs vs).Nodup →
  (∀ b∈Hb cvs vs,(base≤b∨pass b)∧∀ i oi,lk os i=some oi→oi.owns=true→G.γ i≠some b)→(∀ j,k≤j→lk os j=none) →
  ∃ G',Db G (lk os) G' (lk (os++(Lb k cvs).2))∧SRg base pass F0 m G' ⟨[],os++(Lb k cvs).2⟩ ⟨#[],[]⟩ w∧RAs ⟨w,m⟩ G' (lk (os++(Lb k cvs).2)) (Lb k cvs).1 vs
 | [],vs,k,os,G,h,hc,_,_,_=>by
  simp only [Dc] at hc
  subst hc
  simp only [Lb,List.append_nil]
  exact ⟨G,Db.refl _ _,h,by simp [RAs]⟩
 | .tup l::cvs,vs,k,os,G,h,hc,_,_,_=>by
  simp only [Dc,CVR] at hc
  obtain ⟨_,_,_,hf,_⟩:=hc
  exact hf.elim
 | .d x::cvs,vs,k,os,G,h,hc,hn,hb,hk=>by
  simp only [Dc,CVR] at hc
  obtain ⟨v,r,rfl,hx,hxs⟩:=hc
  obtain ⟨G',q1,q2,q3⟩:=begin_sound (k:=k+1) h hxs (by simpa [Hb] using hn) (fun b hbb=>hb b (by simpa [Hb] using hbb)) (fun j hj=>hk j (by omega))
  simp only [Lb]
  refine ⟨G',q1,q2,?_⟩
  simp only [RAs,RA]
  exact ⟨v,r,rfl,hx,q3⟩
 | .own s l::cvs,vs,k,os,G,h,hc,hn,hb,hk=>by
  simp only [Dc,CVR] at hc
  obtain ⟨v,r,rfl,hx,hxs⟩:=hc
  have hsplit:Hb (.own s l::cvs) (v::r)=v.ownBlock.toList++Hb cvs r:=rfl
  rw [hsplit] at hn hb
  obtain ⟨n1,n2,n3⟩:=List.nodup_append.1 hn
  have hk0:=hk k (cZ _)
  obtain ⟨G1,q1,q2,q3,q4,q5⟩:=h.adopt hk0 hx (fun b hbb=>hb b (List.mem_append_left _ (by simp [hbb])))
  rw [upd_new hk0] at q1 q2 q3
  obtain ⟨G',p1,p2,p3⟩:=begin_sound (k:=k+1) (os:=os++[(k,.row s l 0)]) q2 hxs n2 (fun b hbb=>by
   refine ⟨(hb b (List.mem_append_right _ hbb)).1,fun i oi hi ho hg=>?_⟩
   rw [←upd_new hk0,Bm] at hi
   by_cases hik:i=k
   ·subst hik
    exact n3 b (by simp [q5 b hg]) b hbb rfl
   ·rw [if_neg hik] at hi
    rw [q4 i hik] at hg
    exact (hb b (List.mem_append_right _ hbb)).2 i oi hi ho hg) (fun j hj=>by
   rw [←upd_new hk0,Bm,if_neg (by omega)]
   exact hk j (by omega))
  simp only [Lb]
  simp only [List.append_assoc,List.singleton_append] at p1 p2 p3
  refine ⟨G',?_,p2,?_⟩
  ·intro j o hj
   obtain ⟨oa,a1,a2,a3⟩:=q1 j o hj
   obtain ⟨ob,b1,b2,b3⟩:=p1 j oa a1
   refine ⟨ob,b1,fun hbx=>?_,fun s' els' k' he=>?_⟩
   ·obtain ⟨u1,u2⟩:=b2 hbx
    obtain ⟨u3,u4⟩:=a2 u1
    exact ⟨u3,u2.trans u4⟩
   ·obtain ⟨els1,kk1,e1,e2,e3⟩:=b3 s' els' k' he
    obtain ⟨els2,kk2,f1,f2,f3⟩:=a3 s' els1 kk1 e1
    refine ⟨els2,kk2,f1,Nat.le_trans f2 e2,fun hl=>?_⟩
    obtain ⟨u1,u2⟩:=e3 (by omega)
    obtain ⟨u3,u4⟩:=f3 (by omega)
    exact ⟨u1.trans u3,u2.trans u4⟩
  ·simp only [RAs]
   exact ⟨v,r,rfl,RA.mono (Fix.le_refl _) p1 q3,p3⟩
theorem Dc.length {F:Fix}:∀ {l:List CV} {vs:List Value},Dc F l vs→vs.length=l.length
 | [],_,h=>by simp only [Dc] at h;simp [h]
 | _::l,_,h=>by
  simp only [Dc] at h
  obtain ⟨v,r,rfl,_,h3⟩:=h
  simp [Dc.length h3]
theorem deads_sound {F:Fix} {G:Gh} {L:Nat→Option Obj}:∀ n,RAs F G L (deads n) (List.replicate n undef)
 | 0=>by simp [deads,RAs]
 | n+1=>by simp only [deads,List.replicate_succ,RAs,RA];exact ⟨undef,_,rfl,trivial,deads_sound n⟩
def resSem (a:Act):ResultVar→Sem Value
 | .tmp t=>pure (a.tmps.getD t undef)
 | .cell t T=>do loadVar T (←asAddr (a.tmps.getD t undef))
theorem run_resSem {P:Program} {w:World} {T:TypeId} {v v':Value} (h:(Instr.loadAt T v).run P w=.ok v' w):(do loadVar T (←asAddr v):Sem Value).run P w=.ok v' w:=by
 cases v with
 | pointer a =>
  cases a with
  | none=>simp [Instr.loadAt,Instr.sureAddr] at h
  | some a=>simpa [Instr.loadAt,Instr.sureAddr,asAddr] using h
 | _=>simp [Instr.loadAt,Instr.sureAddr] at h
section
variable {P:Program} {C:Ctx} {base:Nat} {pass:Nat→Prop} {F0:Anc} {m:Nat→Nat} {G:Gh} {st:AS} {a:Act} {w:World}
theorem resAV_sound (T:B8 P C.τ) (h:SRg base pass F0 m G st a w) {r:ResultVar} {c:Prop} {x:AV}
  (hr:resAV C st r=some (c,x)) (hc:c):∃ v,(resSem a r).run P w=.ok v w∧RA ⟨w,m⟩ G (lk st.objs) x v:=by
 cases r with
 | tmp t =>
  simp only [resAV,aZ,aJ] at hr
  obtain ⟨rfl,rfl⟩:=hr
  exact ⟨_,rfl,Sd (C:=C) (hint:=0) h.tmps (.tmp t)⟩
 | cell t T' =>
  simp only [resAV] at hr
  split at hr
  ·next c1 y os hl =>
   simp only [aZ,aJ] at hr
   obtain ⟨rfl,rfl⟩:=hr
   have hp:=Sd (C:=C) (hint:=0) h.tmps (.tmp t)
   obtain ⟨_,v,r1,r2⟩:=load_ok (P:=P) T h hp hl hc
   exact ⟨v,run_resSem r1,r2⟩
  ·cases hr
theorem resAll_sound (T:B8 P C.τ) (h:SRg base pass F0 m G st a w):∀ {rs:List ResultVar} {c:Prop} {xs:List AV},resAll C st rs=some (c,xs)→c →
  ∃ vs,(rs.mapM (resSem a)).run P w=.ok vs w∧RAs ⟨w,m⟩ G (lk st.objs) xs vs
 | [],c,xs,hr,hc=>by
  simp only [resAll,aZ,aJ] at hr
  obtain ⟨rfl,rfl⟩:=hr
  exact ⟨[],by simp,by simp [RAs]⟩
 | r::rs,c,xs,hr,hc=>by
  simp only [resAll] at hr
  split at hr
  ·next c1 x c2 l h1 h2 =>
   simp only [aZ,aJ] at hr
   obtain ⟨rfl,rfl⟩:=hr
   obtain ⟨v,e1,e2⟩:=resAV_sound T h h1 hc.1
   obtain ⟨vs,g1,g2⟩:=resAll_sound T h h2 hc.2
   refine ⟨v::vs,by simp [List.mapM_cons,e1,g1],?_⟩
   simp only [RAs]
   exact ⟨v,vs,rfl,e2,g2⟩
  ·cases hr
def packs:List Value→Value
 | [v]=>v
 | vs=>.tuple vs.toArray
theorem run_results {fn:Func} {vs:List Value} (h:(fn.results.toList.mapM (resSem a)).run P w=.ok vs w):(results fn a.tmps).run P w=.ok (packs vs) w:=by
 have e:results fn a.tmps=(do
   let us ←List.toArray <$> fn.results.toList.mapM (resSem a)
   pure (if h:us.size=1 then us[0] else .tuple us)):=by
  unfold results
  congr 1
  rw [Array.mapM_eq_mapM_toList]
  rfl
 rw [e]
 simp only [Sem.run_bind,Sem.run_map,h,Result.andThen_ok,Sem.run_pure]
 match vs with
 | []=>simp [packs]
 | [v]=>simp [packs]
 | _::_::_=>simp [packs]
theorem Kn (K:Gu P C) {f:FuncId} {fn:Func} {c:Code} {con:Con} (hf:P.funcs[f]?=some fn) (hb:fn.body=some c) (rs:List ResultVar) (hrs:fn.results.toList=rs) (nt:Nat) (hnt:fn.ntmps=nt)
  (h:∀ cvs,con.pre cvs→awp C c (Post C rs con.outs (con.fn cvs)) (beginAS nt cvs)):Sound P f con:=by
 intro m w cvs vs hpre hcv hnd hnew
 subst hnt
 subst hrs
 refine calls_of_wp hf hb ?_
 have hlt:∀ (l:List CV) (us:List Value),Dc ⟨w,m⟩ l us→∀ b∈Hb l us,b<w.heap.size:=by
  intro l
  induction l with
  | nil=>intro us hu b hb;simp [Hb] at hb
  | cons x l ih =>
   intro us hu b hb
   simp only [Dc] at hu
   obtain ⟨u,r,rfl,hx1,hxs1⟩:=hu
   have hsplit:Hb (x::l) (u::r)=Hb [x] [u]++Hb l r:=by cases x<;>simp [Hb]
   rw [hsplit] at hb
   rcases List.mem_append.1 hb with hb|hb
   ·cases x with
    | own s els =>
     simp [Hb] at hb
     exact (OwnV.lt hx1 hb).1
    | _=>simp [Hb] at hb
   ·exact ih r hxs1 b hb
 have h0:SRg w.heap.size (·∈Hb cvs vs) ⟨⟨w,m⟩,⟨fun _=>none,fun _=>undef⟩,fun _=>none⟩ m ⟨fun _=>none,fun _=>undef⟩ ⟨[],[]⟩ ⟨#[],[]⟩ w :=
  ⟨rfl,by simp [RAs],fun i o hi=>by simp [lk] at hi,fun i j oi oj b hi=>by simp [lk] at hi,fun i o b hi=>by simp [lk] at hi,Frame.refl _ _ _,fun _ _ _=>rfl,hnew,cZ _,fun i o hi=>by cases hi⟩
 obtain ⟨G,q1,q2,q3⟩:=begin_sound (k:=80000) (os:=[]) h0 hcv hnd (fun b hb=>⟨.inr hb,fun i oi hi=>by simp [lk] at hi⟩) (fun _ _=>rfl)
 simp only [List.nil_append] at q1 q2 q3
 have hlen:=Dc.length hcv
 have hs:SRg w.heap.size (·∈Hb cvs vs) ⟨⟨w,m⟩,⟨fun _=>none,fun _=>undef⟩,fun _=>none⟩ m G (beginAS fn.ntmps cvs) { tmps:=vs.toArray++Array.replicate (fn.ntmps-vs.toArray.size) undef,defers:=[] } w:=by
  refine ⟨rfl,?_,q2.objs,q2.apart,q2.mine,q2.frame,q2.old,q2.new,q2.small,q2.lent⟩
  have:=RAs.append q3 (deads_sound (F:=⟨w,m⟩) (G:=G) (L:=lk (Lb 80000 cvs).2) (fn.ntmps-cvs.length))
  simpa [beginAS,hlen] using this
 have fin:∀ (st:AS) (a:Act) (w':World),SR w.heap.size (·∈Hb cvs vs) ⟨⟨w,m⟩,⟨fun _=>none,fun _=>undef⟩,fun _=>none⟩ st a w'→retOk C fn.results.toList con.outs (con.fn cvs) st →
   a.defers=[]∧∃ v,(results fn a.tmps).run P w'=.ok v w'∧∃ u m',Ending.returned v=.returned u∧Frame w.heap.size (·∈Hb cvs vs) w w'∧(∀ b,b<w.heap.size→b∉Hb cvs vs→m' b=m b) ∧
    (∀ b,w'.heap.size≤b→m' b=0)∧Res ⟨w',m'⟩ w.heap.size (·∈Hb cvs vs) (con.fn cvs) u:=by
  intro st a w' ⟨m1,G1,hs1⟩ hret
  unfold retOk at hret
  split at hret
  ·next c1 xs hra =>
   split at hret
   ·next c2 cvs2 os hin =>
    obtain ⟨hc1,hc2,hfin⟩:=hret
    obtain ⟨us,e1,e2⟩:=resAll_sound K.1 hs1 hra hc1
    obtain ⟨m2,k1,k2,k3,k4,k5⟩:=inArgs_sound hs1 hin hc2 e2
    refine ⟨hs1.defers,_,run_results e1,_,m2,rfl,k1.frame,fun b hb hnb=>k1.old b hb hnb,k1.new,?_⟩
    split at hfin
    ·next x =>
     simp only [Dc] at k3
     obtain ⟨v,r,rfl,hx,rfl⟩:=k3
     rw [←hfin]
     cases x with
     | tup l=>simp [CVR] at hx
     | d x =>
      simp only [Res]
      exact ⟨⟨v,[],rfl,hx,rfl⟩,fun b hb=>(k5 b hb).1⟩
     | own s l =>
      simp only [Res]
      exact ⟨⟨v,[],rfl,hx,rfl⟩,fun b hb=>(k5 b hb).1⟩
    ·next hne =>
     rw [←hfin]
     simp only [Res]
     refine ⟨us,?_,k3,k4,fun b hb=>(k5 b hb).1⟩
     match us,Dc.length k3 with
     | [u],hl =>
      match cvs2,hl with
      | [x],_=>exact absurd rfl (hne x)
     | [],_=>rfl
     | _::_::_,_=>rfl
   ·exact hret.elim
  ·exact hret.elim
 refine Aw K c ?_ ⟨m,G,hs⟩ (h cvs hpre)
 intro e st a w' hsr hpost
 cases e with
 | normal=>exact fin st a w' hsr hpost
 | ret=>exact fin st a w' hsr hpost
 | exit id=>exact hpost.elim
end
mutual
def zD:D→Value→Bool
 | .int k n,.int k' n'=>k==k'&&n==n'
 | .bool b,.bool b'=>b==b'
 | .str s,.string b=>s==b.data.toList
 | .nilf,.nilFunc=>true
 | .nilp,.pointer none=>true
 | .nilm,.map none=>true
 | .list _ l,.slice none 0 0=>l.isEmpty
 | .agg l,.agg cs=>zDs l cs.toList&&cs.toList.all (·.oneCell')
 | _,_=>false
def zDs:List D→List Value→Bool
 | [],[]=>true
 | x::l,v::vs=>zD x v&&zDs l vs
 | _,_=>false
end
mutual
def zA:AV→Value→Bool
 | .d x,v=>zD x v
 | .nils _,.slice none 0 0=>true
 | .agg l,.agg cs=>zAs l cs.toList&&cs.toList.all (·.oneCell')
 | _,_=>false
def zAs:List AV→List Value→Bool
 | [],[]=>true
 | x::l,v::vs=>zA x v&&zAs l vs
 | _,_=>false
end
mutual
theorem zD_sound:∀ {x:D} {v:Value},zD x v=true→∀ F,R F x v
 | .int k n,v,h,F=>by
  cases v<;>simp only [zD,bK,bX,cQ] at h
  simp only [R];rw [h.1,h.2]
 | .bool b,v,h,F=>by
  cases v<;>simp only [zD,bK,cQ] at h
  simp only [R];rw [h]
 | .str s,v,h,F=>by
  cases v<;>simp only [zD,bK,cQ] at h
  simp only [R];rw [h]
 | .nilf,v,h,F=>by
  cases v<;>simp only [zD,bK] at h
  simp only [R]
 | .nilm,v,h,F=>by
  cases v with
  | map a=>cases a<;>simp only [zD,bK] at h;simp only [R]
  | _=>simp only [zD,bK] at h
 | .nilp,v,h,F=>by
  cases v with
  | pointer a=>cases a<;>simp only [zD,bK] at h;simp only [R]
  | _=>simp only [zD,bK] at h
 | .list s l,v,h,F=>by
  cases v with
  | slice A n c =>
   cases A with
   | some A=>simp only [zD,bK] at h
   | none =>
    cases n with
    | succ n=>simp only [zD,bK] at h
    | zero =>
     cases c with
     | succ c=>simp only [zD,bK] at h
     | zero =>
      simp only [zD,List.isEmpty_iff] at h
      subst h
      simp only [R]
      exact ⟨none,0,rfl,by simp,by simp [maxLen],by simp⟩
  | _=>simp only [zD,bK] at h
 | .agg l,v,h,F=>by
  cases v with
  | agg cs =>
   simp only [zD,bX,List.all_eq_true] at h
   simp only [R]
   exact ⟨cs.toList,by simp,zDs_sound h.1 F,h.2⟩
  | _=>simp only [zD,bK] at h
 | .tup l,v,h,F=>by cases v<;>simp only [zD,bK] at h
 | .ptr s x,v,h,F=>by cases v<;>simp only [zD,bK] at h
 | .clo f l,v,h,F=>by cases v<;>simp only [zD,bK] at h
theorem zDs_sound:∀ {l:List D} {vs:List Value},zDs l vs=true→∀ F,Rs F l vs
 | [],vs,h,F=>by
  cases vs with
  | nil=>simp only [Rs]
  | cons=>simp only [zDs,bK] at h
 | x::l,vs,h,F=>by
  cases vs with
  | nil=>simp only [zDs,bK] at h
  | cons v vs =>
   simp only [zDs,bX] at h
   simp only [Rs]
   exact ⟨v,vs,rfl,zD_sound h.1 F,zDs_sound h.2 F⟩
end
mutual
theorem zA_sound:∀ {x:AV} {v:Value},zA x v=true→∀ F G L,RA F G L x v
 | .d x,v,h,F,G,L=>by
  simp only [zA] at h
  simp only [RA]
  exact zD_sound h F
 | .nils s,v,h,F,G,L=>by
  cases v with
  | slice A n c =>
   cases A with
   | some A=>simp only [zA,bK] at h
   | none =>
    cases n with
    | succ n=>simp only [zA,bK] at h
    | zero =>
     cases c with
     | succ c=>simp only [zA,bK] at h
     | zero=>simp only [RA]
  | _=>simp only [zA,bK] at h
 | .agg l,v,h,F,G,L=>by
  cases v with
  | agg cs =>
   simp only [zA,bX,List.all_eq_true] at h
   simp only [RA]
   exact ⟨cs.toList,by simp,zAs_sound h.1 F G L,h.2⟩
  | _=>simp only [zA,bK] at h
 | .ref ..,v,h,F,G,L=>by cases v<;>simp only [zA,bK] at h
 | .rref ..,v,h,F,G,L=>by cases v<;>simp only [zA,bK] at h
 | .sl ..,v,h,F,G,L=>by cases v<;>simp only [zA,bK] at h
 | .sb ..,v,h,F,G,L=>by cases v<;>simp only [zA,bK] at h
 | .mpr ..,v,h,F,G,L=>by cases v<;>simp only [zA,bK] at h
 | .tup ..,v,h,F,G,L=>by cases v<;>simp only [zA,bK] at h
 | .clo ..,v,h,F,G,L=>by cases v<;>simp only [zA,bK] at h
 | .dead,v,h,F,G,L=>by cases v<;>simp only [zA,bK] at h
theorem zAs_sound:∀ {l:List AV} {vs:List Value},zAs l vs=true→∀ F G L,RAs F G L l vs
 | [],vs,h,F,G,L=>by
  cases vs with
  | nil=>simp only [RAs]
  | cons=>simp only [zAs,bK] at h
 | x::l,vs,h,F,G,L=>by
  cases vs with
  | nil=>simp only [zAs,bK] at h
  | cons v vs =>
   simp only [zAs,bX] at h
   simp only [RAs]
   exact ⟨v,vs,rfl,zA_sound h.1 F G L,zAs_sound h.2 F G L⟩
end
def fieldsB (P:Program):List Field→List (Nat×Nat)→Bool
 | [],[]=>true
 | f::l,p::r=>f.offset==p.1&&((P.info? f.type).map (·.size)==some p.2)&&decide (0<p.2)&&(p.2 != 1||(match P.underlying f.type with|some d=>plainDesc d|none=>false))&&fieldsB P l r
 | _,_=>false
theorem fieldsB_sound {P:Program}:∀ {l:List Field} {r:List (Nat×Nat)},fieldsB P l r=true→r.length=l.length∧∀ (j:Nat) (f:Field) (p:Nat×Nat),l[j]?=some f→r[j]?=some p →
  f.offset=p.1∧(P.info? f.type).map (·.size)=some p.2∧0<p.2∧(p.2=1→∃ d',P.underlying f.type=some d'∧plainDesc d'=true)
 | [],[],_=>⟨rfl,fun j f p h=>by simp at h⟩
 | [],_::_,h=>by simp [fieldsB] at h
 | _::_,[],h=>by simp [fieldsB] at h
 | f::l,p::r,h=>by
  simp only [fieldsB,bX,cQ,decide_eq_true_eq,Bool.or_eq_true,bne_iff_ne] at h
  obtain ⟨⟨⟨⟨h1,h2⟩,h3⟩,h4⟩,h5⟩:=h
  obtain ⟨g1,g2⟩:=fieldsB_sound h5
  refine ⟨by simp [g1],fun j f' p' hj hp=>?_⟩
  cases j with
  | zero =>
   simp only [List.getElem?_cons_zero,aZ] at hj hp
   subst hj;subst hp
   refine ⟨h1,h2,h3,fun he=>?_⟩
   rcases h4 with h4|h4
   ·exact absurd he h4
   ·split at h4
    ·next d hd=>exact ⟨d,hd,h4⟩
    ·cases h4
  | succ j =>
   simp only [List.getElem?_cons_succ] at hj hp
   exact g2 j f' p' hj hp
def kindB (P:Program) (τ:Nat→TI):TK→TypeDesc→Bool
 | .int k,.int k'=>k==k'
 | .bool,.bool=>true
 | .str,.string=>true
 | .slice e,.slice e'=>e==e'&&(τ e).kind.ag.isSome
 | .struct fs,.struct fields=>fieldsB P fields.toList fs
 | .array n e,.array n' e'=>n==n'&&e==e'&&(τ e).kind.ag==some false
 | .ptr e,.pointer e'=>e==e'
 | .map k e,.map k' e'=>k==k'&&e==e'
 | .func,.func ..=>true
 | _,_=>false
theorem kindB_sound {P:Program} {τ:Nat→TI} {k:TK} {d:TypeDesc} (h:kindB P τ k d=true):k.is P τ d:=by
 cases k<;>cases d<;>simp only [kindB,bK,cQ,bX] at h<;>simp only [TK.is]
 case int.int=>rw [h]
 case slice.slice=>exact ⟨by rw [h.1],h.2⟩
 case struct.struct fs fields =>
  obtain ⟨g1,g2⟩:=fieldsB_sound h
  exact ⟨fields,rfl,by simpa using g1,fun j f p hj hp=>g2 j f p (by simpa using hj) hp⟩
 case array.array=>exact ⟨by rw [h.1.1,h.1.2],h.2⟩
 case ptr.pointer=>rw [h]
 case map.map=>rw [h.1,h.2]
 case func.func a b c=>exact ⟨a,b,c,rfl⟩
def SK.sameB:SK→TypeDesc→Bool
 | .int k,.int k'=>k==k'
 | .bool,.bool=>true
 | .str,.string=>true
 | _,_=>false
def eqFsB (P : Program) : Nat → List Field → List SK → Bool
  | _, [], [] => true
  | j, f :: fs, k :: ks => (f.name != "_") && f.offset == j && (match P.underlying f.type with
    | some d => k.sameB d
    | none => false) && eqFsB P (j + 1) fs ks
  | _, _, _ => false
def eqB (P:Program) (t:Nat):List SK→Bool
 | []=>true
 | ks=>(match P.underlying t with
  | some (.struct _)=>true
  | _=>false)&&!P.stoodInHeld t&&!P.eqGuardType P.depth t&&eqFsB P 0 (P.fieldsOf t).toList ks
theorem eqFsB_sound {P:Program}:∀ {j:Nat} {fs:List Field} {ks:List SK},eqFsB P j fs ks=true→eqFs P j fs ks
 | _,[],[],_=>trivial
 | _,[],_::_,h=>by simp [eqFsB] at h
 | _,_::_,[],h=>by simp [eqFsB] at h
 | j,f::fs,k::ks,h=>by
  simp only [eqFsB,bX,bne_iff_ne,cQ] at h
  obtain ⟨⟨⟨h1,h2⟩,h3⟩,h4⟩:=h
  refine ⟨h1,h2,?_,eqFsB_sound h4⟩
  split at h3
  ·next d hd =>
   rw [hd]
   cases k<;>cases d<;>simp only [SK.sameB,bK,cQ] at h3<;>first|rfl|(subst h3;rfl)
  ·cases h3
theorem eqB_sound {P:Program} {t:Nat} {ks:List SK} (h:eqB P t ks=true) (hk:ks≠[]):EqOk P t ks:=by
 cases ks with
 | nil=>exact absurd rfl hk
 | cons k ks =>
  simp only [eqB,bX,Bool.not_eq_true'] at h
  obtain ⟨⟨⟨h1,h2⟩,h3⟩,h4⟩:=h
  refine ⟨?_,h2,h3,eqFsB_sound h4⟩
  unfold Program.fieldsOf
  split at h1
  ·next fs he=>simp [he]
  ·cases h1
def tyB (P:Program) (τ:Nat→TI) (t:Nat) (ti:TI):Bool:=match P.underlying t,P.info? t with
 | some d,some i=>kindB P τ ti.kind d&&i.size==ti.size&&i.bytes==ti.bytes&&decide (0<ti.size)&&eqB P t ti.eqk&&(match i.zero with
  | some z=>zA ti.zero z&&zD ti.zd z&&z.cells.size==ti.size&&z.cells.toList.all (·.oneCell')
  | none=>false)
 | _,_=>false
theorem tyB_sound {P:Program} {τ:Nat→TI} {t:Nat} (h:tyB P τ t (τ t)=true):TyOk P τ t:=by
 unfold tyB at h
 split at h
 ·next d i hd hi =>
  simp only [bX,cQ,decide_eq_true_eq] at h
  obtain ⟨⟨⟨⟨⟨h1,h2⟩,h3⟩,h4⟩,hq⟩,h5⟩:=h
  split at h5
  ·next z hz =>
   simp only [bX,cQ,List.all_eq_true] at h5
   obtain ⟨⟨⟨g1,g2⟩,g3⟩,g4⟩:=h5
   exact ⟨⟨d,hd,kindB_sound h1⟩,⟨i,z,hi,h2,h3,hz,zA_sound g1,zD_sound g2,g3,g4⟩,h4,eqB_sound hq⟩
  ·cases h5
 ·cases h
def lkT:List (Nat×TI)→Nat→TI
 | [],_=>⟨.other,0,0,.dead,.nilp,[]⟩
 | (j,x)::r,i=>if i=j then x else lkT r i
theorem lkT_mem:∀ {tt:List (Nat×TI)} {t:Nat},(lkT tt t).kind.ag.isSome=true→(t,lkT tt t)∈tt
 | [],t,h=>by simp [lkT,TK.ag] at h
 | (j,x)::r,t,h=>by
  simp only [lkT] at h ⊢
  by_cases htj:t=j
  ·subst htj
   simp
  ·rw [if_neg htj] at h ⊢
   exact List.mem_cons_of_mem _ (lkT_mem h)
theorem tabOk_of {P:Program} {tt:List (Nat×TI)} (h:tt.all (fun p=>tyB P (lkT tt) p.1 p.2)=true):B8 P (lkT tt):=by
 intro t ht
 exact tyB_sound (List.all_eq_true.1 h _ (lkT_mem ht))
theorem Ke {P : Program} {f : FuncId} {fn : Func} (hf : P.funcs[f]? = some fn) (h1 : (fn.name == "runtime.NumGoroutine") = false) (h2 : fn.body.isNone = false) : Enters P f := by
  intro args w
  have h1' : ¬ fn.name = "runtime.NumGoroutine" := by simpa using h1
  have h2' : ¬ fn.body = none := by
    intro h
    rw [h] at h2
    simp at h2
  simp [callFunc,hf,h1',h2']
class Enc (α:Type) where
 enc:α→D
 dec:D→α
 dec_enc:∀ a,dec (enc a)=a
open Enc (enc dec)
def isE (α:Type) [Enc α] (x:D):Prop:=x=enc (dec x:α)
theorem Cp {α:Type} [Enc α] (a:α):isE α (enc a):=by unfold isE;rw [Enc.dec_enc]
instance encInt:Enc Int:=⟨.int .i64,D.i,fun _=>rfl⟩
instance encBool:Enc Bool:=⟨.bool,D.b,fun _=>rfl⟩
instance encStr:Enc (List UInt8):=⟨.str,D.s,fun _=>rfl⟩
class Sz (α:Type) where
 sz:Nat
instance szInt:Sz Int:=⟨1⟩
instance szBool:Sz Bool:=⟨1⟩
instance szStr:Sz (List UInt8):=⟨1⟩
structure Sl (α:Type) where
 l:List α
instance encSl {α:Type} [Enc α] [Sz α]:Enc (Sl α):=⟨fun a=>.list (Sz.sz α) (a.l.map enc),fun x=>⟨x.l.map dec⟩,fun a=>by
 show Sl.mk ((a.l.map enc).map dec)=a
 rw [List.map_map]
 have:(dec∘enc:α→α)=id:=funext fun x=>Enc.dec_enc x
 rw [this,List.map_id]⟩
instance szSl {α:Type}:Sz (Sl α):=⟨1⟩
section
variable {k k':IntKind} {n:Int} {s s':Nat} {l:List D} {b:Bool} {x:D} {bs:List UInt8} {f:Nat}
theorem i_int:D.i (.int k n)=n:=rfl
theorem b_bool:D.b (.bool b)=b:=rfl
theorem s_str:D.s (.str bs)=bs:=rfl
theorem l_list:D.l (.list s l)=l:=rfl
theorem isInt_int:D.isInt k (.int k' n)=(k'=k):=rfl
theorem isBool_bool:D.isBool (.bool b)=True:=rfl
theorem isStr_str:D.isStr (.str bs)=True:=rfl
theorem isList_list:D.isList s (.list s' l)=(s'=s):=rfl
theorem I7:D.isAnyInt (.int k n)=True:=rfl
theorem fits_int:D.fits s (.int k n)=(s=1):=rfl
theorem fits_bool:D.fits s (.bool b)=(s=1):=rfl
theorem fits_str:D.fits s (.str bs)=(s=1):=rfl
theorem fits_list:D.fits s (.list s' l)=(s=1):=rfl
theorem fits_agg:D.fits s (.agg l)=(l.length=s):=rfl
theorem fits_ptr:D.fits s (.ptr s' x)=(s=1):=rfl
theorem fits_clo:D.fits s (.clo s' l)=(s=1):=rfl
theorem fits_nilp:D.fits s .nilp=(s=1):=rfl
theorem fits_nilf:D.fits s .nilf=(s=1):=rfl
theorem cell_int:D.cell (.int k n) f=.int k n:=rfl
theorem cell_bool:D.cell (.bool b) f=.bool b:=rfl
theorem cell_str:D.cell (.str bs) f=.str bs:=rfl
theorem cell_list:D.cell (.list s l) f=.list s l:=rfl
theorem cell_clo:D.cell (.clo s l) f=.clo s l:=rfl
theorem cell_ptr:D.cell (.ptr s x) f=.ptr s x:=rfl
theorem cell_agg:D.cell (.agg l) f=l.getD f .nilp:=rfl
theorem i_enc {n:Int}:D.i (enc n)=n:=rfl
theorem b_enc {n:Bool}:D.b (enc n)=n:=rfl
theorem s_enc {n:List UInt8}:D.s (enc n)=n:=rfl
theorem isInt_enc {n:Int}:D.isInt k (enc n)=(.i64=k):=rfl
theorem isBool_enc {n:Bool}:D.isBool (enc n)=True:=rfl
theorem isStr_enc {n:List UInt8}:D.isStr (enc n)=True:=rfl
theorem fits_encI {n:Int}:D.fits s (enc n)=(s=1):=rfl
theorem cell_encI {n:Int}:D.cell (enc n) f=enc n:=rfl
theorem fits_encB {n:Bool}:D.fits s (enc n)=(s=1):=rfl
theorem cell_encB {n:Bool}:D.cell (enc n) f=enc n:=rfl
theorem fits_encS {n:List UInt8}:D.fits s (enc n)=(s=1):=rfl
theorem cell_encS {n:List UInt8}:D.cell (enc n) f=enc n:=rfl
theorem isAnyInt_enc {n:Int}:D.isAnyInt (enc n)=True:=rfl
section
variable {α:Type} [Enc α] [Sz α] {a:Sl α}
theorem l_enc:D.l (enc a)=a.l.map enc:=rfl
theorem isList_enc:D.isList s (enc a)=(Sz.sz α=s):=rfl
theorem fits_encL:D.fits s (enc a)=(s=1):=rfl
theorem cell_encL:D.cell (enc a) f=enc a:=rfl
end
theorem dec_int:(dec (.int k n):Int)=n:=rfl
theorem dec_bool:(dec (.bool b):Bool)=b:=rfl
theorem dec_str:(dec (.str bs):List UInt8)=bs:=rfl
theorem dec_encE {α:Type} [Enc α] (a:α):(dec (enc a):α)=a:=Enc.dec_enc a
theorem isE_int:isE Int (.int .i64 n)=True:=eq_true rfl
theorem isE_bool:isE Bool (.bool b)=True:=eq_true rfl
theorem isE_str:isE (List UInt8) (.str bs)=True:=eq_true rfl
theorem isE_encE {α:Type} [Enc α] (a:α):isE α (enc a)=True:=eq_true (Cp a)
section
variable {α:Type} [Enc α] [Sz α]
theorem Ha:(dec (.list s l):Sl α)=⟨l.map dec⟩:=rfl
theorem Hc:isE (Sl α) (.list s l)=(s=Sz.sz α∧∀ y∈l,isE α y):=by
 apply propext
 unfold isE
 constructor
 ·intro h
  have h':D.list s l=D.list (Sz.sz α) ((l.map (dec:D→α)).map enc):=h
  injection h' with h1 h2
  refine ⟨h1,fun y hy=>?_⟩
  rw [List.map_map] at h2
  have h3:l.map id=l.map ((enc:α→D)∘dec):=by rw [List.map_id];exact h2
  exact List.map_inj_left.1 h3 y hy
 ·rintro ⟨rfl,h⟩
  show D.list (Sz.sz α) l=D.list (Sz.sz α) ((l.map (dec:D→α)).map enc)
  rw [List.map_map]
  congr 1
  conv=>lhs;rw [←List.map_id l]
  exact List.map_congr_left fun y hy=>h y hy
end
end
theorem isE_map {α:Type} [Enc α] {l:List α}:(∀ y∈l.map enc,isE α y)=True:=eq_true (by
 intro y hy
 obtain ⟨a,_,rfl⟩:=List.mem_map.1 hy
 exact Cp a)
theorem Pf {α:Type} [Enc α] {l:List α}:(l.map enc).map (dec:D→α)=l:=by
 rw [List.map_map]
 have:(dec∘enc:α→α)=id:=funext fun x=>Enc.dec_enc x
 rw [this,List.map_id]
theorem Hf {a b:Int}:(ltB a b=true)=(a<b):=by simp [ltB]
theorem Hm {a b:Int}:(ltB a b=false)=(b≤a):=by simp [ltB]
theorem G4 {a b:Int}:(leB a b=true)=(a≤b):=by simp [leB]
theorem leB_false {a b:Int}:(leB a b=false)=(b<a):=by simp [leB]
theorem szI:Sz.sz Int=1:=rfl
theorem szB:Sz.sz Bool=1:=rfl
theorem szS:Sz.sz (List UInt8)=1:=rfl
theorem szL {α:Type}:Sz.sz (Sl α)=1:=rfl
theorem boolE {b b':Bool}:(D.bool b=enc b')=(b=b'):=propext ⟨fun h=>by have h':D.bool b=D.bool b':=h;injection h',fun h=>by rw [h];rfl⟩
theorem intE {b b':Int}:(D.int .i64 b=enc b')=(b=b'):=propext ⟨fun h=>by have h':D.int .i64 b=D.int .i64 b':=h;injection h',fun h=>by rw [h];rfl⟩
theorem strE {b b':List UInt8}:(D.str b=enc b')=(b=b'):=propext ⟨fun h=>by have h':D.str b=D.str b':=h;injection h',fun h=>by rw [h];rfl⟩
theorem listE {α:Type} [Enc α] [Sz α] {s:Nat} {l:List D} {a:Sl α}:(D.list s l=enc a)=(s=Sz.sz α∧l=a.l.map enc):=propext ⟨fun h=>by have h':D.list s l=D.list (Sz.sz α) (a.l.map enc):=h;injection h' with h1 h2;exact ⟨h1,h2⟩,fun h=>by rw [h.1,h.2];rfl⟩
theorem encE {α:Type} [Enc α] {a b:α}:(enc a=enc b)=(a=b):=propext ⟨fun h=>by rw [←Enc.dec_enc a,h,Enc.dec_enc],fun h=>by rw [h]⟩
theorem SlE {α:Type} {a b:List α}:(Sl.mk a=Sl.mk b)=(a=b):=propext ⟨fun h=>by injection h,fun h=>by rw [h]⟩
@[simp] theorem encI_def {n:Int}:(enc n:D)=.int .i64 n:=rfl
@[simp] theorem encB_def {n:Bool}:(enc n:D)=.bool n:=rfl
@[simp] theorem encS_def {n:List UInt8}:(enc n:D)=.str n:=rfl
theorem all_of_lt {α:Type} {l:List α} {p:α→Bool} (d:α) (h:∀ j,j<l.length→p (l.getD j d)=true):l.all p=true:=by
 rw [List.all_eq_true]
 intro x hx
 obtain ⟨j,hj,rfl⟩:=List.getElem_of_mem hx
 have:=h j hj
 simpa [hj] using this
theorem all_not {α:Type} {l:List α} {p:α→Bool} (d:α) (j:Nat) (hj:j<l.length) (h:p (l.getD j d)=false):l.all p=false:=by
 cases hc:l.all p with
 | false=>rfl
 | true =>
  rw [List.all_eq_true] at hc
  have:=hc (l.getD j d) (by simp [hj])
  rw [h] at this
  cases this
theorem any_at {α:Type} {l:List α} {p:α→Bool} (d:α) (j:Nat) (hj:j<l.length) (h:p (l.getD j d)=true):l.any p=true:=by
 rw [List.any_eq_true]
 exact ⟨l.getD j d,by simp [hj],h⟩
theorem any_not {α:Type} {l:List α} {p:α→Bool} (d:α) (h:∀ j,j<l.length→p (l.getD j d)=false):l.any p=false:=by
 cases hc:l.any p with
 | false=>rfl
 | true =>
  rw [List.any_eq_true] at hc
  obtain ⟨x,hx,hp⟩:=hc
  obtain ⟨j,hj,rfl⟩:=List.getElem_of_mem hx
  have:=h j hj
  simp [hj,hp] at this
theorem el_map {α:Type} {f:α→D} {l:List α} {i:Nat} (d:α) (h:i<l.length):el (l.map f) i=f (l.getD i d):=by
 simp [el,h]
theorem Uk {n:Int}:inR .i64 n↔-9223372036854775808≤n∧n≤9223372036854775807:=by
 unfold inR
 constructor<;>intro h<;>simpa [IntKind.min,IntKind.max,IntKind.bits,IntKind.signed] using h
def L9 {A B:Type} [Enc A] [Enc B] (p:A→Prop) (f:A→B):Con:=⟨[false],[false],fun c=>match c with
 | [.d x]=>isE A x∧p (dec x)
 | _=>False,fun c=>match c with
 | [.d x]=>.d (enc (f (dec x)))
 | _=>.d .nilp⟩
theorem oV:type_of% @L9.eq_def:=@L9.eq_def
def Ms {A B R:Type} [Enc A] [Enc B] [Enc R] (p:A→B→Prop) (f:A→B→R):Con:=⟨[false,false],[false],fun c=>match c with
 | [.d x,.d y]=>isE A x∧isE B y∧p (dec x) (dec y)
 | _=>False,fun c=>match c with
 | [.d x,.d y]=>.d (enc (f (dec x) (dec y)))
 | _=>.d .nilp⟩
theorem mQ:type_of% @Ms.eq_def:=@Ms.eq_def
def Lr {A B C R:Type} [Enc A] [Enc B] [Enc C] [Enc R] (p:A→B→C→Prop) (f:A→B→C→R):Con:=⟨[false,false,false],[false],fun c=>match c with
 | [.d x,.d y,.d z]=>isE A x∧isE B y∧isE C z∧p (dec x) (dec y) (dec z)
 | _=>False,fun c=>match c with
 | [.d x,.d y,.d z]=>.d (enc (f (dec x) (dec y) (dec z)))
 | _=>.d .nilp⟩
theorem mK:type_of% @Lr.eq_def:=@Lr.eq_def
def con2t {A B R S:Type} [Enc A] [Enc B] [Enc R] [Enc S] (p:A→B→Prop) (f:A→B→R×S):Con:=⟨[false,false],[false,false],fun c=>match c with
 | [.d x,.d y]=>isE A x∧isE B y∧p (dec x) (dec y)
 | _=>False,fun c=>match c with
 | [.d x,.d y]=>.tup [.d (enc (f (dec x) (dec y)).1),.d (enc (f (dec x) (dec y)).2)]
 | _=>.d .nilp⟩
def Kl {A B C R S:Type} [Enc A] [Enc B] [Enc C] [Enc R] [Enc S] (p:A→B→C→Prop) (f:A→B→C→R×S):Con:=⟨[false,false,false],[false,false],fun c=>match c with
 | [.d x,.d y,.d z]=>isE A x∧isE B y∧isE C z∧p (dec x) (dec y) (dec z)
 | _=>False,fun c=>match c with
 | [.d x,.d y,.d z]=>.tup [.d (enc (f (dec x) (dec y) (dec z)).1),.d (enc (f (dec x) (dec y) (dec z)).2)]
 | _=>.d .nilp⟩
theorem lQ:type_of% @Kl.eq_def:=@Kl.eq_def
def Em {R:Type} [Enc R] (r:R):Con:=⟨[],[false],fun c=>match c with
 | []=>True
 | _=>False,fun _=>.d (enc r)⟩
theorem oQ:type_of% @Em.eq_def:=@Em.eq_def
theorem Mt {A B:Type} [Enc A] [Enc B] {p:A→Prop} {f:A→B} {c:List CV} (h:(L9 p f).pre c):∃ a,c=[.d (enc a)]∧p a:=by
 unfold L9 at h
 simp only at h
 split at h
 ·next x=>exact ⟨dec x,by rw [←h.1],h.2⟩
 ·exact h.elim
theorem Bb {A B R:Type} [Enc A] [Enc B] [Enc R] {p:A→B→Prop} {f:A→B→R} {c:List CV} (h:(Ms p f).pre c):∃ a b,c=[.d (enc a),.d (enc b)]∧p a b:=by
 unfold Ms at h
 simp only at h
 split at h
 ·next x y=>exact ⟨dec x,dec y,by rw [←h.1,←h.2.1],h.2.2⟩
 ·exact h.elim
theorem Is {A B C R:Type} [Enc A] [Enc B] [Enc C] [Enc R] {p:A→B→C→Prop} {f:A→B→C→R} {c:List CV} (h:(Lr p f).pre c):∃ a b d,c=[.d (enc a),.d (enc b),.d (enc d)]∧p a b d:=by
 unfold Lr at h
 simp only at h
 split at h
 ·next x y z=>exact ⟨dec x,dec y,dec z,by rw [←h.1,←h.2.1,←h.2.2.1],h.2.2.2⟩
 ·exact h.elim
theorem con2t_pre {A B R S:Type} [Enc A] [Enc B] [Enc R] [Enc S] {p:A→B→Prop} {f:A→B→R×S} {c:List CV} (h:(con2t p f).pre c):∃ a b,c=[.d (enc a),.d (enc b)]∧p a b:=by
 unfold con2t at h
 simp only at h
 split at h
 ·next x y=>exact ⟨dec x,dec y,by rw [←h.1,←h.2.1],h.2.2⟩
 ·exact h.elim
theorem El {A B C R S:Type} [Enc A] [Enc B] [Enc C] [Enc R] [Enc S] {p:A→B→C→Prop} {f:A→B→C→R×S} {c:List CV} (h:(Kl p f).pre c):∃ a b d,c=[.d (enc a),.d (enc b),.d (enc d)]∧p a b d:=by
 unfold Kl at h
 simp only at h
 split at h
 ·next x y z=>exact ⟨dec x,dec y,dec z,by rw [←h.1,←h.2.1,←h.2.2.1],h.2.2.2⟩
 ·exact h.elim
theorem con0_pre {R:Type} [Enc R] {r:R} {c:List CV} (h:(Em r).pre c):c=[]:=by
 unfold Em at h
 simp only at h
 split at h
 ·rfl
 ·exact h.elim
def lkC:List (Nat×Con)→Nat→Option Con
 | [],_=>none
 | (j,x)::r,i=>if i=j then some x else lkC r i
def Hg (P:Program) (p:Nat×Con):Prop:=Enters P p.1∧Sound P p.1 p.2
def lkB:List (Nat×BCon)→Nat→Option BCon
 | [],_=>none
 | (j,x)::r,i=>if i=j then some x else lkB r i
def GoodB (P:Program) (p:Nat×BCon):Prop:=Enters P p.1∧SoundB P p.1 p.2
theorem Ko {P:Program} {τ:Nat→TI} {l:List (Nat×Con)} {n:Nat} (hT:B8 P τ) (hm:P.follows .mixedOrders=true) (h:∀ p∈l,Hg P p) {lb:List (Nat×BCon)} (hb:∀ p∈lb,GoodB P p:=by simp) {cu:List Nat} {wr:Bool}:Gu P ⟨τ,lkC l,n,lkB lb,cu,wr⟩:=by
 refine ⟨hT,fun f con hf=>?_,hm,fun f bc hf=>?_⟩
 case refine_2 =>
  have:∀ (l:List (Nat×BCon)),lkB l f=some bc→(f,bc)∈l:=by
   intro l
   induction l with
   | nil=>intro h;simp [lkB] at h
   | cons p r ih =>
    intro h
    obtain ⟨j,x⟩:=p
    simp only [lkB] at h
    by_cases hfj:f=j
    ·rw [if_pos hfj] at h
     injection h with h
     subst h;subst hfj
     simp
    ·rw [if_neg hfj] at h
     exact List.mem_cons_of_mem _ (ih h)
  exact hb _ (this lb hf)
 have:∀ (l:List (Nat×Con)),lkC l f=some con→(f,con)∈l:=by
  intro l
  induction l with
  | nil=>intro h;simp [lkC] at h
  | cons p r ih =>
   intro h
   obtain ⟨j,x⟩:=p
   simp only [lkC] at h
   by_cases hfj:f=j
   ·rw [if_pos hfj] at h
    injection h with h
    subst h;subst hfj
    simp
   ·rw [if_neg hfj] at h
    exact List.mem_cons_of_mem _ (ih h)
 exact h _ (this l hf)
def U0:List AV→List Nat→List AV
 | l,[]=>l
 | l,i::r=>U0 (l.set i .dead) r
def Ux:List AV→List (Nat×AV)→List AV
 | l,[]=>l
 | l,(i,x)::r=>Ux (l.set i x) r
def U8:Gb→List (Nat×Obj)→Gb
 | o,[]=>o
 | o,(i,x)::r=>U8 (upd o i x) r
def D1 (st:AS) (kills:List Nat) (vals:List (Nat×AV)) (objs:List (Nat×Obj)):AS:=⟨Ux (U0 st.tmps kills) vals,U8 st.objs objs⟩
structure Shut (p:Prop):Prop where
 out:p
theorem shut_eq {p:Prop}:Shut p=p:=propext ⟨fun h=>h.out,fun h=>⟨h⟩⟩
theorem Kk {C:Ctx} {c:Code} {Q:AExit→AS→Prop} {st:AS} (kills:List Nat) {α:Type} (vals:α→List (Nat×AV)) (objs:α→List (Nat×Obj)) (ok:α→Prop) (μ:α→Nat) (a0:α) (h0:ok a0)
  (hw:Wk st (D1 st kills (vals a0) (objs a0))) (h:∀ a,ok a→Shut (awp C c (aThen (fun s'=>∃ a',Wk s' (D1 st kills (vals a') (objs a'))∧ok a'∧μ a'<μ a) Q) (D1 st kills (vals a) (objs a)))):aLoop C c Q st :=
 ⟨α,fun a=>D1 st kills (vals a) (objs a),ok,μ,Wk,fun _ _ h=>.inl h,⟨a0,⟨[],hw⟩,h0⟩,fun a ha=>(h a ha).out⟩
theorem aLoop_killP {C:Ctx} {c:Code} {Q:AExit→AS→Prop} {st:AS} (ks:List Nat) (kills:List Nat) {α:Type} (vals:α→List (Nat×AV)) (objs:α→List (Nat×Obj)) (ok:α→Prop) (μ:α→Nat) (a0:α) (h0:ok a0)
  (hw:WkP ks st (D1 st kills (vals a0) (objs a0))) (h:∀ a,ok a→Shut (awp C c (aThen (fun s'=>∃ a',Wk s' (D1 st kills (vals a') (objs a'))∧ok a'∧μ a'<μ a) Q) (D1 st kills (vals a) (objs a)))):aLoop C c Q st :=
 ⟨α,fun a=>D1 st kills (vals a) (objs a),ok,μ,Wk,fun _ _ h=>.inl h,⟨a0,⟨ks,hw⟩,h0⟩,fun a ha=>(h a ha).out⟩
theorem aLoop_killR {C:Ctx} {c:Code} {Q:AExit→AS→Prop} {st:AS} (k i j:Nat) (kills:List Nat) {α:Type} (vals:α→List (Nat×AV)) (objs:α→List (Nat×Obj)) (ok:α→Prop) (μ:α→Nat) (a0:α) (h0:ok a0)
  (hw:Wk st (D1 st kills (vals a0) (objs a0))) (h:∀ a,ok a→Shut (awp C c (aThen (fun s'=>∃ a',WkR k i j s' (D1 st kills (vals a') (objs a'))∧ok a'∧μ a'<μ a) Q) (D1 st kills (vals a) (objs a)))):aLoop C c Q st :=
 ⟨α,fun a=>D1 st kills (vals a) (objs a),ok,μ,WkR k i j,fun _ _ h=>.inr (.inl ⟨k,i,j,h⟩),⟨a0,⟨[],hw⟩,h0⟩,fun a ha=>(h a ha).out⟩
theorem Ul (t:List AV) (o:Gb) (kills:List Nat) (vals:List (Nat×AV)) (objs:List (Nat×Obj)):D1 ⟨t,o⟩ kills vals objs=⟨Ux (U0 t kills) vals,U8 o objs⟩:=rfl
theorem Kt (a b:Nat):(a<b∧ltB (a:Int) (b:Int)=true)∨(b≤a∧ltB (a:Int) (b:Int)=false):=by
 rcases Nat.lt_or_ge a b with h|h
 ·exact .inl ⟨h,by rw [Hf];omega⟩
 ·exact .inr ⟨h,by rw [Hm];omega⟩
theorem Dk (a b:Int):(a<b∧ltB a b=true)∨(b≤a∧ltB a b=false):=by
 rcases Int.lt_or_le a b with h|h
 ·exact .inl ⟨h,by rw [Hf];exact h⟩
 ·exact .inr ⟨h,by rw [Hm];exact h⟩
theorem leB_cases (a b:Int):(a≤b∧leB a b=true)∨(b<a∧leB a b=false):=by
 rcases Int.lt_or_le b a with h|h
 ·exact .inr ⟨h,by rw [leB_false];exact h⟩
 ·exact .inl ⟨h,by rw [G4];exact h⟩
section
theorem map_snoc {α:Type} [Enc α] {l:List α} {x:α}:l.map (enc:α→D)++[enc x]=(l++[x]).map enc:=by simp
theorem map_snocI {l:List Int} {x:Int}:l.map (enc:Int→D)++[.int .i64 x]=(l++[x]).map enc:=by simp
theorem map_snocB {l:List Bool} {x:Bool}:l.map (enc:Bool→D)++[.bool x]=(l++[x]).map enc:=by simp
theorem map_snocS {l:List (List UInt8)} {x:List UInt8}:l.map (enc:List UInt8→D)++[.str x]=(l++[x]).map enc:=by simp
theorem map_cat {α:Type} [Enc α] {l r:List α}:l.map (enc:α→D)++r.map enc=(l++r).map enc:=by simp
end
def fixOf (W:World):Fix:=⟨W,fun b=>match W.heap[b]? with
 | some (.cells cs _ _)=>cs.size
 | _=>0⟩
theorem fixOf_new (W:World) (b:Nat) (h:W.heap.size≤b):(fixOf W).m b=0:=by
 unfold fixOf
 simp only
 rw [Array.getElem?_eq_none h]
theorem fixOf_cell {W:World} {b off:Nat} {u:Value} (h:W.cell? ⟨b,off,none⟩=some u):off+1≤(fixOf W).m b:=by
 unfold fixOf
 unfold World.cell? at h
 simp only at h ⊢
 split at h
 ·next c _ _ he =>
  simp only [he]
  simp only [Option.isSome_none,bK,if_false] at h
  have:=(Array.getElem?_eq_some_iff.1 h).1
  omega
 ·cases h
def Value.noAgg:Value→Bool
 | .agg _=>false
 | _=>true
theorem cells_noAgg {v:Value} (h:Value.noAgg v=true):v.cells=#[v]:=by
 cases v<;>first|rfl|simp [Value.noAgg] at h
def RdP (P:Program) (t s:Nat) (ag:Bool) (p:D→Prop):Prop :=
 ∀ (H:Type) (enc:TypeId×Value→H) (W:World) (base fuel:Nat) (cs:List Value) (d:DataW H) (ps:List MemPlace),DataW.trod enc P W base (fun _=>true) true fuel t cs=some (d,ps) →
  ∃ x v,p x∧(ag=true→v=.agg cs.toArray)∧(ag=false→cs=[v]∧Value.noAgg v=true)∧cs.length=s∧(∀ u∈cs,u.oneCell'=true)∧R (fixOf W) x v
theorem RdP.mono {P:Program} {t s:Nat} {ag:Bool} {p q:D→Prop} (h:RdP P t s ag p) (hpq:∀ x,p x→q x):RdP P t s ag q:=by
 intro H enc W base fuel cs d ps ht
 obtain ⟨x,v,h1,h2⟩:=h _ enc W base fuel cs d ps ht
 exact ⟨x,v,hpq x h1,h2⟩
theorem trod_int {P:Program} {t fuel:Nat} {k:IntKind} {H:Type} {enc:TypeId×Value→H} {W:World} {base:Nat} {cs:List Value} {x:DataW H×List MemPlace} (ht:P.underlying t=some (.int k))
  (h:DataW.trod enc P W base (fun _=>true) true fuel t cs=some x):∃ n,cs=[.int k n]∧(Lit.int k n).wf=true:=by
 cases fuel with
 | zero=>simp [DataW.trod] at h
 | succ fuel =>
  unfold DataW.trod at h
  simp only [ht] at h
  split at h<;>first|(exfalso;simp_all;done)|skip
  all_goals rename_i e
  all_goals injection e with e
  all_goals injection e with e
  all_goals subst e
  all_goals split at h
  all_goals first|(next hk=>exact ⟨_,by rw [hk.1],hk.2⟩)|cases h
theorem trod_str {P:Program} {t fuel:Nat} {H:Type} {enc:TypeId×Value→H} {W:World} {base:Nat} {cs:List Value} {x:DataW H×List MemPlace} (ht:P.underlying t=some .string)
  (h:DataW.trod enc P W base (fun _=>true) true fuel t cs=some x):∃ s:ByteArray,cs=[.string s]∧s.size≤maxLen:=by
 cases fuel with
 | zero=>simp [DataW.trod] at h
 | succ fuel =>
  unfold DataW.trod at h
  simp only [ht] at h
  split at h<;>first|(exfalso;simp_all;done)|skip
  all_goals split at h
  all_goals first|(next hk=>exact ⟨_,rfl,hk⟩)|cases h
theorem rd_int {P:Program} {t:Nat} {k:IntKind} (ht:P.underlying t=some (.int k)):RdP P t 1 false (fun x=>∃ n,x=.int k n∧(Lit.int k n).wf=true):=by
 intro H enc W base fuel cs d ps h
 obtain ⟨n,rfl,hw⟩:=trod_int ht h
 exact ⟨.int k n,.int k n,⟨n,rfl,hw⟩,by simp,fun _=>⟨rfl,rfl⟩,rfl,by simp [Value.oneCell'],by simp [R]⟩
theorem rd_str {P:Program} {t:Nat} (ht:P.underlying t=some .string):RdP P t 1 false (fun x=>∃ s,x=.str s∧s.length≤maxLen):=by
 intro H enc W base fuel cs d ps h
 obtain ⟨s,rfl,hw⟩:=trod_str ht h
 have e:s.data.toList.length=s.size:=by rw [Array.length_toList];rfl
 exact ⟨.str s.data.toList,.string s,⟨_,rfl,by omega⟩,by simp,fun _=>⟨rfl,rfl⟩,rfl,by simp [Value.oneCell'],by simp [R]⟩
theorem rd_slice {P:Program} {t e s:Nat} {ag:Bool} {p:D→Prop} (ht:P.underlying t=some (.slice e)) (hs:P.cellsOf e=s) (hpos:0<s) (he:RdP P e s ag p) :
  RdP P t 1 false (fun x=>∃ l,x=.list s l∧l.length≤maxLen∧∀ y∈l,p y):=by
 intro H enc W base fuel cs d ps h
 rcases Go.Deep.open_slice ht h with ⟨rfl,hx⟩|⟨a,len,cap,m,n,D',Pl,rfl,hb,hl,hm,hmm,hx,hel⟩
 ·refine ⟨.list s [],.slice none 0 0,⟨[],rfl,by simp [maxLen],by simp⟩,by simp,fun _=>⟨rfl,rfl⟩,rfl,by simp [Value.oneCell'],?_⟩
  simp only [R]
  exact ⟨none,0,rfl,by simp,by simp [maxLen],by simp⟩
 ·rw [hs] at hel
  have hm':len≤m:=by rw [hmm];simp only [if_true];exact hl
  have key:∀ k,k≤len→∃ (xs:List D) (vs:List Value),xs.length=k∧(∀ y∈xs,p y)∧RE (fixOf W) s xs vs∧∀ j,j<k*s→W.cell? ⟨a.block,a.off+j,none⟩=vs[j]?:=by
   intro k
   induction k with
   | zero=>intro _;exact ⟨[],[],rfl,by simp,by simp [RE],by simp⟩
   | succ k ih =>
    intro hk
    obtain ⟨xs,vs,h1,h2,h3,h4⟩:=ih (by omega)
    obtain ⟨cs',g1,g2⟩:=hel k (by omega)
    obtain ⟨x,v,q1,q2,q3,q4,q5,q6⟩:=he _ enc W base n cs' _ _ g2
    obtain ⟨_,g4,g5⟩:=World.cells?_some g1
    have hvc:v.cells.toList=cs':=by
     cases ag with
     | true=>rw [q2 rfl];rfl
     | false =>
      obtain ⟨q3a,q3b⟩:=q3 rfl
      rw [cells_noAgg q3b,q3a]
    refine ⟨xs++[x],vs++cs',by simp [h1],?_,?_,?_⟩
    ·intro y hy
     rcases List.mem_append.1 hy with hy|hy
     ·exact h2 y hy
     ·rw [bW] at hy;subst hy;exact q1
    ·rw [←hvc]
     refine RE.append h3 (RE.one q6 ?_ ?_)
     ·rw [←Array.length_toList,hvc];exact q4
     ·rw [hvc];exact q5
    ·intro j hj
     have hvl:vs.length=k*s:=by rw [RE.length h3,h1]
     rcases Nat.lt_or_ge j (k*s) with hlt|hge
     ·rw [h4 j hlt,List.getElem?_append_left (by omega)]
     ·rw [List.getElem?_append_right (by omega),hvl]
      have hjs:j-k*s<s:=by
       rw [Nat.add_mul] at hj
       omega
      rw [←g5 (j-k*s) hjs]
      congr 1
      unfold Addr.add
      by_cases hk0:k*s=0
      ·rw [if_pos hk0]
       by_cases hj0:j-k*s=0
       ·rw [if_pos hj0]
        have hsp:a.spot=none:=by
         have h0:=g5 0 hpos
         have hne:cs'[0]?=some cs'[0]:=by simp
         rw [hne] at h0
         unfold Addr.add at h0
         rw [if_pos rfl] at h0
         simp only [hk0,if_true] at h0
         unfold World.cell? at h0
         split at h0
         ·cases hh:a.spot with
          | none=>rfl
          | some z=>simp [hh] at h0
         ·cases h0
        have:j=0:=by omega
        subst this
        rw [←hsp]
        rfl
       ·rw [if_neg hj0]
        simp only [Addr.mk.injEq,true_and,and_true]
        omega
      ·rw [if_neg hk0]
       by_cases hj0:j-k*s=0
       ·rw [if_pos hj0]
        simp only [Addr.mk.injEq,true_and,and_true]
        omega
       ·rw [if_neg hj0]
        simp only [Addr.mk.injEq,true_and,and_true]
        omega
  obtain ⟨xs,vs,h1,h2,h3,h4⟩:=key len (cZ _)
  refine ⟨.list s xs,.slice (some a) len cap,⟨xs,rfl,by omega,h2⟩,by simp,fun _=>⟨rfl,rfl⟩,rfl,by simp [Value.oneCell'],?_⟩
  simp only [R]
  refine ⟨some a,cap,by rw [h1],by omega,hm,fun hne=>?_⟩
  have hlen:0<len:=by
   rw [←h1]
   exact List.length_pos_iff.2 hne
  have hvl:vs.length=len*s:=by rw [RE.length h3,h1]
  have hsp:a.spot=none:=by
   obtain ⟨cs',g1,_⟩:=hel 0 (by omega)
   obtain ⟨_,g4,g5⟩:=World.cells?_some g1
   have h0:=g5 0 hpos
   have hne:cs'[0]?=some cs'[0]:=by simp
   rw [hne] at h0
   unfold Addr.add at h0
   simp only [Nat.zero_mul,if_true] at h0
   unfold World.cell? at h0
   split at h0
   ·cases hh:a.spot with
    | none=>rfl
    | some z=>simp [hh] at h0
   ·cases h0
  refine ⟨a.block,a.off,vs,by cases a;simp at hsp;subst hsp;rfl,h3,?_,fun j u hj=>?_⟩
  ·have hpos2:0<len*s:=Nat.mul_pos hlen hpos
   have hlast:=h4 (len*s-1) (by omega)
   have hl2:len*s-1<vs.length:=by omega
   rw [aK hl2] at hlast
   have:=fixOf_cell hlast
   omega
  ·have hjl:=(List.getElem?_eq_some_iff.1 hj).1
   have:=h4 j (by omega)
   rw [hj] at this
   exact this
def All2:List (D→Prop)→List D→Prop
 | [],[]=>True
 | p::ps,x::xs=>p x∧All2 ps xs
 | _,_=>False
def RdFs (P:Program):Nat→List Field→List (D→Prop)→Prop
 | _,[],[]=>True
 | k,f::fs,p::ps=>f.offset=k∧P.cellsOf f.type=1∧RdP P f.type 1 false p∧RdFs P (k+1) fs ps
 | _,_,_=>False
theorem rd_fields {P:Program} {H:Type} {enc:TypeId×Value→H} {W:World} {base fuel:Nat} {cs:List Value}:∀ {fs:List Field} {k:Nat} {ps:List (D→Prop)} {xs:List (DataW H×List MemPlace)},RdFs P k fs ps→k+fs.length≤cs.length →
  (fs.mapM fun f=>DataW.trod enc P W base (fun _=>true) true fuel f.type ((cs.drop f.offset).take (P.cellsOf f.type)))=some xs →
  ∃ ds,All2 ps ds∧Rs (fixOf W) ds ((cs.drop k).take fs.length)∧∀ u∈(cs.drop k).take fs.length,u.oneCell'=true
 | [],k,[],xs,_,_,_=>⟨[],by simp [All2],by simp [Rs],by simp⟩
 | [],_,_::_,_,h,_,_=>h.elim
 | _::_,_,[],_,h,_,_=>h.elim
 | f::fs,k,p::ps,xs,h,hl,hm=>by
  obtain ⟨h1,h2,h3,h4⟩:=h
  simp only [List.mapM_cons,Option.bind_eq_bind,Option.bind_eq_some_iff] at hm
  obtain ⟨y,hy,ys,hys,_⟩:=hm
  simp only [bJ] at hl
  obtain ⟨ds,g1,g2,g3⟩:=rd_fields h4 (by omega) hys
  rw [h1,h2] at hy
  obtain ⟨d,q⟩:=y
  obtain ⟨x,v,q1,_,q3,q4,q5,q6⟩:=h3 _ enc W base fuel _ _ _ hy
  obtain ⟨q3a,q3b⟩:=q3 rfl
  have e:(cs.drop k).take (fs.length+1)=v::(cs.drop (k+1)).take fs.length:=by
   have hk:k<cs.length:=by omega
   rw [List.drop_eq_getElem_cons hk] at q3a ⊢
   simp only [List.take_succ_cons,List.take_zero,List.cons.injEq] at q3a ⊢
   exact ⟨q3a.1,trivial⟩
  rw [bJ,e]
  refine ⟨x::ds,⟨q1,g1⟩,?_,?_⟩
  ·simp only [Rs]
   exact ⟨v,_,rfl,q6,g2⟩
  ·intro u hu
   rcases List.mem_cons.1 hu with rfl|hu
   ·exact q5 u (by rw [q3a];simp)
   ·exact g3 u hu
theorem rd_struct {P:Program} {t s:Nat} {fs:Array Field} {ps:List (D→Prop)} (ht:P.underlying t=some (.struct fs)) (hs:P.cellsOf t=s) (hl:fs.toList.length=s) (hf:RdFs P 0 fs.toList ps) :
  RdP P t s true (fun x=>∃ ds,x=.agg ds∧All2 ps ds):=by
 intro H enc W base fuel cs d qs h
 cases fuel with
 | zero=>simp [DataW.trod] at h
 | succ fuel =>
  unfold DataW.trod at h
  simp only [ht] at h
  rw [hs] at h
  by_cases hc:cs.length=s
  ·rw [if_pos hc] at h
   rw [Option.map_eq_some_iff] at h
   obtain ⟨xs,hx,_⟩:=h
   obtain ⟨ds,g1,g2,g3⟩:=rd_fields (cs:=cs) hf (by omega) hx
   rw [List.drop_zero,hl,←hc,List.take_length] at g2 g3
   refine ⟨.agg ds,.agg cs.toArray,⟨ds,rfl,g1⟩,fun _=>rfl,by simp,hc,g3,?_⟩
   simp only [R]
   exact ⟨cs,rfl,g2,g3⟩
  ·rw [if_neg hc] at h
   cases h
theorem arg_flat {P:Program} {H:Type} {enc:TypeId×Value→H} {W:World} {base b2 t s:Nat} {p:D→Prop} {v:Value} {d:DataW H} {ps:List MemPlace} (h:RdP P t s false p) (hns:∀ fs,P.underlying t≠some (.struct fs)) (hna:∀ n e,P.underlying t≠some (.array n e))
  (hval:Value.okWide P W .any base t v) (hr:DataW.Trod enc P W b2 (fun _=>true) true t v d ps):∃ x,p x∧R (fixOf W) x v:=by
 obtain ⟨fuel,hr⟩:=hr
 obtain ⟨x,u,h1,_,h3,_,_,h6⟩:=h _ enc W b2 fuel _ _ _ hr
 obtain ⟨h3a,h3b⟩:=h3 rfl
 have hv:Value.noAgg v=true:=by
  cases v with
  | agg cs =>
   unfold Value.okWide at hval
   exfalso
   split at hval
   ·next fs he=>exact hns _ he
   ·next n e he=>exact hna _ _ he
   ·unfold Cell.okWide at hval
    split at hval<;>try simp_all
    unfold Cell.ok at hval
    split at hval<;>simp_all
  | _=>rfl
 rw [cells_noAgg hv] at h3a
 simp only [List.cons.injEq,and_true] at h3a
 subst h3a
 exact ⟨x,h1,h6⟩
theorem arg_agg {P:Program} {H:Type} {enc:TypeId×Value→H} {W:World} {base b2 t s:Nat} {p:D→Prop} {v:Value} {d:DataW H} {ps:List MemPlace} (h:RdP P t s true p) (hns:(∃ fs,P.underlying t=some (.struct fs))∨∃ n e,P.underlying t=some (.array n e))
  (hval:Value.okWide P W .any base t v) (hr:DataW.Trod enc P W b2 (fun _=>true) true t v d ps):∃ x,p x∧R (fixOf W) x v:=by
 obtain ⟨fuel,hr⟩:=hr
 obtain ⟨x,u,h1,h2,_,_,_,h6⟩:=h _ enc W b2 fuel _ _ _ hr
 have hv:∃ cs,v=.agg cs:=by
  unfold Value.okWide at hval
  rcases hns with ⟨fs,he⟩|⟨n,e,he⟩
  ·rw [he] at hval
   obtain ⟨cs,hc,_⟩:=hval
   exact ⟨cs,hc⟩
  ·rw [he] at hval
   obtain ⟨cs,hc,_⟩:=hval
   exact ⟨cs,hc⟩
 obtain ⟨cs,rfl⟩:=hv
 have:u=.agg cs:=by rw [h2 rfl];simp [Value.cells]
 subst this
 exact ⟨x,h1,h6⟩
theorem CVRs_of_Rs {F:Fix}:∀ {l:List D} {vs:List Value},Rs F l vs→Dc F (l.map .d) vs
 | [],_,h=>by simp only [Rs] at h;simpa [Dc] using h
 | x::l,vs,h=>by
  simp only [Rs] at h
  obtain ⟨v,r,rfl,h2,h3⟩:=h
  simp only [List.map_cons,Dc,CVR]
  exact ⟨v,r,rfl,h2,CVRs_of_Rs h3⟩
theorem ownsOf_d:∀ (l:List D) (vs:List Value),Hb (l.map .d) vs=[]
 | [],[]=>rfl
 | [],_::_=>rfl
 | _::l,[]=>rfl
 | x::l,v::vs=>by
  simp only [List.map_cons,Hb]
  exact ownsOf_d l vs
theorem calls_of_good {P:Program} {f:FuncId} {con:Con} (hg:Hg P (f,con)) (W:World) (xs:List D) (args:Array Value) (hR:Rs (fixOf W) xs args.toList) (hpre:con.pre (xs.map .d)) (hfn:con.fn (xs.map .d)=.d (.bool true)) :
  Calls P f args W fun e W'=>e=.returned (.bool true)∧Below W.heap.size W W':=by
 have h:=hg.2 (fixOf W).m W (xs.map .d) args.toList hpre (CVRs_of_Rs hR) (by rw [ownsOf_d];exact List.nodup_nil) (fixOf_new W)
 rw [show args.toList.toArray=args by simp] at h
 refine h.mono ?_
 rintro e W' ⟨v,m',rfl,hfr,_,_,hres⟩
 change Res _ _ _ (con.fn (xs.map .d)) v at hres
 rw [hfn] at hres
 simp only [Res,Dc,CVR,R] at hres
 obtain ⟨⟨v1,r,hv1,rfl,rfl⟩,_⟩:=hres
 injection hv1 with hv1 _
 subst hv1
 refine ⟨rfl,hfr.os,hfr.tape,hfr.output,hfr.size,fun k hk=>hfr.block k hk ?_⟩
 rw [ownsOf_d]
 simp
open Go.ChangeShapes Go.WideShapes Go.ChangeAt Go.RowKit
theorem trodAll_below {H:Type} {enc:TypeId×Value→H} {P:Program} (hl:laidOutB P=true) {W W':World} (hb:Below W.heap.size W W'):∀ {ts:List TypeId} {vs:List Value} {ds:List (DataW H)} {ps:List MemPlace},(∀ t∈ts,P.readableRec t=true∧t<P.types.size) →
  DataW.TrodAll enc P W 0 (fun _=>true) true ts vs ds ps→(∀ x∈ps,x.block<W.heap.size)→∀ sp:Nat→Bool,(∀ x∈ps,sp x.block=true)→DataW.TrodAll enc P W' 0 sp true ts vs ds ps
 | [],vs,ds,ps,_,h,_,_,_=>by
  obtain ⟨rfl,rfl,rfl⟩:=trodAll_nil h
  exact trodAll_mk0
 | t::ts,vs,ds,ps,hr,h,hlt,sp,hsp=>by
  obtain ⟨v,vs',d,ds',p,q,rfl,rfl,rfl,h1,h2⟩:=trodAll_cons h
  refine trodAll_cons_mk ?_ (trodAll_below hl hb (fun t ht=>hr t (List.mem_cons_of_mem _ ht)) h2 (fun x hx=>hlt x (List.mem_append_right _ hx)) sp (fun x hx=>hsp x (List.mem_append_right _ hx)))
  obtain ⟨r1,r2⟩:=hr t (by simp)
  exact WideElems.Trod_stays hl r1 r2 h1 (fun x hx=>hb.same (hlt x (List.mem_append_left _ hx))) (fun x hx=>hsp x (List.mem_append_left _ hx))
theorem trodAll_len2 {H:Type} {enc:TypeId×Value→H} {P:Program} {W:World} {base:Nat} {spare:Nat→Bool} {held:Bool}:∀ {ts:List TypeId} {vs:List Value} {ds:List (DataW H)} {ps:List MemPlace},DataW.TrodAll enc P W base spare held ts vs ds ps→ds.length=ts.length
 | [],vs,ds,ps,h=>by
  obtain ⟨rfl,rfl,rfl⟩:=trodAll_nil h
  rfl
 | t::ts,vs,ds,ps,h=>by
  obtain ⟨v,vs',d,ds',p,q,rfl,rfl,rfl,h1,h2⟩:=trodAll_cons h
  simp [trodAll_len2 h2]
theorem law_contract {P:Program} {f:FuncId} {fn:Func} {con:Con} {s:ChangeSpec} {tb:TypeId} (hg:Hg P (f,con)) (hv:s.vars=[]) (hl:laidOutB P=true)
  (hr:∀ t∈fn.params.toList,P.readableRec t=true∧t<P.types.size) (hres:fn.resultTypes=#[tb]) (htb:P.underlying tb=some .bool)
  (hspec:∀ (H:Type) (ds:List (DataW H)),ds.length=fn.params.toList.length→s.fn H ds={ results:=[.lit (.bool true)],args:=ds })
  {H:Type} (enc:TypeId×Value→H) (W:World) (args:Array Value) (ds gs:List (DataW H)) (before:List MemPlace)
  (hread:∀ ps,DataW.TrodAll enc P W 0 (fun _=>true) true fn.params.toList args.toList ds ps→∃ xs:List D,Rs (fixOf W) xs args.toList∧con.pre (xs.map .d)∧con.fn (xs.map .d)=.d (.bool true))
  (hW:DataW.Whole enc P fn.params.toList s.vars false W args.toList ds gs before) :
  Calls P f args W fun e W'=>∃ v,e=.returned v∧s.post enc P fn false true false false W args v W':=by
 have hW':=hW
 obtain ⟨p,q,hA,hV,rfl,hfz,hnd⟩:=hW
 rw [hv] at hV
 obtain ⟨rfl,rfl⟩:=trodVars_none hV
 obtain ⟨xs,hR,hpre,hfn⟩:=hread p hA
 have hlen:=(trodAll_len2 hA)
 refine (calls_of_good hg W xs args hR hpre hfn).mono ?_
 rintro e W' ⟨rfl,hb⟩
 have hlt:∀ x∈p,x.block<W.heap.size:=fun x hx=>hW'.lt x (by simpa using hx)
 have hsp:=hspec H (ds++[]) (by simpa using hlen)
 rw [List.append_nil] at hsp
 refine ⟨_,rfl,ds,[],p++[],[],p,[],hW',?_,?_,?_,hb.frame _,fun h=>by cases h⟩
 ·rw [List.append_nil,hsp,hres]
  exact trodAll_cons_mk (shut_bool htb _) trodAll_mk0
 ·rw [List.append_nil,hsp]
  exact trodAll_below hl hb hr hA hlt _ (fun x hx=>by simpa using hlt x hx)
 ·rw [List.append_nil,hsp,hv]
  rfl
section
def Rdt (P:Program) (t s:Nat) (ag:Bool) (α:Type) [Enc α] (ok:α→Prop):Prop:=RdP P t s ag fun x=>∃ a:α,x=enc a∧ok a
theorem rdt_int {P:Program} {t:Nat} (ht:P.underlying t=some (.int .i64)):Rdt P t 1 false Int (fun a=>inR .i64 a):=(rd_int ht).mono fun x h=>by
 obtain ⟨n,rfl,hw⟩:=h
 refine ⟨n,rfl,?_⟩
 show inR .i64 n
 rw [Uk]
 have h:=hw
 simp [Lit.wf,IntKind.min,IntKind.max,IntKind.signed,IntKind.bits] at h
 omega
theorem rdt_str {P:Program} {t:Nat} (ht:P.underlying t=some .string):Rdt P t 1 false (List UInt8) (fun a=>a.length≤maxLen):=(rd_str ht).mono fun x h=>by
 obtain ⟨s,rfl,hs⟩:=h
 exact ⟨s,rfl,hs⟩
theorem list_enc {α:Type} [Enc α] {ok:α→Prop}:∀ {l:List D},(∀ y∈l,∃ a:α,y=enc a∧ok a)→∃ r:List α,l=r.map enc∧∀ a∈r,ok a
 | [],_=>⟨[],rfl,by simp⟩
 | y::l,h=>by
  obtain ⟨a,rfl,ha⟩:=h y (by simp)
  obtain ⟨r,rfl,hr⟩:=list_enc (l:=l) fun z hz=>h z (List.mem_cons_of_mem _ hz)
  exact ⟨a::r,rfl,by
   intro b hb
   rcases List.mem_cons.1 hb with rfl|hb
   ·exact ha
   ·exact hr b hb⟩
theorem rdt_sl {P:Program} {t e s:Nat} {ag:Bool} {α:Type} [Enc α] [Sz α] {ok:α→Prop} (ht:P.underlying t=some (.slice e)) (hs:P.cellsOf e=s) (hz:Sz.sz α=s) (hpos:0<s) (he:Rdt P e s ag α ok) :
  Rdt P t 1 false (Sl α) (fun a=>a.l.length≤maxLen∧∀ y∈a.l,ok y):=(rd_slice ht hs hpos he).mono fun x h=>by
 obtain ⟨l,rfl,hl,hy⟩:=h
 obtain ⟨r,rfl,hr⟩:=list_enc hy
 rw [bV] at hl
 refine ⟨⟨r⟩,?_,hl,hr⟩
 show D.list s (r.map enc)=D.list (Sz.sz α) (r.map enc)
 rw [hz]
end
def Ca:Nat→List AV→List AV
 | 0,_=>[]
 | n+1,[]=>.dead::Ca n []
 | n+1,x::l=>x::Ca n l
theorem Fu:∀ (n:Nat) (l:List AV),(Ca n l).length=n
 | 0,_=>rfl
 | n+1,[]=>by simp [Ca,Fu n]
 | n+1,x::l=>by simp [Ca,Fu n]
theorem pad16_getD:∀ (n:Nat) (l:List AV) (t:Nat),t<n→(Ca n l).getD t .dead=l.getD t .dead
 | 0,_,t,h=>by omega
 | n+1,[],0,_=>by simp [Ca]
 | n+1,[],t+1,h=>by
  have:=pad16_getD n [] t (by omega)
  simpa [Ca] using this
 | n+1,x::l,0,_=>by simp [Ca]
 | n+1,x::l,t+1,h=>by
  have:=pad16_getD n l t (by omega)
  simpa [Ca] using this
def K0:Nat→AV→List AV→List AV
 | 0,x,[]=>[x]
 | n+1,x,[]=>.dead::K0 n x []
 | 0,x,_::l=>x::l
 | n+1,x,y::l=>y::K0 n x l
theorem pad16_put:∀ (n:Nat) (l:List AV) (t:Nat) (x:AV),t<n→(Ca n l).set t x=Ca n (K0 t x l)
 | 0,_,t,_,h=>by omega
 | n+1,[],0,x,_=>by simp [Ca,K0]
 | n+1,[],t+1,x,h=>by
  have:=pad16_put n [] t x (by omega)
  simpa [Ca,K0] using this
 | n+1,y::l,0,x,_=>by simp [Ca,K0]
 | n+1,y::l,t+1,x,h=>by
  have:=pad16_put n l t x (by omega)
  simpa [Ca,K0] using this
def fl:List (List AV)→List AV→List AV
 | [],r=>r
 | c::cs,r=>Ca 16 c++fl cs r
def getC:List (List AV)→List AV→Nat→Nat→AV
 | [],r,a,b=>r.getD (16*a+b) .dead
 | c::_,_,0,b=>c.getD b .dead
 | _::cs,r,a+1,b=>getC cs r a b
theorem getD_fl:∀ (cs:List (List AV)) (r:List AV) (a b:Nat),b<16→(fl cs r).getD (16*a+b) .dead=getC cs r a b
 | [],r,a,b,_=>rfl
 | c::cs,r,0,b,hb=>by
  simp only [fl,getC,Nat.mul_zero,Nat.zero_add]
  rw [aY,List.getElem?_append_left (by rw [Fu];exact hb),←aY]
  exact pad16_getD 16 c b hb
 | c::cs,r,a+1,b,hb=>by
  simp only [fl,getC]
  rw [aY,List.getElem?_append_right (by rw [Fu];omega),←aY,Fu,show 16*(a+1)+b-16=16*a+b by omega]
  exact getD_fl cs r a b hb
theorem getD_fl' (cs:List (List AV)) (r:List AV) (t:Nat):(fl cs r).getD t .dead=getC cs r (t / 16) (t % 16):=by
 rw [←getD_fl cs r (t / 16) (t % 16) (Nat.mod_lt _ (by omega)),Nat.div_add_mod]
def setC:List (List AV)→List AV→Nat→Nat→AV→List AV
 | [],r,a,b,x=>r.set (16*a+b) x
 | c::cs,r,0,b,x=>fl (K0 b x c::cs) r
 | c::cs,r,a+1,b,x=>Ca 16 c++setC cs r a b x
theorem set_flC:∀ (cs:List (List AV)) (r:List AV) (a b:Nat) (x:AV),b<16→(fl cs r).set (16*a+b) x=setC cs r a b x
 | [],r,a,b,x,_=>rfl
 | c::cs,r,0,b,x,hb=>by
  simp only [fl,setC,Nat.mul_zero,Nat.zero_add]
  rw [List.set_append_left _ _ (by rw [Fu];exact hb),pad16_put 16 c b x hb]
 | c::cs,r,a+1,b,x,hb=>by
  simp only [fl,setC]
  rw [List.set_append_right _ _ (by rw [Fu];omega),Fu,show 16*(a+1)+b-16=16*a+b by omega,set_flC cs r a b x hb]
def Ki:List (List AV)→List AV→Nat→Nat→AV→List (List AV)×List AV
 | [],r,a,b,x=>([],r.set (16*a+b) x)
 | c::cs,r,0,b,x=>(K0 b x c::cs,r)
 | c::cs,r,a+1,b,x=>(c::(Ki cs r a b x).1,(Ki cs r a b x).2)
theorem setC_fl:∀ (cs:List (List AV)) (r:List AV) (a b:Nat) (x:AV),setC cs r a b x=fl (Ki cs r a b x).1 (Ki cs r a b x).2
 | [],r,a,b,x=>rfl
 | c::cs,r,0,b,x=>rfl
 | c::cs,r,a+1,b,x=>by
  simp only [setC,Ki,fl]
  rw [setC_fl cs r a b x]
theorem U7 (cs:List (List AV)) (r:List AV) (t:Nat) (x:AV):(fl cs r).set t x=fl (Ki cs r (t / 16) (t % 16) x).1 (Ki cs r (t / 16) (t % 16) x).2:=by
 rw [←setC_fl,←set_flC cs r (t / 16) (t % 16) x (Nat.mod_lt _ (by omega)),Nat.div_add_mod]
theorem killK_app (i:Nat):∀ (a b:List AV),Dl i (a++b)=Dl i a++Dl i b
 | [],_=>rfl
 | x::a,b=>by simp [Dl,killK_app i a b]
theorem killK_pad (i:Nat):∀ (n:Nat) (l:List AV),Dl i (Ca n l)=Ca n (Dl i l)
 | 0,_=>rfl
 | n+1,[]=>by
  have:=killK_pad i n []
  simp only [Dl] at this
  simp [Ca,Dl,AV.off,this]
 | n+1,x::l=>by simp [Ca,Dl,killK_pad i n l]
def killCs (i:Nat):List (List AV)→List (List AV)
 | []=>[]
 | c::cs=>Dl i c::killCs i cs
theorem killK_fl (i:Nat):∀ (cs:List (List AV)) (r:List AV),Dl i (fl cs r)=fl (killCs i cs) (Dl i r)
 | [],_=>rfl
 | c::cs,r=>by simp only [fl,killCs,killK_app,killK_pad,killK_fl i cs r]
theorem wkT_app {o1 o2:Gb}:∀ {a a' b b':List AV},wkT o1 o2 a a'→wkT o1 o2 b b'→wkT o1 o2 (a++b) (a'++b')
 | [],[],_,_,_,h=>h
 | [],_::_,_,_,h,_=>h.elim
 | _::_,[],_,_,h,_=>h.elim
 | x::a,y::a',b,b',h,h'=>⟨h.1,wkT_app h.2 h'⟩
theorem wkT_pad {o1 o2:Gb}:∀ {n:Nat} {a a':List AV},wkT o1 o2 a a'→wkT o1 o2 (Ca n a) (Ca n a')
 | 0,_,_,_=>trivial
 | n+1,[],[],_=>⟨by simp [wk1],wkT_pad (a:=[]) (a':=[]) trivial⟩
 | n+1,[],_::_,h=>h.elim
 | n+1,_::_,[],h=>h.elim
 | n+1,x::a,y::a',h=>⟨h.1,wkT_pad h.2⟩
def Ga (o1 o2:Gb):List (List AV)→List (List AV)→Prop
 | [],[]=>True
 | c::cs,d::ds=>wkT o1 o2 c d∧Ga o1 o2 cs ds
 | _,_=>False
theorem wkT_fl {o1 o2:Gb}:∀ {cs ds:List (List AV)} {r r':List AV},Ga o1 o2 cs ds→wkT o1 o2 r r'→wkT o1 o2 (fl cs r) (fl ds r')
 | [],[],_,_,_,h=>h
 | [],_::_,_,_,h,_=>h.elim
 | _::_,[],_,_,h,_=>h.elim
 | c::cs,d::ds,r,r',h,h'=>wkT_app (wkT_pad h.1) (wkT_fl h.2 h')
theorem Wk.of_fl {cs ds:List (List AV)} {r r':List AV} {o o':Gb} (h:Ga o o' cs ds∧wkT o o' r r'∧wkO o o' o'∧wkK o' o):Wk ⟨fl cs r,o⟩ ⟨fl ds r',o'⟩ :=
 ⟨wkT_fl h.1 h.2.1,h.2.2.1,h.2.2.2⟩
theorem keptAll_app {o:Gb}:∀ {a b:List AV},keptAll o a→keptAll o b→keptAll o (a++b)
 | [],_,_,h=>h
 | _::_,_,h,h'=>⟨h.1,keptAll_app h.2 h'⟩
theorem keptAll_pad {o:Gb}:∀ {n:Nat} {a:List AV},keptAll o a→keptAll o (Ca n a)
 | 0,_,_=>trivial
 | n+1,[],_=>⟨by simp only [AV.kept],keptAll_pad (a:=[]) trivial⟩
 | n+1,_::_,h=>⟨h.1,keptAll_pad h.2⟩
def keptCs (o:Gb):List (List AV)→Prop
 | []=>True
 | c::cs=>keptAll o c∧keptCs o cs
theorem keptAll_fl {o:Gb}:∀ {cs:List (List AV)} {r:List AV},keptCs o cs∧keptAll o r→keptAll o (fl cs r)
 | [],_,h=>h.2
 | _::_,_,h=>keptAll_app (keptAll_pad h.1.1) (keptAll_fl ⟨h.1.2,h.2⟩)
def chk:Nat→List AV→List (List AV)×List AV
 | 0,l=>([],l)
 | n+1,l=>(l.take 16::(chk n (l.drop 16)).1,(chk n (l.drop 16)).2)
theorem pad16_full:∀ (n:Nat) (l:List AV),l.length=n→Ca n l=l
 | 0,[],_=>rfl
 | 0,_::_,h=>by simp at h
 | n+1,[],h=>by simp at h
 | n+1,x::l,h=>by simp only [Ca,pad16_full n l (by simpa using h)]
theorem chk_fl:∀ (n:Nat) (l:List AV),16*n≤l.length→fl (chk n l).1 (chk n l).2=l
 | 0,l,_=>rfl
 | n+1,l,h=>by
  simp only [chk,fl]
  rw [pad16_full 16 (l.take 16) (by rw [List.length_take];omega),chk_fl n (l.drop 16) (by rw [List.length_drop];omega),List.take_append_drop]
theorem Gf {C:Ctx} {c:Code} {Q:AExit→AS→Prop} {t:List AV} {o:Gb} (n:Nat) (hn:16*n≤t.length) (h:Shut (awp C c Q ⟨fl (chk n t).1 (chk n t).2,o⟩)):awp C c Q ⟨t,o⟩:=by
 have:=h.out
 rw [chk_fl n t hn] at this
 exact this
theorem set_getD {α:Type} {l:List α} {i:Nat} {x d:α} (h:l.getD i d=x) (hx:x≠d):l.set i x=l:=by
 apply List.ext_getElem?
 intro j
 rw [List.getElem?_set]
 by_cases hij:i=j
 ·subst hij
  rw [if_pos rfl]
  by_cases hi:i<l.length
  ·rw [if_pos hi]
   rw [aY,aK hi] at h
   rw [aK hi,←h]
   rfl
  ·rw [aY,List.getElem?_eq_none (by omega)] at h
   exact absurd h.symm hx
 ·rw [if_neg hij]
theorem sAwp_condT (C:Ctx) (t:Nat) (x y:Code) (Q:AExit→AS→Prop) (T:List AV) (o:Gb):awp C (.cond (.tmp t) x y) Q ⟨T,o⟩=(match T.getD t .dead with
  | .d (.bool b)=>(b=true→awp C x Q ⟨T.set t (.d (.bool true)),o⟩)∧(b=false→awp C y Q ⟨T.set t (.d (.bool false)),o⟩)
  | _=>False):=by
 rw [awp_cond]
 simp only [AS.ev]
 generalize hz:T.getD t .dead=z
 cases z with
 | d x =>
  cases x with
  | bool b =>
   simp only [D.isBool,D.b,true_and,ifB]
   have h:=set_getD hz (by simp)
   cases b with
   | true=>simp only [h];simp
   | false=>simp only [h];simp
  | _=>simp [D.isBool]
 | _=>rfl
theorem sIfG (b want:Bool) (P Q:Prop):ifG b want P Q=(match want with
  | true=>(b=true→P)∧(b=false→Q)
  | false=>(b=false→P)∧(b=true→Q)):=by
 cases b<;>cases want<;>simp [ifG]
theorem sOp (C:Ctx) (ops:List Oper) (o:Oper) (K:AS→Prop) (st:AS):aOp C ops o K st=(match o.guard with
 | none=>aExec C o K st
 | some (j,want)=>match Ml ops st j with
  | .b t b=>(match want with
   | true=>(b=true→aExec C o K ⟨st.tmps.set t (.d (.bool true)),st.objs⟩)∧(b=false→K (AS.put ⟨st.tmps.set t (.d (.bool false)),st.objs⟩ o.dst (.d (.tup [])) st.objs))
   | false=>(b=false→aExec C o K ⟨st.tmps.set t (.d (.bool false)),st.objs⟩)∧(b=true→K (AS.put ⟨st.tmps.set t (.d (.bool true)),st.objs⟩ o.dst (.d (.tup [])) st.objs)))
  | .und=>K (AS.put st o.dst (.d (.tup [])) st.objs)
  | .no=>False):=by
 unfold aOp
 cases o.guard with
 | none=>rfl
 | some p =>
  obtain ⟨j,want⟩:=p
  simp only
  cases Ml ops st j with
  | b t b =>
   simp only [sIfG]
   cases want<;>rfl
  | und=>rfl
  | no=>rfl
theorem sDraws_nil (C:Ctx) (ops:List Oper) (i:Nat) (acc:List (Nat×List Nat×Bool)) (K:AS→Prop) (st:AS):Cd C ops i [] acc K st=(okD ops acc=true∧K st):=rfl
theorem sDraws_cons (C:Ctx) (ops:List Oper) (i:Nat) (o:Oper) (r:List Oper) (acc:List (Nat×List Nat×Bool)) (K:AS→Prop) (st:AS):Cd C ops i (o::r) acc K st=(match o.guard with
  | none=>aExecB C o (fun fp ro=>Cd C ops (i+1) r ((i,fp,ro)::acc) K) st
  | some (j,want)=>match Ml ops st j with
   | .b t b=>(match want with
    | true=>(b=true→aExecB C o (fun fp ro=>Cd C ops (i+1) r ((i,fp,ro)::acc) K) ⟨st.tmps.set t (.d (.bool true)),st.objs⟩) ∧
      (b=false→Cd C ops (i+1) r acc K (AS.put ⟨st.tmps.set t (.d (.bool false)),st.objs⟩ o.dst (.d (.tup [])) st.objs))
    | false=>(b=false→aExecB C o (fun fp ro=>Cd C ops (i+1) r ((i,fp,ro)::acc) K) ⟨st.tmps.set t (.d (.bool false)),st.objs⟩) ∧
      (b=true→Cd C ops (i+1) r acc K (AS.put ⟨st.tmps.set t (.d (.bool true)),st.objs⟩ o.dst (.d (.tup [])) st.objs)))
   | .und=>Cd C ops (i+1) r acc K (AS.put st o.dst (.d (.tup [])) st.objs)
   | .no=>False):=by
 rw [Cd]
 cases o.guard with
 | none=>rfl
 | some p =>
  obtain ⟨j,want⟩:=p
  simp only
  cases Ml ops st j with
  | b t b =>
   simp only [sIfG]
   cases want<;>rfl
  | und=>rfl
  | no=>rfl
section
variable (a:Option Tmp) (b:Op) (c:TypeId) (d:String) (e:Array Edge) (f:Option (Nat×Bool))
theorem sO1:(Oper.mk a b c d e f).dst=a:=rfl
theorem sO2:(Oper.mk a b c d e f).op=b:=rfl
theorem sO3:(Oper.mk a b c d e f).type=c:=rfl
end
section
variable (a:TK) (b c:Nat) (d:AV) (e:D) (f:List SK)
theorem sT1:(TI.mk a b c d e f).kind=a:=rfl
theorem sT2:(TI.mk a b c d e f).size=b:=rfl
theorem sT3:(TI.mk a b c d e f).bytes=c:=rfl
theorem sT4:(TI.mk a b c d e f).zero=d:=rfl
theorem sT5:(TI.mk a b c d e f).zd=e:=rfl
end
section
variable (a:Nat→TI) (b:Nat→Option Con) (c:Nat) (d:Nat→Option BCon) (e:List Nat) (f:Bool)
theorem sC1:(Ctx.mk a b c d e f).τ=a:=rfl
theorem sC2:(Ctx.mk a b c d e f).Γ=b:=rfl
theorem sC3:(Ctx.mk a b c d e f).dp=c:=rfl
theorem sC4:(Ctx.mk a b c d e f).Δ=d:=rfl
end
theorem sA1 (a:List AV) (b:Gb):(AS.mk a b).tmps=a:=rfl
theorem sA2 (a:List AV) (b:Gb):(AS.mk a b).objs=b:=rfl
theorem sP1 {α β:Type} (a:α) (b:β):(a,b).1=a:=rfl
theorem sP2 {α β:Type} (a:α) (b:β):(a,b).2=b:=rfl
theorem sN1 (a b:List Bool) (p:List CV→Prop) (f:List CV→CV):(Con.mk a b p f).modes=a:=rfl
theorem sN2 (a b:List Bool) (p:List CV→Prop) (f:List CV→CV):(Con.mk a b p f).outs=b:=rfl
theorem sN3 (a b:List Bool) (p:List CV→Prop) (f:List CV→CV) (x:List CV):(Con.mk a b p f).pre x=p x:=rfl
theorem sN4 (a b:List Bool) (p:List CV→Prop) (f:List CV→CV) (x:List CV):(Con.mk a b p f).fn x=f x:=rfl
theorem sR1 {α:Type} (l:List α):l.toArray.toList=l:=rfl
theorem sMapId {α β:Type} (f:α→β) (x:α) (l:List α):(x::l).map f=f x::l.map f:=rfl
theorem sMapNil {α β:Type} (f:α→β):([]:List α).map f=[]:=rfl
theorem sLenC {α:Type} (x:α) (l:List α):(x::l).length=l.length+1:=rfl
theorem sLenN {α:Type}:([]:List α).length=0:=rfl
theorem sGet0 {α:Type} (x:α) (l:List α):(x::l)[0]?=some x:=rfl
theorem sGet1 {α:Type} (x:α) (l:List α) (n:Nat):(x::l)[n+1]?=l[n]?:=rfl
theorem sCl1 (s:Nat) (k:IntKind) (n:Int):AV.cells false s (.d (.int k n))=[.d (.int k n)]:=rfl
theorem sCl2 (s:Nat) (b:Bool):AV.cells false s (.d (.bool b))=[.d (.bool b)]:=rfl
theorem sCl3 (s:Nat) (b:List UInt8):AV.cells false s (.d (.str b))=[.d (.str b)]:=rfl
theorem sCl6 (s m:Nat) (l:List D):AV.cells false s (.d (.list m l))=[.d (.list m l)]:=rfl
theorem sCl9 {α:Type} [Enc α] [Sz α] (s:Nat) (a:Sl α):AV.cells false s (.d (enc a))=[.d (enc a)]:=rfl
theorem sClc (ag:Bool) (s i n:Nat):AV.cells ag s (.sl i n)=[.sl i n]:=rfl
theorem sCle (ag:Bool) (s m:Nat):AV.cells ag s (.nils m)=[.nils m]:=rfl
theorem sDec (i:Decidable True):@decide True i=true:=by simp
theorem sCv1 (C:Ctx) (h:Nat) (k:IntKind) (n:Int):constAV C h (.int k n)=.d (.int k n):=rfl
theorem sCv2 (C:Ctx) (h:Nat) (b:Bool):constAV C h (.bool b)=.d (.bool b):=rfl
theorem sCv3 (C:Ctx) (h:Nat) (b:ByteArray):constAV C h (.string b)=.d (.str b.data.toList):=rfl
theorem sCv6 (C:Ctx) (h:Nat):constAV C h (.slice none 0 0)=.nils (C.esize h):=rfl
theorem sBy (l:Array UInt8):(ByteArray.mk l).data=l:=rfl
theorem Bx {P:Program} {f:Nat} {con:Con} (h:Enters P f) (hv:∀ c,¬ con.pre c):Hg P (f,con):=⟨h,fun _ _ c _ hp=>absurd hp (hv c)⟩
theorem Uy {ops:List Oper} {acc:List (Nat×List Nat×Bool)} (h:okD ops acc=true):okD ops acc=true:=h
theorem sNc0:((0:Nat):Int)=0:=rfl
theorem sNc1:((1:Nat):Int)=1:=rfl
theorem sEl0 (x:D) (l:List D):el (x::l) 0=x:=rfl
theorem sTn2:Int.toNat 2=2:=rfl
theorem sTn3:Int.toNat 3=3:=rfl
theorem sSc1 (k:IntKind) (n:Int) (f:Nat) (y:D):D.setCell (.int k n) f y=y:=rfl
theorem sSc2 (b:Bool) (f:Nat) (y:D):D.setCell (.bool b) f y=y:=rfl
theorem sSl {α:Type} (l:List α):(Sl.mk l).l=l:=rfl
theorem Uq (k:Nat):(NatCast.natCast k:Int)=Int.ofNat k:=rfl
theorem K7 {α:Type} [Enc α] {l:List α} {i:Nat} (d:α) (h:i<l.length):el (l.map enc) i=enc (l.getD i d):=el_map d h
theorem Za:type_of% @beginAS.eq_def:=@beginAS.eq_def
theorem Zb:type_of% @aExec.eq_def:=@aExec.eq_def
theorem Zc:type_of% @Dh.eq_def:=@Dh.eq_def
theorem Zd:type_of% @Ml.eq_def:=@Ml.eq_def
theorem Ze:type_of% @AS.put.eq_def:=@AS.put.eq_def
theorem Zf:type_of% @aThen.eq_def:=@aThen.eq_def
theorem Zg:type_of% @aBlock.eq_def:=@aBlock.eq_def
theorem Zh:type_of% @Ctx.one.eq_def:=@Ctx.one.eq_def
theorem Zi:type_of% @Iz.eq_def:=@Iz.eq_def
theorem Zj:type_of% @Ht.eq_def:=@Ht.eq_def
theorem Zk:type_of% @ownKey.eq_def:=@ownKey.eq_def
theorem Zl:type_of% @makes.eq_def:=@makes.eq_def
theorem Zm:type_of% @roOf.eq_def:=@roOf.eq_def
theorem Zn:type_of% @Ctx.esize.eq_def:=@Ctx.esize.eq_def
theorem Zo:type_of% @Ctx.size.eq_def:=@Ctx.size.eq_def
theorem Zp:type_of% @Ctx.ag.eq_def:=@Ctx.ag.eq_def
theorem Zq:type_of% @TK.ag.eq_def:=@TK.ag.eq_def
theorem Zr:type_of% @Ctx.elemT.eq_def:=@Ctx.elemT.eq_def
theorem Zs:type_of% @Ctx.fieldAt.eq_def:=@Ctx.fieldAt.eq_def
theorem Zt:type_of% @hPick.eq_def:=@hPick.eq_def
theorem Zu:type_of% @hAlloc.eq_def:=@hAlloc.eq_def
theorem Zv:type_of% @hLoad.eq_def:=@hLoad.eq_def
theorem Zw:type_of% @hStore.eq_def:=@hStore.eq_def
theorem Zx:type_of% @Dp.eq_def:=@Dp.eq_def
theorem Zy:type_of% @Dn.eq_def:=@Dn.eq_def
theorem Zz:type_of% @hIndex.eq_def:=@hIndex.eq_def
theorem Z0:type_of% @hSlice.eq_def:=@hSlice.eq_def
theorem Z1:type_of% @Dq.eq_def:=@Dq.eq_def
theorem Z2:type_of% @hBuild.eq_def:=@hBuild.eq_def
theorem Z3:type_of% @E3.eq_def:=@E3.eq_def
theorem Z4:type_of% @De.eq_def:=@De.eq_def
theorem Z5:type_of% @hAppend.eq_def:=@hAppend.eq_def
theorem Z6:type_of% @hLen.eq_def:=@hLen.eq_def
theorem Z7:type_of% @hMin.eq_def:=@hMin.eq_def
theorem Z8:type_of% @hMax.eq_def:=@hMax.eq_def
theorem Z9:type_of% @hConv.eq_def:=@hConv.eq_def
theorem Qa:type_of% @Ia.eq_def:=@Ia.eq_def
theorem Qb:type_of% @hCall.eq_def:=@hCall.eq_def
theorem Qc:type_of% @hCallV.eq_def:=@hCallV.eq_def
theorem Qd:type_of% @hBin.eq_def:=@hBin.eq_def
theorem Qe:type_of% @hUn.eq_def:=@hUn.eq_def
theorem Qf:type_of% @Lz.eq_def:=@Lz.eq_def
theorem Qg:type_of% @outCV.eq_def:=@outCV.eq_def
theorem Qh:type_of% @R9.eq_def:=@R9.eq_def
theorem Qi:type_of% @mkTup.eq_def:=@mkTup.eq_def
theorem Qj:type_of% @mkAgg.eq_def:=@mkAgg.eq_def
theorem Qk:type_of% @mkClo.eq_def:=@mkClo.eq_def
theorem Ql:type_of% @evO.eq_def:=@evO.eq_def
theorem Qm:type_of% @splice.eq_def:=@splice.eq_def
theorem Qn:type_of% @AV.fits.eq_def:=@AV.fits.eq_def
theorem Qo:type_of% @Obj.isBox.eq_def:=@Obj.isBox.eq_def
theorem Qp:type_of% @retOk.eq_def:=@retOk.eq_def
theorem Qq:type_of% @resAV.eq_def:=@resAV.eq_def
theorem Qr:type_of% @Post.eq_def:=@Post.eq_def
theorem Qs:type_of% @aExecD.eq_def:=@aExecD.eq_def
theorem Qt:type_of% @aExecB.eq_def:=@aExecB.eq_def
theorem Qu:type_of% @bOf.eq_def:=@bOf.eq_def
theorem Qv:type_of% @cutOf.eq_def:=@cutOf.eq_def
theorem Qw:type_of% @AS.ev.eq_def:=@AS.ev.eq_def
theorem Qx:type_of% @aOps.eq_def:=@aOps.eq_def
theorem Qy:type_of% @keysAll.eq_def:=@keysAll.eq_def
theorem Qz:type_of% @AV.keys.eq_def:=@AV.keys.eq_def
theorem Q0:type_of% @C1.eq_def:=@C1.eq_def
theorem Q1:type_of% @Sk.eq_def:=@Sk.eq_def
theorem Q2:type_of% @E1.eq_def:=@E1.eq_def
theorem Q3:type_of% @allD.eq_def:=@allD.eq_def
theorem Q4:type_of% @Dg.eq_def:=@Dg.eq_def
theorem Q5:type_of% @allLt.eq_def:=@allLt.eq_def
theorem Q6:type_of% @setAll.eq_def:=@setAll.eq_def
theorem Q7:type_of% @allFit.eq_def:=@allFit.eq_def
theorem Q8:type_of% @evs.eq_def:=@evs.eq_def
theorem Q9:type_of% @L1.eq_def:=@L1.eq_def
theorem Ja:type_of% @lk.eq_def:=@lk.eq_def
theorem Jb:type_of% @upd.eq_def:=@upd.eq_def
theorem Jc:type_of% @lkC.eq_def:=@lkC.eq_def
theorem Jd:type_of% @resAll.eq_def:=@resAll.eq_def
theorem Je:type_of% @lkB.eq_def:=@lkB.eq_def
theorem Jf:type_of% @hasN.eq_def:=@hasN.eq_def
theorem Jg:type_of% @AV.off.eq_def:=@AV.off.eq_def
theorem Jh:type_of% @T5.eq_def:=@T5.eq_def
theorem Ji:type_of% @killCs.eq_def:=@killCs.eq_def
theorem Jj:type_of% @Lb.eq_def:=@Lb.eq_def
theorem Jk:type_of% @Option.toList.eq_def:=@Option.toList.eq_def
theorem Jl:type_of% @U0.eq_def:=@U0.eq_def
theorem Jm:type_of% @Ux.eq_def:=@Ux.eq_def
theorem Jn:type_of% @U8.eq_def:=@U8.eq_def
theorem Jo:type_of% @Dl.eq_1:=@Dl.eq_1
theorem Jp:type_of% @Dl.eq_2:=@Dl.eq_2
theorem Jq:type_of% @deads.eq_1:=@deads.eq_1
theorem Jr:type_of% @deads.eq_2:=@deads.eq_2
theorem Js:type_of% @K0.eq_3:=@K0.eq_3
theorem Jt:type_of% @K0.eq_4:=@K0.eq_4
theorem Ju:type_of% @getC.eq_1:=@getC.eq_1
theorem Jv:type_of% @getC.eq_2:=@getC.eq_2
theorem Jw:type_of% @getC.eq_3:=@getC.eq_3
theorem Jx:type_of% @Ki.eq_1:=@Ki.eq_1
theorem Jy:type_of% @Ki.eq_2:=@Ki.eq_2
theorem Jz:type_of% @Ki.eq_3:=@Ki.eq_3
theorem J0:type_of% @zerosD.eq_1:=@zerosD.eq_1
theorem J1:type_of% @zerosD.eq_2:=@zerosD.eq_2
theorem J2:type_of% @pur.eq_2:=@pur.eq_2
theorem J3:type_of% @pur.eq_3:=@pur.eq_3
theorem J4:type_of% @pur.eq_4:=@pur.eq_4
theorem J5:type_of% @pur.eq_7:=@pur.eq_7
theorem J6:type_of% @chk.eq_1:=@chk.eq_1
theorem J7:type_of% @chk.eq_2:=@chk.eq_2
theorem J8:type_of% @D.asAgg.eq_1:=@D.asAgg.eq_1
theorem J9:type_of% @D.setCell.eq_1:=@D.setCell.eq_1
theorem Xa:type_of% @AV.cells.eq_1:=@AV.cells.eq_1
theorem Xb:type_of% @AV.cells.eq_2:=@AV.cells.eq_2
theorem Xc:type_of% @Em.eq_1:=@Em.eq_1
theorem Xd:type_of% @L9.eq_1:=@L9.eq_1
theorem Xe:type_of% @Ms.eq_1:=@Ms.eq_1
theorem Xf:type_of% @Lr.eq_1:=@Lr.eq_1
theorem Xg:type_of% @con2t.eq_1:=@con2t.eq_1
theorem Xh:type_of% @Kl.eq_1:=@Kl.eq_1
theorem Xi:type_of% @awp_skip:=@awp_skip
theorem Xj:type_of% @awp_region:=@awp_region
theorem Xk:type_of% @awp_draw:=@awp_draw
theorem Xl:type_of% @awp_seq:=@awp_seq
theorem Xm:type_of% @sAwp_condT:=@sAwp_condT
theorem Xn:type_of% @awp_block:=@awp_block
theorem Xo:type_of% @awp_loop:=@awp_loop
theorem Xp:type_of% @awp_exit:=@awp_exit
theorem Xq:type_of% @awp_ret:=@awp_ret
theorem Xr:type_of% @sOp:=@sOp
theorem Xs:type_of% @sDraws_nil:=@sDraws_nil
theorem Xt:type_of% @sDraws_cons:=@sDraws_cons
theorem Xu:type_of% @sO1:=@sO1
theorem Xv:type_of% @sO2:=@sO2
theorem Xw:type_of% @sO3:=@sO3
theorem Xx:type_of% @sT1:=@sT1
theorem Xy:type_of% @sT2:=@sT2
theorem Xz:type_of% @sT3:=@sT3
theorem X0:type_of% @sT4:=@sT4
theorem X1:type_of% @sT5:=@sT5
theorem X2:type_of% @sC1:=@sC1
theorem X3:type_of% @sC2:=@sC2
theorem X4:type_of% @sC3:=@sC3
theorem X5:type_of% @sC4:=@sC4
theorem X6:type_of% @sA1:=@sA1
theorem X7:type_of% @sA2:=@sA2
theorem X8:type_of% @sP1:=@sP1
theorem X9:type_of% @sP2:=@sP2
theorem Wb:type_of% @sN1:=@sN1
theorem Wc:type_of% @sN2:=@sN2
theorem Wd:type_of% @sN3:=@sN3
theorem Wf:type_of% @sN4:=@sN4
theorem Wg:type_of% @sR1:=@sR1
theorem Wh:type_of% @sMapId:=@sMapId
theorem Wi:type_of% @sMapNil:=@sMapNil
theorem Wj:type_of% @sLenC:=@sLenC
theorem Wl:type_of% @sLenN:=@sLenN
theorem Wm:type_of% @sGet0:=@sGet0
theorem Wn:type_of% @sGet1:=@sGet1
theorem Wo:type_of% @getD_fl':=@getD_fl'
theorem Wp:type_of% @U7:=@U7
theorem Wq:type_of% @killK_fl:=@killK_fl
theorem Wr:type_of% @Ul:=@Ul
theorem Wt:type_of% @i_int:=@i_int
theorem Wu:type_of% @b_bool:=@b_bool
theorem Wv:type_of% @s_str:=@s_str
theorem Ww:type_of% @l_list:=@l_list
theorem Wx:type_of% @isInt_int:=@isInt_int
theorem Wy:type_of% @isBool_bool:=@isBool_bool
theorem Wz:type_of% @isStr_str:=@isStr_str
theorem W0:type_of% @isList_list:=@isList_list
theorem W1:type_of% @I7:=@I7
theorem W2:type_of% @fits_int:=@fits_int
theorem W3:type_of% @fits_bool:=@fits_bool
theorem W4:type_of% @fits_str:=@fits_str
theorem W5:type_of% @fits_list:=@fits_list
theorem W6:type_of% @fits_agg:=@fits_agg
theorem W7:type_of% @cell_int:=@cell_int
theorem W8:type_of% @cell_bool:=@cell_bool
theorem W9:type_of% @cell_str:=@cell_str
theorem Ya:type_of% @cell_list:=@cell_list
theorem Yb:type_of% @cell_agg:=@cell_agg
theorem Yc:type_of% @encI_def:=@encI_def
theorem Yd:type_of% @encB_def:=@encB_def
theorem Ye:type_of% @encS_def:=@encS_def
theorem Yf:type_of% @l_enc:=@l_enc
theorem Yg:type_of% @isList_enc:=@isList_enc
theorem Yh:type_of% @fits_encL:=@fits_encL
theorem Yi:type_of% @cell_encL:=@cell_encL
theorem Yj:type_of% @szI:=@szI
theorem Yk:type_of% @szB:=@szB
theorem Yl:type_of% @szS:=@szS
theorem Ym:type_of% @szL:=@szL
theorem Yn:type_of% @List.getD_cons_zero:=@List.getD_cons_zero
theorem Yo:type_of% @List.getD_cons_succ:=@List.getD_cons_succ
theorem Yp:type_of% @List.set_cons_zero:=@List.set_cons_zero
theorem Yq:type_of% @List.set_cons_succ:=@List.set_cons_succ
theorem Yr:type_of% @List.cons_append:=@List.cons_append
theorem Ys:type_of% @List.nil_append:=@List.nil_append
theorem Yt:type_of% @List.take_succ_cons:=@List.take_succ_cons
theorem Yu:type_of% @List.take_zero:=@List.take_zero
theorem Yv:type_of% @List.drop_succ_cons:=@List.drop_succ_cons
theorem Yw:type_of% @List.drop_zero:=@List.drop_zero
theorem Yx:type_of% @dec_int:=@dec_int
theorem Yy:type_of% @dec_str:=@dec_str
theorem Yz:type_of% @dec_encE:=@dec_encE
theorem Y0:type_of% @Ha:=@Ha
theorem Y1:type_of% @Pf:=@Pf
theorem Y2:type_of% @isE_int:=@isE_int
theorem Y3:type_of% @isE_str:=@isE_str
theorem Y4:type_of% @isE_encE:=@isE_encE
theorem Y5:type_of% @Bool.not_true:=@Bool.not_true
theorem Y6:type_of% @Bool.not_false:=@Bool.not_false
theorem Y7:type_of% @Int.toNat_natCast:=@Int.toNat_natCast
theorem Y8:type_of% @Int.toNat_zero:=@Int.toNat_zero
theorem Y9:type_of% @shut_eq:=@shut_eq
theorem Va:type_of% @sSl:=@sSl
theorem Vb:type_of% @sEl0:=@sEl0
theorem Vc:type_of% @sTn2:=@sTn2
theorem Vd:type_of% @sTn3:=@sTn3
theorem Ve:type_of% @sSc1:=@sSc1
theorem Vf:type_of% @sSc2:=@sSc2
theorem Vg:type_of% @sNc0:=@sNc0
theorem Vh:type_of% @sNc1:=@sNc1
theorem Vi:type_of% @sDec:=@sDec
theorem Vj:type_of% @sCv1:=@sCv1
theorem Vk:type_of% @sCv2:=@sCv2
theorem Vl:type_of% @sCv3:=@sCv3
theorem Vm:type_of% @sCv6:=@sCv6
theorem Vn:type_of% @sBy:=@sBy
theorem Vo:type_of% @Bool.and_true:=@Bool.and_true
theorem Vp:type_of% @Bool.true_and:=@Bool.true_and
theorem Vq:type_of% @Bool.false_and:=@Bool.false_and
theorem Vr:type_of% @sCl1:=@sCl1
theorem Vs:type_of% @sCl2:=@sCl2
theorem Vt:type_of% @sCl3:=@sCl3
theorem Vu:type_of% @sCl6:=@sCl6
theorem Vv:type_of% @sCl9:=@sCl9
theorem Vw:type_of% @sClc:=@sClc
theorem Vx:type_of% @sCle:=@sCle
theorem Vy:type_of% @Bool.true_eq_false:=@Bool.true_eq_false
theorem Vz:type_of% @Bool.false_eq_true:=@Bool.false_eq_true
theorem V0:type_of% @true_and:=@true_and
theorem V1:type_of% @and_true:=@and_true
theorem V2:type_of% @and_assoc:=@and_assoc
theorem V3:type_of% @List.length_map:=@List.length_map
theorem V4:type_of% @List.append_nil:=@List.append_nil
theorem V5:type_of% @extStep.eq_def:=@extStep.eq_def
theorem V6:type_of% @nilOf.eq_def:=@nilOf.eq_def
theorem V7:type_of% @nilArg.eq_def:=@nilArg.eq_def
theorem V8:type_of% @Bk.eq_def:=@Bk.eq_def
theorem V9:type_of% @hConvO.eq_def:=@hConvO.eq_def
theorem Ua:type_of% @u8s.eq_1:=@u8s.eq_1
theorem Ub:type_of% @u8s.eq_2:=@u8s.eq_2
theorem Uc:type_of% @u8b.eq_1:=@u8b.eq_1
theorem Ud:type_of% @u8b.eq_2:=@u8b.eq_2
theorem Ue:type_of% @flatA.eq_def:=@flatA.eq_def
theorem Uf:type_of% @flatAs.eq_def:=@flatAs.eq_def
theorem Ug:type_of% @leafA.eq_def:=@leafA.eq_def
theorem Uh:type_of% @leafAs.eq_def:=@leafAs.eq_def
theorem Ui:type_of% @E4.eq_def:=@E4.eq_def
theorem Uj:type_of% @Dd.eq_def:=@Dd.eq_def
theorem nc2:type_of% @Int.ofNat_eq_natCast:=@Int.ofNat_eq_natCast
theorem U6:(type_of% @List.length_cons.{0})∧(type_of% @List.length_nil.{0})∧(type_of% @List.cons_append.{0})∧(type_of% @List.nil_append.{0})∧(type_of% @and_assoc)∧(type_of% @true_and)∧(type_of% @and_true)∧(type_of% @List.map_cons.{0,0})∧(type_of% @List.map_nil.{0,0})∧(type_of% @isInt_int)∧(type_of% @isBool_bool)∧(type_of% @isStr_str)∧(type_of% @isList_list)∧(type_of% @I7)∧(type_of% @i_int)∧(type_of% @b_bool)∧(type_of% @s_str)∧(type_of% @l_list)∧(type_of% @fits_int)∧(type_of% @fits_bool)∧(type_of% @fits_str)∧(type_of% @fits_list)∧(type_of% @fits_agg)∧(type_of% @fits_ptr)∧(type_of% @fits_clo)∧(type_of% @fits_nilp)∧(type_of% @fits_nilf)∧(type_of% @cell_int)∧(type_of% @cell_bool)∧(type_of% @cell_str)∧(type_of% @cell_list)∧(type_of% @cell_clo)∧(type_of% @cell_ptr)∧(type_of% @cell_agg)∧(type_of% @encI_def)∧(type_of% @encB_def)∧(type_of% @encS_def)∧(type_of% @i_enc)∧(type_of% @b_enc)∧(type_of% @s_enc)∧(type_of% @isInt_enc)∧(type_of% @isBool_enc)∧(type_of% @isStr_enc)∧(type_of% @fits_encI)∧(type_of% @cell_encI)∧(type_of% @fits_encB)∧(type_of% @cell_encB)∧(type_of% @fits_encS)∧(type_of% @cell_encS)∧(type_of% @isAnyInt_enc)∧(type_of% @l_enc)∧(type_of% @isList_enc)∧(type_of% @fits_encL)∧(type_of% @cell_encL)∧(type_of% @dec_int)∧(type_of% @dec_bool)∧(type_of% @dec_str)∧(type_of% @dec_encE)∧(type_of% @isE_int)∧(type_of% @isE_bool)∧(type_of% @isE_str)∧(type_of% @isE_encE)∧(type_of% @Ha)∧(type_of% @Hc)∧(type_of% @isE_map)∧(type_of% @Pf)∧(type_of% @Hf)∧(type_of% @Hm)∧(type_of% @G4)∧(type_of% @leB_false)∧(type_of% @szI)∧(type_of% @szB)∧(type_of% @szS)∧(type_of% @szL)∧(type_of% @boolE)∧(type_of% @intE)∧(type_of% @strE)∧(type_of% @listE)∧(type_of% @encE)∧(type_of% @SlE)∧(type_of% @List.length_map.{0,0})∧(type_of% @List.length_append.{0})∧(type_of% @List.length_replicate.{0})∧(type_of% @Int.toNat_natCast)∧(type_of% @Bool.not_true)∧(type_of% @Bool.not_false)∧(type_of% @Bool.not_not)∧(type_of% @decide_true)∧(type_of% @decide_false)∧(type_of% @Bool.and_true)∧(type_of% @Bool.true_and)∧(type_of% @Bool.and_false)∧(type_of% @Bool.false_and)∧(type_of% @Bool.or_true)∧(type_of% @Bool.true_or)∧(type_of% @Bool.or_false)∧(type_of% @Bool.false_or)∧(type_of% @List.length_singleton.{0})∧(type_of% @decide_eq_true_eq)∧(type_of% @decide_eq_false_iff_not)∧(type_of% @beq_iff_eq.{0})∧(type_of% @beq_eq_false_iff_ne.{0})∧(type_of% @bne_iff_ne.{0})∧(type_of% @bne_eq_false_iff_eq.{0})∧(type_of% @Bool.not_eq_true')∧(type_of% @Bool.not_eq_false')∧(type_of% @forall_const.{1})∧(type_of% @true_imp_iff)∧(type_of% @false_imp_iff)∧(type_of% @if_true.{1})∧(type_of% @if_false.{1})∧(type_of% @and_self)∧(type_of% @or_self)∧(type_of% @not_true)∧(type_of% @not_false_eq_true)∧(type_of% @List.append_nil.{0})∧(type_of% @D.bool.injEq)∧(type_of% @D.int.injEq)∧(type_of% @D.str.injEq)∧(type_of% @D.list.injEq)∧(type_of% @D.agg.injEq)∧(type_of% @bne_self_eq_false.{0})∧(type_of% @CV.d.injEq)∧(type_of% @CV.own.injEq)∧(type_of% @CV.tup.injEq)∧(type_of% @List.cons.injEq.{0})∧(type_of% @List.toList_toArray.{0})∧(type_of% @Option.some.injEq.{0})∧(type_of% @Prod.mk.injEq.{0,0})∧(type_of% @List.take_succ_cons.{0})∧(type_of% @List.take_zero.{0})∧(type_of% @List.drop_succ_cons.{0})∧(type_of% @List.drop_zero.{0})∧(type_of% @List.getD_nil.{0})∧(type_of% @map_snoc)∧(type_of% @map_snocI)∧(type_of% @map_snocB)∧(type_of% @map_snocS)∧(type_of% @map_cat)∧(type_of% @List.not_mem_nil.{0})∧(type_of% @false_implies)∧(type_of% @implies_true.{1})∧(type_of% @List.mem_cons.{0})∧(type_of% @or_false)∧(type_of% @forall_eq_or_imp.{1})∧(type_of% @forall_eq.{1})∧(type_of% @ne_eq.{1})∧(type_of% @cond_true.{1})∧(type_of% @cond_false.{1})∧(type_of% @Bool.false_eq_true):=⟨@List.length_cons.{0},@List.length_nil.{0},@List.cons_append.{0},@List.nil_append.{0},@and_assoc,@true_and,@and_true,@List.map_cons.{0,0},@List.map_nil.{0,0},@isInt_int,@isBool_bool,@isStr_str,@isList_list,@I7,@i_int,@b_bool,@s_str,@l_list,@fits_int,@fits_bool,@fits_str,@fits_list,@fits_agg,@fits_ptr,@fits_clo,@fits_nilp,@fits_nilf,@cell_int,@cell_bool,@cell_str,@cell_list,@cell_clo,@cell_ptr,@cell_agg,@encI_def,@encB_def,@encS_def,@i_enc,@b_enc,@s_enc,@isInt_enc,@isBool_enc,@isStr_enc,@fits_encI,@cell_encI,@fits_encB,@cell_encB,@fits_encS,@cell_encS,@isAnyInt_enc,@l_enc,@isList_enc,@fits_encL,@cell_encL,@dec_int,@dec_bool,@dec_str,@dec_encE,@isE_int,@isE_bool,@isE_str,@isE_encE,@Ha,@Hc,@isE_map,@Pf,@Hf,@Hm,@G4,@leB_false,@szI,@szB,@szS,@szL,@boolE,@intE,@strE,@listE,@encE,@SlE,@List.length_map.{0,0},@List.length_append.{0},@List.length_replicate.{0},@Int.toNat_natCast,@Bool.not_true,@Bool.not_false,@Bool.not_not,@decide_true,@decide_false,@Bool.and_true,@Bool.true_and,@Bool.and_false,@Bool.false_and,@Bool.or_true,@Bool.true_or,@Bool.or_false,@Bool.false_or,@List.length_singleton.{0},@decide_eq_true_eq,@decide_eq_false_iff_not,@beq_iff_eq.{0},@beq_eq_false_iff_ne.{0},@bne_iff_ne.{0},@bne_eq_false_iff_eq.{0},@Bool.not_eq_true',@Bool.not_eq_false',@forall_const.{1},@true_imp_iff,@false_imp_iff,@if_true.{1},@if_false.{1},@and_self,@or_self,@not_true,@not_false_eq_true,@List.append_nil.{0},@D.bool.injEq,@D.int.injEq,@D.str.injEq,@D.list.injEq,@D.agg.injEq,@bne_self_eq_false.{0},@CV.d.injEq,@CV.own.injEq,@CV.tup.injEq,@List.cons.injEq.{0},@List.toList_toArray.{0},@Option.some.injEq.{0},@Prod.mk.injEq.{0,0},@List.take_succ_cons.{0},@List.take_zero.{0},@List.drop_succ_cons.{0},@List.drop_zero.{0},@List.getD_nil.{0},@map_snoc,@map_snocI,@map_snocB,@map_snocS,@map_cat,@List.not_mem_nil.{0},@false_implies,@implies_true.{1},@List.mem_cons.{0},@or_false,@forall_eq_or_imp.{1},@forall_eq.{1},@ne_eq.{1},@cond_true.{1},@cond_false.{1},@Bool.false_eq_true⟩
theorem wkq {p:Prop} (h:p:=by ((try simp only [Ul,U0,Ux,U8,upd,U7,Ki,K0,Nat.reduceDiv,Nat.reduceMod,Nat.reduceMul,Nat.reduceAdd,Nat.reduceEqDiff,List.set_cons_zero,List.set_cons_succ,if_true,if_false,reduceIte]);(first|refine Wk.of_fl ?_|skip);simp only [Wk,wkK,Ga,wkT,wk1,AV.kept,keptAll,wkO,lk,Uw,and_true,true_and,and_self,Nat.reduceEqDiff,Nat.reduceLeDiff,if_true,if_false,reduceIte,reduceCtorEq,Option.isSome,false_implies];try simp [Wk,wkK,wkT,wk1,AV.kept,keptAll,wkO,lk,Uw])):p:=h
theorem okq {ops:List Oper} {acc:List (Nat×List Nat×Bool)} (h:okD ops acc=true:=by kernel_rfl):okD ops acc=true:=h
end Go.Am
namespace Go.Am.Ty
open Go.Proofs
open Enc (enc dec)
def tt:List (Nat×TI):=[(2,⟨.int .i64,1,8,.d (.int .i64 0),.int .i64 0,[]⟩),(3,⟨.int .i64,1,8,.d (.int .i64 0),.int .i64 0,[]⟩),(4,⟨.bool,1,1,.d (.bool false),.bool false,[]⟩),(5,⟨.int .u8,1,1,.d (.int .u8 0),.int .u8 0,[]⟩),(9,⟨.str,1,16,.d (.str []),.str [],[]⟩),(22,⟨.slice 9,1,24,.nils 1,.list 1 [],[]⟩),(24,⟨.struct [(0,1),(1,1)],2,48,.agg [.nils 1,.nils 1],.agg [.list 1 [],.list 1 []],[]⟩),(25,⟨.slice 38,1,24,.nils 4,.list 4 [],[]⟩),(29,⟨.int .i64,1,8,.d (.int .i64 0),.int .i64 0,[]⟩),(35,⟨.slice 54,1,24,.nils 3,.list 3 [],[]⟩),(36,⟨.slice 109,1,24,.nils 3,.list 3 [],[]⟩),(38,⟨.struct [(0,1),(1,1),(2,1),(3,1)],4,88,.agg [.d (.str []),.nils 1,.nils 3,.nils 3],.agg [.str [],.list 1 [],.list 3 [],.list 3 []],[]⟩),(40,⟨.slice 3,1,24,.nils 1,.list 1 [],[]⟩),(46,⟨.slice 49,1,24,.nils 3,.list 3 [],[]⟩),(49,⟨.struct [(0,1),(1,1),(2,1)],3,32,.d (.agg [.int .i64 0,.str [],.int .i64 0]),.agg [.int .i64 0,.str [],.int .i64 0],[.int .i64,.str,.int .i64]⟩),(52,⟨.slice 57,1,24,.nils 8,.list 8 [],[]⟩),(54,⟨.struct [(0,1),(1,1),(2,1)],3,64,.agg [.d (.str []),.nils 3,.nils 8],.agg [.str [],.list 3 [],.list 8 []],[]⟩),(57,⟨.struct [(0,1),(1,1),(2,1),(3,1),(4,1),(5,1),(6,1),(7,1)],8,120,.agg [.d (.int .i64 0),.d (.str []),.d (.str []),.d (.str []),.d (.int .i64 0),.d (.int .i64 0),.nils 3,.nils 3],.agg [.int .i64 0,.str [],.str [],.str [],.int .i64 0,.int .i64 0,.list 3 [],.list 3 []],[]⟩),(58,⟨.slice 46,1,24,.nils 1,.list 1 [],[]⟩),(62,⟨.slice 4,1,24,.nils 1,.list 1 [],[]⟩),(67,⟨.slice 75,1,24,.nils 4,.list 4 [],[]⟩),(71,⟨.struct [(0,1),(1,1),(2,1)],3,40,.agg [.d (.int .i64 0),.nils 3,.d (.int .i64 0)],.agg [.int .i64 0,.list 3 [],.int .i64 0],[]⟩),(75,⟨.struct [(0,1),(1,1),(2,1),(3,1)],4,40,.d (.agg [.int .i64 0,.str [],.int .i64 0,.int .i64 0]),.agg [.int .i64 0,.str [],.int .i64 0,.int .i64 0],[.int .i64,.str,.int .i64,.int .i64]⟩),(109,⟨.struct [(0,1),(1,1),(2,1)],3,24,.d (.agg [.int .i64 0,.int .i64 0,.bool false]),.agg [.int .i64 0,.int .i64 0,.bool false],[.int .i64,.int .i64,.bool]⟩),(113,⟨.slice 5,1,24,.nils 1,.list 1 [],[]⟩),(125,⟨.struct [(0,1),(1,1),(2,1),(3,1)],4,48,.agg [.d (.int .i64 0),.d (.int .i64 0),.nils 3,.d (.int .i64 0)],.agg [.int .i64 0,.int .i64 0,.list 3 [],.int .i64 0],[]⟩),(128,⟨.slice 52,1,24,.nils 1,.list 1 [],[]⟩)]
def tab:Nat→TI:=lkT tt
set_option maxRecDepth 100000 in
theorem Ep:tab 2=⟨.int .i64,1,8,.d (.int .i64 0),.int .i64 0,[]⟩:=rfl
set_option maxRecDepth 100000 in
theorem U5:tab 3=⟨.int .i64,1,8,.d (.int .i64 0),.int .i64 0,[]⟩:=rfl
set_option maxRecDepth 100000 in
theorem K9:tab 4=⟨.bool,1,1,.d (.bool false),.bool false,[]⟩:=rfl
set_option maxRecDepth 100000 in
theorem Pd:tab 5=⟨.int .u8,1,1,.d (.int .u8 0),.int .u8 0,[]⟩:=rfl
set_option maxRecDepth 100000 in
theorem Kh:tab 9=⟨.str,1,16,.d (.str []),.str [],[]⟩:=rfl
set_option maxRecDepth 100000 in
theorem Gg:tab 22=⟨.slice 9,1,24,.nils 1,.list 1 [],[]⟩:=rfl
set_option maxRecDepth 100000 in
theorem Ce:tab 24=⟨.struct [(0,1),(1,1)],2,48,.agg [.nils 1,.nils 1],.agg [.list 1 [],.list 1 []],[]⟩:=rfl
set_option maxRecDepth 100000 in
theorem G6:tab 25=⟨.slice 38,1,24,.nils 4,.list 4 [],[]⟩:=rfl
set_option maxRecDepth 100000 in
theorem Ks:tab 29=⟨.int .i64,1,8,.d (.int .i64 0),.int .i64 0,[]⟩:=rfl
set_option maxRecDepth 100000 in
theorem Pq:tab 35=⟨.slice 54,1,24,.nils 3,.list 3 [],[]⟩:=rfl
set_option maxRecDepth 100000 in
theorem Mr:tab 36=⟨.slice 109,1,24,.nils 3,.list 3 [],[]⟩:=rfl
set_option maxRecDepth 100000 in
theorem Gm:tab 38=⟨.struct [(0,1),(1,1),(2,1),(3,1)],4,88,.agg [.d (.str []),.nils 1,.nils 3,.nils 3],.agg [.str [],.list 1 [],.list 3 [],.list 3 []],[]⟩:=rfl
set_option maxRecDepth 100000 in
theorem Gq:tab 40=⟨.slice 3,1,24,.nils 1,.list 1 [],[]⟩:=rfl
set_option maxRecDepth 100000 in
theorem K6:tab 46=⟨.slice 49,1,24,.nils 3,.list 3 [],[]⟩:=rfl
set_option maxRecDepth 100000 in
theorem K1:tab 49=⟨.struct [(0,1),(1,1),(2,1)],3,32,.d (.agg [.int .i64 0,.str [],.int .i64 0]),.agg [.int .i64 0,.str [],.int .i64 0],[.int .i64,.str,.int .i64]⟩:=rfl
set_option maxRecDepth 100000 in
theorem Gp:tab 52=⟨.slice 57,1,24,.nils 8,.list 8 [],[]⟩:=rfl
set_option maxRecDepth 100000 in
theorem Pp:tab 54=⟨.struct [(0,1),(1,1),(2,1)],3,64,.agg [.d (.str []),.nils 3,.nils 8],.agg [.str [],.list 3 [],.list 8 []],[]⟩:=rfl
set_option maxRecDepth 100000 in
theorem Gd:tab 57=⟨.struct [(0,1),(1,1),(2,1),(3,1),(4,1),(5,1),(6,1),(7,1)],8,120,.agg [.d (.int .i64 0),.d (.str []),.d (.str []),.d (.str []),.d (.int .i64 0),.d (.int .i64 0),.nils 3,.nils 3],.agg [.int .i64 0,.str [],.str [],.str [],.int .i64 0,.int .i64 0,.list 3 [],.list 3 []],[]⟩:=rfl
set_option maxRecDepth 100000 in
theorem Nw:tab 58=⟨.slice 46,1,24,.nils 1,.list 1 [],[]⟩:=rfl
set_option maxRecDepth 100000 in
theorem Ll:tab 62=⟨.slice 4,1,24,.nils 1,.list 1 [],[]⟩:=rfl
set_option maxRecDepth 100000 in
theorem K2:tab 67=⟨.slice 75,1,24,.nils 4,.list 4 [],[]⟩:=rfl
set_option maxRecDepth 100000 in
theorem G5:tab 71=⟨.struct [(0,1),(1,1),(2,1)],3,40,.agg [.d (.int .i64 0),.nils 3,.d (.int .i64 0)],.agg [.int .i64 0,.list 3 [],.int .i64 0],[]⟩:=rfl
set_option maxRecDepth 100000 in
theorem Ku:tab 75=⟨.struct [(0,1),(1,1),(2,1),(3,1)],4,40,.d (.agg [.int .i64 0,.str [],.int .i64 0,.int .i64 0]),.agg [.int .i64 0,.str [],.int .i64 0,.int .i64 0],[.int .i64,.str,.int .i64,.int .i64]⟩:=rfl
set_option maxRecDepth 100000 in
theorem H2:tab 109=⟨.struct [(0,1),(1,1),(2,1)],3,24,.d (.agg [.int .i64 0,.int .i64 0,.bool false]),.agg [.int .i64 0,.int .i64 0,.bool false],[.int .i64,.int .i64,.bool]⟩:=rfl
set_option maxRecDepth 100000 in
theorem tab113:tab 113=⟨.slice 5,1,24,.nils 1,.list 1 [],[]⟩:=rfl
set_option maxRecDepth 100000 in
theorem Nr:tab 125=⟨.struct [(0,1),(1,1),(2,1),(3,1)],4,48,.agg [.d (.int .i64 0),.d (.int .i64 0),.nils 3,.d (.int .i64 0)],.agg [.int .i64 0,.int .i64 0,.list 3 [],.int .i64 0],[]⟩:=rfl
set_option maxRecDepth 100000 in
theorem B9:tab 128=⟨.slice 52,1,24,.nils 1,.list 1 [],[]⟩:=rfl
theorem G7:B8 Try.prog tab:=tabOk_of (by kernel_rfl)
theorem Kw:Try.prog.follows .mixedOrders=true:=by kernel_rfl
instance encU8:Enc UInt8:=⟨fun b=>.int .u8 b.toNat,fun x=>UInt8.ofNat x.i.toNat,fun b=>by simp [D.i]⟩
instance szU8:Sz UInt8:=⟨1⟩
theorem enc_U8 {b:UInt8}:(enc b:D)=.int .u8 b.toNat:=rfl
theorem isE_U8 {b:UInt8}:isE UInt8 (.int .u8 b.toNat)=True:=eq_true (Cp b)
theorem dec_U8 {b:UInt8}:(dec (.int .u8 b.toNat):UInt8)=b:=Enc.dec_enc b
def P5 (c a b:UInt8):Bool:=decide (a≤c)&&decide (c≤b)
theorem K8 {a b:UInt8}:leB (a.toNat:Int) (b.toNat:Int)=decide (a≤b):=by
 unfold leB
 congr 1
 rw [UInt8.le_iff_toNat_le]
 exact propext (by omega)
def Hs:Con:=Lr (fun (_ _ _:UInt8)=>True) (fun c a b=>P5 c a b)
noncomputable def ctx_within:Ctx:=⟨tab,lkC [],60,lkB [],[],false⟩
theorem ctx_within_t:ctx_within.τ=tab:=rfl
theorem ctx_within_d:ctx_within.dp=60:=rfl
set_option maxRecDepth 100000 in
theorem Fw:Hg Try.prog (56,Hs):=by
 refine ⟨Ke Try.func56 (by kernel_rfl) rfl,?_⟩
 have K:Gu Try.prog ctx_within:=Ko G7 Kw (by simp) (by simp)
 obtain ⟨c,hc⟩:∃ c,Try.f56.body=some c:=⟨_,rfl⟩
 refine Kn K Try.func56 hc [.tmp 6] rfl 15 rfl (fun cvs hpre=>?_)
 change Hs.pre cvs at hpre
 unfold Hs at hpre
 obtain ⟨x,y,z,rfl,-⟩:=Is hpre
 simp only [Try.f56,aZ] at hc
 subst hc
 (sym=>simp [enc_U8,isE_U8,dec_U8,K8,ctx_within_t,ctx_within_d,Hs.eq_def,Za,Zb,Zc,Zd,Ze,Zf,Zt,Qd,Qf,Qp,Qq,Qr,Qs,Qu,Qv,Qw,Qx,Q1,Jd,Jj,Jq,Jr,J2,Xf,Xj,Xl,Xq,Xr,Xu,Xw,Xx,X6,X7,X8,X9,Wc,Wf,Wj,Wl,Wm,Wn,Wt,Wx,Yd,Yn,Yo,Yp,Yq,Yr,Ys,Vk,Vy,Vz,V0,V1,V5,V6,Pd];tactic =>
  try simp only [Uq] at *;try simp only [nc2] at *
  try simp (maxSteps:=4000000) only [enc_U8,isE_U8,dec_U8,K8,U6]
  repeat' first|with_reducible assumption|with_reducible apply And.intro|intro _|omega|(rw [Uk];omega)
  ·rename_i h
   unfold P5
   simp [h]
  ·rename_i h
   unfold P5
   rw [decide_eq_false h]
   rfl)
def behind (c:UInt8):Bool:=P5 c 97 122||P5 c 65 90||P5 c 48 57||c==95
theorem Ds {a b:UInt8}:((a.toNat:Int)==(b.toNat:Int))=(a==b):=by
 rw [Bool.eq_iff_iff,cQ,cQ]
 constructor
 ·intro h;exact UInt8.toNat_inj.1 (by omega)
 ·intro h;rw [h]
theorem b97:D.int .u8 97=enc (97:UInt8):=rfl
theorem b122:D.int .u8 122=enc (122:UInt8):=rfl
theorem b65:D.int .u8 65=enc (65:UInt8):=rfl
theorem b90:D.int .u8 90=enc (90:UInt8):=rfl
theorem b48:D.int .u8 48=enc (48:UInt8):=rfl
theorem b57:D.int .u8 57=enc (57:UInt8):=rfl
theorem Kq {b:UInt8}:(.int .u8 b.toNat:D)=enc b:=rfl
theorem U9 {k:IntKind} {x:UInt8}:D.isInt k (enc x)=(.u8=k):=rfl
theorem G9 {x:UInt8}:D.i (enc x)=x.toNat:=rfl
theorem Kf {s:Nat} {x:UInt8}:D.fits s (enc x)=(s=1):=rfl
theorem Kg {f:Nat} {x:UInt8}:D.cell (enc x) f=enc x:=rfl
theorem eq95 {x:UInt8}:((x.toNat:Int)==95)=(x==95):=Ds (b:=95)
def Fp:Con:=L9 (fun (_:UInt8)=>True) (fun c=>behind c)
noncomputable def Ak:Ctx:=⟨tab,lkC [(56,Hs)],60,lkB [],[],false⟩
theorem ctx_behind_t:Ak.τ=tab:=rfl
theorem ctx_behind_c:Ak.Γ=lkC [(56,Hs)]:=rfl
theorem ctx_behind_d:Ak.dp=60:=rfl
theorem ctx_behind_b:Ak.Δ=lkB []:=rfl
theorem ctx_behind_u:Ak.cuts=[]:=rfl
set_option maxRecDepth 100000 in
theorem good_behind:Hg Try.prog (71,Fp):=by
 refine ⟨Ke Try.func71 (by kernel_rfl) rfl,?_⟩
 have K:Gu Try.prog Ak:=Ko G7 Kw (by
  intro p hp
  simp only [bQ,bZ,or_false] at hp
  rcases hp with rfl
  ·exact Fw) (by simp)
 obtain ⟨c,hc⟩:∃ c,Try.f71.body=some c:=⟨_,rfl⟩
 refine Kn K Try.func71 hc [.tmp 2] rfl 17 rfl (fun cvs hpre=>?_)
 change Fp.pre cvs at hpre
 unfold Fp at hpre
 obtain ⟨x,rfl,-⟩:=Mt hpre
 simp only [Try.f71,aZ] at hc
 subst hc
 (sym=>simp [b97,b122,b65,b90,b48,b57,Kq,U9,G9,Kf,Kg,K8,eq95,ctx_behind_t,ctx_behind_c,ctx_behind_d,ctx_behind_b,ctx_behind_u,Fp.eq_def,Hs.eq_def,Za,Zb,Zc,Zd,Ze,Zf,Zt,Qb,Qd,Qf,Qg,Qh,Qp,Qq,Qr,Qs,Qu,Qv,Qw,Qx,Q1,Q8,Jc,Jd,Je,Jf,Jj,Jq,Jr,J2,Xd,Xf,Xj,Xl,Xq,Xr,Xu,Xw,Xx,X6,X7,X8,X9,Wb,Wc,Wd,Wf,Wj,Wl,Wm,Wn,Wt,Wx,Yd,Yn,Yo,Yp,Yq,Yr,Ys,Yz,Y4,Vj,Vk,Vy,Vz,V0,V1,V5,V6,Pd];tactic =>
  try simp only [Uq] at *;try simp only [nc2] at *
  try simp (maxSteps:=4000000) only [b97,b122,b65,b90,b48,b57,Kq,U9,G9,Kf,Kg,K8,eq95,U6]
  unfold behind
  refine ⟨fun h1=>⟨fun h2=>⟨fun h3=>?_,fun h3=>?_⟩,fun h2=>?_⟩,fun h1=>?_⟩
  all_goals simp only [*,Bool.false_or,Bool.true_or,Bool.or_true])
def behindAll (s:List UInt8):Bool:=s.all behind
theorem drop1_getD {s:List UInt8} {j:Nat}:(s.drop 1).getD j 0=s.getD (j+1) 0:=by
 simp [aY,Nat.add_comm]
def Ev:Con:=L9 (fun (s:List UInt8)=>s.length≤9223372036854775807) (fun s=>behindAll (s.drop 1))
noncomputable def ctx_all1:Ctx:=⟨tab,lkC [(71,Fp)],60,lkB [],[],false⟩
theorem ctx_all1_t:ctx_all1.τ=tab:=rfl
theorem ctx_all1_c:ctx_all1.Γ=lkC [(71,Fp)]:=rfl
theorem ctx_all1_d:ctx_all1.dp=60:=rfl
theorem ctx_all1_b:ctx_all1.Δ=lkB []:=rfl
theorem ctx_all1_w:ctx_all1.wr=false:=rfl
set_option maxRecDepth 100000 in
theorem good_all1:Hg Try.prog (57,Ev):=by
 refine ⟨Ke Try.func57 (by kernel_rfl) rfl,?_⟩
 have K:Gu Try.prog ctx_all1:=Ko G7 Kw (by
  intro p hp
  simp only [bQ,bZ,or_false] at hp
  rcases hp with rfl
  ·exact good_behind) (by simp)
 obtain ⟨c,hc⟩:∃ c,Try.f57.body=some c:=⟨_,rfl⟩
 refine Kn K Try.func57 hc [.tmp 2] rfl 15 rfl (fun cvs hpre=>?_)
 change Ev.pre cvs at hpre
 unfold Ev at hpre
 obtain ⟨s,rfl,hs⟩:=Mt hpre
 simp only [Try.f57,aZ] at hc
 subst hc
 (sym=>simp [Ev.eq_def,Za,Zb,Zc,Ze,Zf,Qs,Qu,Qv,Qw,Qx,Jj,Jq,Jr,Xd,Xj,Xl,Xn,Xo,Xr,Xu,Xw,X6,X7,X8,X9,Wc,Wf,Wj,Wl,Yd,Ye,Yp,Yq,Yr,Ys,Yy,Vj,Vk,V0,V5,V6,U5,K9,Kh];tactic =>
  try simp only [Uq] at *;try simp only [nc2] at *
  try simp (maxSteps:=4000000) only [U6]
  refine Kk [2,4,5,6,7,8,9,10,11,12,13,14] (fun k:Nat=>[(3,.d (.int .i64 k))]) (fun k:Nat=>[]) (fun k:Nat=>1≤k∧(k=1∨k≤s.length)∧∀ j,1≤j→j<k→behind (s.getD j 0)=true) (fun k:Nat=>s.length-k) 1 ?_ ?_ ?_
  ·simp
   omega
  ·exact wkq
  rintro k ⟨hk1,hk,hno⟩
  rcases Kt k s.length with ⟨hlt,hlb⟩|⟨hlt,hlb⟩
  ·(sym=>simp [hlb,Kq,U9,G9,Kf,Kg,K8,ctx_all1_t,ctx_all1_c,ctx_all1_d,ctx_all1_b,ctx_all1_w,Fp.eq_def,Zb,Zc,Ze,Zf,Zg,Zz,Z6,Qb,Qd,Qe,Qf,Qg,Qh,Qp,Qq,Qr,Qs,Qu,Qv,Qw,Qx,Q1,Q8,Jc,Jd,Je,Jl,Jm,Jn,J2,Xd,Xi,Xj,Xl,Xm,Xn,Xq,Xr,Xu,Xw,Xx,X6,X7,Wb,Wd,Wf,Wr,Wt,Wu,Wv,Wx,Wy,Wz,W1,Yd,Yn,Yo,Yp,Yq,Yz,Y4,Y7,Y9,Vj,Vk,Vy,V0,V1,V2,V5,V6,U5,K9,Kh];tactic =>
    try simp only [Uq] at *;try simp only [nc2] at *
    try simp (maxSteps:=4000000) only [hlb,Kq,U9,G9,Kf,Kg,K8,U6]
    repeat' first|with_reducible assumption|with_reducible apply And.intro|intro _|omega|(rw [Uk];omega)
    ·rename_i hb
     unfold behindAll
     rw [all_not (p:=behind) 0 (k-1) (by rw [List.length_drop];omega) (by rw [drop1_getD,show k-1+1=k by omega];exact hb)]
    ·rename_i hb
     refine ⟨k+1,wkq,by omega,by omega,fun j h1 hj=>?_,by omega⟩
     by_cases hjk:j=k
     ·subst hjk;exact hb
     ·exact hno j h1 (by omega))
  ·(sym=>simp [hlb,ctx_all1_t,ctx_all1_d,Zb,Zc,Ze,Zf,Zg,Z6,Qd,Qf,Qp,Qq,Qr,Qs,Qu,Qv,Qw,Qx,Q1,Jd,Jl,Jm,Jn,J2,Xj,Xl,Xm,Xp,Xq,Xr,Xu,Xw,Xx,X6,X7,Wr,Wt,Wv,Wx,Wz,Yn,Yo,Yp,Yq,Y9,Vk,Vz,V0,V1,V2,V5,V6,U5,K9,Kh];tactic =>
    try simp only [Uq] at *;try simp only [nc2] at *
    try simp (maxSteps:=4000000) only [hlb,U6]
    unfold behindAll
    rw [all_of_lt (p:=behind) 0 fun j hj=>?_]
    rw [drop1_getD]
    rw [List.length_drop] at hj
    exact hno (j+1) (by omega) (by omega)))
def Lf (s:List UInt8):Bool:=match s with
 | []=>false
 | c::r=>P5 c 97 122&&behindAll r
def A7 (s:List UInt8):Bool:=match s with
 | []=>false
 | c::r=>P5 c 65 90&&behindAll r
def Kd:Con:=L9 (fun (s:List UInt8)=>s.length≤9223372036854775807) (fun s=>Lf s)
theorem lY:type_of% @Kd.eq_def:=@Kd.eq_def
noncomputable def Ir:Ctx:=⟨tab,lkC [(56,Hs),(57,Ev)],60,lkB [],[],false⟩
theorem ctx_IsWord1_t:Ir.τ=tab:=rfl
theorem ctx_IsWord1_c:Ir.Γ=lkC [(56,Hs),(57,Ev)]:=rfl
theorem ctx_IsWord1_d:Ir.dp=60:=rfl
theorem ctx_IsWord1_b:Ir.Δ=lkB []:=rfl
set_option maxRecDepth 100000 in
theorem Cr:Hg Try.prog (42,Kd):=by
 refine ⟨Ke Try.func42 (by kernel_rfl) rfl,?_⟩
 have K:Gu Try.prog Ir:=Ko G7 Kw (by
  intro p hp
  simp only [bQ,bZ,or_false] at hp
  rcases hp with rfl|rfl
  ·exact Fw
  ·exact good_all1) (by simp)
 obtain ⟨c,hc⟩:∃ c,Try.f42.body=some c:=⟨_,rfl⟩
 refine Kn K Try.func42 hc [.tmp 2] rfl 15 rfl (fun cvs hpre=>?_)
 change Kd.pre cvs at hpre
 unfold Kd at hpre
 obtain ⟨s,rfl,hs⟩:=Mt hpre
 simp only [Try.f42,aZ] at hc
 subst hc
 (sym=>simp [Kq,U9,G9,Kf,Kg,K8,b97,b122,ctx_IsWord1_t,ctx_IsWord1_c,ctx_IsWord1_d,ctx_IsWord1_b,lY,Ev.eq_def,Hs.eq_def,Za,Zb,Zc,Zd,Ze,Zf,Zt,Zz,Z6,Qb,Qd,Qf,Qg,Qh,Qp,Qq,Qr,Qs,Qu,Qv,Qw,Qx,Q1,Q8,Jc,Jd,Je,Jj,Jq,Jr,J2,Xd,Xf,Xj,Xl,Xq,Xr,Xu,Xw,Xx,X6,X7,X8,X9,Wb,Wc,Wd,Wf,Wj,Wl,Wm,Wn,Wt,Wv,Wx,Wz,W1,Yd,Ye,Yn,Yo,Yp,Yq,Yr,Ys,Yy,Yz,Y3,Y4,Y8,Vj,Vk,Vy,Vz,V0,V1,V5,V6,U5,Kh];tactic =>
  try simp only [Uq] at *;try simp only [nc2] at *
  try simp (maxSteps:=4000000) only [Kq,U9,G9,Kf,Kg,K8,b97,b122,U6]
  cases s with
  | nil=>simp [Lf]
  | cons c r =>
   simp only [bJ] at hs
   simp only [bJ,Lf,Int.toNat_zero,List.getD_cons_zero,List.drop_succ_cons,List.drop_zero]
   repeat' first|with_reducible assumption|with_reducible apply And.intro|intro _|omega|(rw [Uk];omega)
   all_goals simp_all)
def Kj:Con:=L9 (fun (s:List UInt8)=>s.length≤9223372036854775807) (fun s=>A7 s)
theorem lV:type_of% @Kj.eq_def:=@Kj.eq_def
noncomputable def ctx_IsTag1:Ctx:=⟨tab,lkC [(56,Hs),(57,Ev)],60,lkB [],[],false⟩
theorem ctx_IsTag1_t:ctx_IsTag1.τ=tab:=rfl
theorem ctx_IsTag1_c:ctx_IsTag1.Γ=lkC [(56,Hs),(57,Ev)]:=rfl
theorem ctx_IsTag1_d:ctx_IsTag1.dp=60:=rfl
theorem ctx_IsTag1_b:ctx_IsTag1.Δ=lkB []:=rfl
set_option maxRecDepth 100000 in
theorem Fx:Hg Try.prog (40,Kj):=by
 refine ⟨Ke Try.func40 (by kernel_rfl) rfl,?_⟩
 have K:Gu Try.prog ctx_IsTag1:=Ko G7 Kw (by
  intro p hp
  simp only [bQ,bZ,or_false] at hp
  rcases hp with rfl|rfl
  ·exact Fw
  ·exact good_all1) (by simp)
 obtain ⟨c,hc⟩:∃ c,Try.f40.body=some c:=⟨_,rfl⟩
 refine Kn K Try.func40 hc [.tmp 2] rfl 15 rfl (fun cvs hpre=>?_)
 change Kj.pre cvs at hpre
 unfold Kj at hpre
 obtain ⟨s,rfl,hs⟩:=Mt hpre
 simp only [Try.f40,aZ] at hc
 subst hc
 (sym=>simp [Kq,U9,G9,Kf,Kg,K8,b65,b90,ctx_IsTag1_t,ctx_IsTag1_c,ctx_IsTag1_d,ctx_IsTag1_b,lV,Ev.eq_def,Hs.eq_def,Za,Zb,Zc,Zd,Ze,Zf,Zt,Zz,Z6,Qb,Qd,Qf,Qg,Qh,Qp,Qq,Qr,Qs,Qu,Qv,Qw,Qx,Q1,Q8,Jc,Jd,Je,Jj,Jq,Jr,J2,Xd,Xf,Xj,Xl,Xq,Xr,Xu,Xw,Xx,X6,X7,X8,X9,Wb,Wc,Wd,Wf,Wj,Wl,Wm,Wn,Wt,Wv,Wx,Wz,W1,Yd,Ye,Yn,Yo,Yp,Yq,Yr,Ys,Yy,Yz,Y3,Y4,Y8,Vj,Vk,Vy,Vz,V0,V1,V5,V6,U5,Kh];tactic =>
  try simp only [Uq] at *;try simp only [nc2] at *
  try simp (maxSteps:=4000000) only [Kq,U9,G9,Kf,Kg,K8,b65,b90,U6]
  cases s with
  | nil=>simp [A7]
  | cons c r =>
   simp only [bJ] at hs
   simp only [bJ,A7,Int.toNat_zero,List.getD_cons_zero,List.drop_succ_cons,List.drop_zero]
   repeat' first|with_reducible assumption|with_reducible apply And.intro|intro _|omega|(rw [Uk];omega)
   all_goals simp_all)
structure Node where
 kind:Int
 name:List UInt8
 n:Int
 deriving DecidableEq
instance encNode:Enc Node:=⟨fun a=>.agg [.int .i64 a.kind,.str a.name,.int .i64 a.n],fun x=>match x with
 | .agg [a,b,c]=>⟨a.i,b.s,c.i⟩
 | _=>⟨0,[],0⟩,fun a=>rfl⟩
instance szNode:Sz Node:=⟨3⟩
theorem szN:Sz.sz Node=3:=rfl
theorem Ur {n:Node}:(enc n:D)=.agg [.int .i64 n.kind,.str n.name,.int .i64 n.n]:=rfl
theorem Uv {a:Int} {b:List UInt8} {c:Int}:(dec (.agg [.int .i64 a,.str b,.int .i64 c]):Node)=⟨a,b,c⟩:=rfl
theorem Ut {a:Int} {b:List UInt8} {c:Int}:isE Node (.agg [.int .i64 a,.str b,.int .i64 c])=True:=eq_true rfl
theorem Uu {a b:Node}:((a.kind==b.kind)&&((a.name==b.name)&&(a.n==b.n)))=(a==b):=by
 rw [Bool.eq_iff_iff]
 cases a;cases b
 simp
theorem Us {n:Node}:Node.mk n.kind n.name n.n=n:=rfl
def Tm (n:Node):Int:=if n.kind=5 then 2 else if n.kind=6∨n.kind=7 then n.n else 0
def Pj:Con:=L9 (fun (_:Node)=>True) (fun n=>Tm n)
noncomputable def ctx_many3:Ctx:=⟨tab,lkC [],60,lkB [],[],false⟩
theorem ctx_many3_t:ctx_many3.τ=tab:=rfl
theorem ctx_many3_d:ctx_many3.dp=60:=rfl
theorem ctx_many3_u:ctx_many3.cuts=[]:=rfl
set_option maxRecDepth 100000 in
theorem good_many3:Hg Try.prog (86,Pj):=by
 refine ⟨Ke Try.func86 (by kernel_rfl) rfl,?_⟩
 have K:Gu Try.prog ctx_many3:=Ko G7 Kw (by simp) (by simp)
 obtain ⟨c,hc⟩:∃ c,Try.f86.body=some c:=⟨_,rfl⟩
 refine Kn K Try.func86 hc [.tmp 2] rfl 16 rfl (fun cvs hpre=>?_)
 change Pj.pre cvs at hpre
 unfold Pj at hpre
 obtain ⟨n,rfl,-⟩:=Mt hpre
 simp only [Try.f86,aZ] at hc
 subst hc
 (sym=>simp [Ur,Ut,Uv,Us,szN,Uu,ctx_many3_t,ctx_many3_d,ctx_many3_u,Pj.eq_def,Za,Zb,Zc,Zd,Ze,Zf,Zo,Zp,Zq,Zs,Zt,Zu,Zv,Zx,Qd,Qf,Qn,Qo,Qp,Qq,Qr,Qs,Qu,Qv,Qw,Qx,Q1,Ja,Jb,Jd,Jf,Jj,Jq,Jr,J2,Xb,Xd,Xi,Xj,Xl,Xm,Xq,Xr,Xu,Xw,Xx,Xy,X6,X7,X8,X9,Wc,Wf,Wh,Wi,Wj,Wl,Wm,Wn,Wt,Wx,W6,Yc,Yn,Yo,Yp,Yq,Yr,Ys,Vj,Vk,Vy,Vz,V0,V1,V5,V6,Ui,U5,K1];tactic =>
  try simp only [Uq] at *;try simp only [nc2] at *
  try simp (maxSteps:=4000000) only [Ur,Ut,Uv,Us,szN,Uu,U6]
  unfold Tm
  refine ⟨fun h=>by rw [if_pos h],fun h=>⟨fun h6=>⟨fun h7=>by rw [if_neg h,if_pos (.inr h7)],fun h7=>by rw [if_neg h,if_neg (by omega)]⟩,fun h6=>by rw [if_neg h,if_pos (.inl h6)]⟩⟩)
def numb3 (n:Node):Bool :=
 if n.kind=0∨n.kind=8∨n.kind=9 then decide (0≤n.n)
 else if 1≤n.kind∧n.kind≤5 then decide (n.n=0)
 else if n.kind=6 then decide (0≤n.n)&&decide (n.n≤50)
 else if n.kind=7 then decide (1≤n.n)&&decide (n.n≤50)
 else false
def Lp:Con:=L9 (fun (_:Node)=>True) (fun n=>numb3 n)
noncomputable def Az:Ctx:=⟨tab,lkC [],60,lkB [],[],false⟩
theorem ctx_numbered3_t:Az.τ=tab:=rfl
theorem ctx_numbered3_d:Az.dp=60:=rfl
theorem ctx_numbered3_u:Az.cuts=[]:=rfl
set_option maxRecDepth 100000 in
theorem good_numbered3:Hg Try.prog (79,Lp):=by
 refine ⟨Ke Try.func79 (by kernel_rfl) rfl,?_⟩
 have K:Gu Try.prog Az:=Ko G7 Kw (by simp) (by simp)
 obtain ⟨c,hc⟩:∃ c,Try.f79.body=some c:=⟨_,rfl⟩
 refine Kn K Try.func79 hc [.tmp 2] rfl 41 rfl (fun cvs hpre=>?_)
 change Lp.pre cvs at hpre
 unfold Lp at hpre
 obtain ⟨n,rfl,-⟩:=Mt hpre
 simp only [Try.f79,aZ] at hc
 subst hc
 refine Gf 2 (of_decide_eq_true (by kernel_rfl)) ?_
 (sym=>simp [Ur,Ut,Uv,Us,szN,Uu,ctx_numbered3_t,ctx_numbered3_d,ctx_numbered3_u,Lp.eq_def,Zb,Zc,Zd,Ze,Zf,Zg,Zo,Zp,Zq,Zs,Zt,Zu,Zv,Zx,Qd,Qf,Qn,Qo,Qp,Qq,Qr,Qs,Qu,Qv,Qw,Qx,Q1,Ja,Jb,Jd,Jf,Jj,Jq,Jr,Js,Jt,Ju,Jv,Jw,Jx,Jy,Jz,J2,J6,J7,Xb,Xd,Xi,Xj,Xl,Xm,Xn,Xq,Xr,Xu,Xw,Xx,Xy,X6,X7,X8,X9,Wc,Wf,Wh,Wi,Wj,Wl,Wm,Wn,Wo,Wp,Wt,Wx,W6,Yd,Yn,Yo,Yp,Yq,Yr,Ys,Yt,Yu,Yv,Yw,Y9,Vj,Vk,Vy,Vz,V0,V1,V5,V6,Ui,U5,K1];tactic =>
  try simp only [Uq] at *;try simp only [nc2] at *
  try simp (maxSteps:=4000000) only [Ur,Ut,Uv,Us,szN,Uu,U6]
  unfold numb3
  repeat' first|with_reducible assumption|with_reducible apply And.intro|intro _|omega|(rw [Uk];omega)
  all_goals repeat (first|rw [if_pos (by omega)]|rw [if_neg (by omega)])
  all_goals try unfold leB
  all_goals try unfold ltB
  all_goals rw [Bool.eq_iff_iff]
  all_goals simp only [bX,Bool.or_eq_true,decide_eq_true_eq,cQ,bK,iff_self,false_iff,iff_false,true_iff,iff_true]
  all_goals omega)
def eat:List Node→Int→Nat
 | [],_=>0
 | n::l,o=>if o-1+Tm n=0 then 1 else 1+eat l (o-1+Tm n)
def end3 (t:List Node) (i:Int):Int:=if i<0∨(t.length:Int)≤i then -1 else i+eat (t.drop i.toNat) 1
def Tame (t:List Node):Prop:=t.length≤100000∧∀ n∈t,0≤Tm n∧Tm n≤50
def Tt:Con:=Ms (fun (t:Sl Node) (i:Int)=>Tame t.l∧inR .i64 i) (fun t i=>end3 t.l i)
noncomputable def ctx_End3:Ctx:=⟨tab,lkC [(86,Pj)],60,lkB [],[],false⟩
theorem ctx_End3_t:ctx_End3.τ=tab:=rfl
theorem ctx_End3_c:ctx_End3.Γ=lkC [(86,Pj)]:=rfl
theorem ctx_End3_d:ctx_End3.dp=60:=rfl
theorem ctx_End3_b:ctx_End3.Δ=lkB []:=rfl
theorem ctx_End3_u:ctx_End3.cuts=[]:=rfl
theorem ctx_End3_w:ctx_End3.wr=false:=rfl
set_option maxRecDepth 100000 in
theorem good_End3:Hg Try.prog (80,Tt):=by
 refine ⟨Ke Try.func80 (by kernel_rfl) rfl,?_⟩
 have K:Gu Try.prog ctx_End3:=Ko G7 Kw (by
  intro p hp
  simp only [bQ,bZ,or_false] at hp
  rcases hp with rfl
  ·exact good_many3) (by simp)
 obtain ⟨c,hc⟩:∃ c,Try.f80.body=some c:=⟨_,rfl⟩
 refine Kn K Try.func80 hc [.tmp 4] rfl 36 rfl (fun cvs hpre=>?_)
 change Tt.pre cvs at hpre
 unfold Tt at hpre
 obtain ⟨⟨t⟩,i,rfl,⟨ht,hm⟩,hi⟩:=Bb hpre
 simp only at ht hm
 rw [Uk] at hi
 simp only [Try.f80,aZ] at hc
 subst hc
 refine Gf 2 (of_decide_eq_true (by kernel_rfl)) ?_
 (sym=>simp [Ur,Ut,Uv,Us,szN,Uu,ctx_End3_t,ctx_End3_d,Tt.eq_def,Zb,Zc,Zd,Ze,Zf,Zo,Zt,Z6,Qd,Qf,Qp,Qq,Qr,Qs,Qu,Qv,Qw,Qx,Q1,Jd,Jj,Jq,Jr,Js,Jt,Jv,Jy,J2,J6,J7,Xe,Xi,Xj,Xl,Xm,Xn,Xo,Xq,Xr,Xu,Xw,Xx,Xy,X6,X7,X8,X9,Wc,Wf,Wj,Wl,Wm,Wn,Wo,Wp,Wt,Wx,Yc,Yf,Yg,Yn,Yo,Yr,Ys,Yt,Yu,Yv,Yw,Yx,Yz,Y9,Va,Vj,Vk,Vy,Vz,V0,V1,V3,V5,V6,U5,K6,K1];tactic =>
  try simp only [Uq] at *;try simp only [nc2] at *
  try simp (maxSteps:=4000000) only [Ur,Ut,Uv,Us,szN,Uu,U6]
  repeat' first|with_reducible assumption|with_reducible apply And.intro|intro _|omega|(rw [Uk];omega)
  ·unfold end3
   rw [if_pos (.inr ‹_›)]
  ·obtain ⟨i,rfl⟩:∃ n:Nat,i=n:=⟨i.toNat,by omega⟩
   have hil:i<t.length:=by omega
   have e0:end3 t i=i+eat (t.drop i) 1:=by
    unfold end3
    rw [if_neg (by omega)]
    rfl
   refine Kk [4,16,17,18,19,20,21,22,23,24,25,26,27,28,29,30,31,32,33] (fun p:Nat×Int=>[(5,.d (.int .i64 p.2)),(6,.d (.int .i64 p.1))]) (fun p:Nat×Int=>[]) (fun p:Nat×Int=>i≤p.1∧p.1≤t.length∧1≤p.2∧p.2≤1+50*p.1∧i+eat (t.drop i) 1=p.1+eat (t.drop p.1) p.2) (fun p:Nat×Int=>t.length-p.1) (i,1) ?_ ?_ ?_
   ·exact ⟨cZ _,by simp only;omega,by simp,by simp only;omega,rfl⟩
   ·exact wkq
   rintro ⟨k,o⟩ ⟨h1,h2,h3,h4,h5⟩
   simp only at h1 h2 h3 h4 h5
   rcases Kt k t.length with ⟨hlt,hlb⟩|⟨hlt,hlb⟩
   ·have hmk:=hm (t.getD k ⟨0,[],0⟩) (by simp [hlt])
    have he:eat (t.drop k) o=if o-1+Tm (t.getD k ⟨0,[],0⟩)=0 then 1 else 1+eat (t.drop (k+1)) (o-1+Tm (t.getD k ⟨0,[],0⟩)):=by
     rw [List.drop_eq_getElem_cons hlt,eat]
     simp [hlt]
    have zz1:=K7 (⟨0,[],0⟩:Node) hlt
    (sym=>simp [hlb,zz1,Ur,Ut,Uv,Us,szN,Uu,ctx_End3_t,ctx_End3_c,ctx_End3_d,ctx_End3_b,ctx_End3_u,ctx_End3_w,Pj.eq_def,Zb,Zc,Ze,Zf,Zg,Zo,Zp,Zq,Zv,Zy,Z6,Qb,Qd,Qf,Qg,Qh,Qp,Qq,Qr,Qs,Qu,Qv,Qw,Qx,Q1,Q8,Jc,Jd,Je,Jf,Jl,Jm,Jn,Js,Jt,Ju,Jv,Jw,Jx,Jy,Jz,J2,J8,Xd,Xi,Xj,Xl,Xm,Xn,Xq,Xr,Xu,Xw,Xx,Xy,X6,X7,X8,X9,Wb,Wd,Wf,Wo,Wp,Wr,Wt,Wx,W1,Yc,Yf,Yg,Yn,Yo,Yp,Yq,Y7,Y9,Va,Vj,Vy,Vz,V0,V1,V2,V3,V5,V6,Ui,U5,K6,K1];tactic =>
     try simp only [Uq] at *;try simp only [nc2] at *
     try simp (maxSteps:=4000000) only [hlb,zz1,Ur,Ut,Uv,Us,szN,Uu,U6]
     repeat' first|with_reducible assumption|with_reducible apply And.intro|intro _|omega|(rw [Uk];omega)
     ·rename_i hz
      rw [if_pos hz] at he
      rw [e0]
      omega
     ·rename_i hz
      rw [if_neg hz] at he
      exact ⟨(k+1,o-1+Tm (t.getD k ⟨0,[],0⟩)),wkq,by simp only;omega,by simp only;omega,by simp only;omega,by simp only;omega,by simp only;omega,by simp only;omega⟩)
   ·have hd:t.drop k=[]:=List.drop_eq_nil_of_le hlt
    rw [hd,eat] at h5
    (sym=>simp [hlb,Ur,Ut,Uv,Us,szN,Uu,ctx_End3_t,ctx_End3_d,Zb,Zc,Ze,Zf,Zg,Zo,Z6,Qd,Qf,Qp,Qq,Qr,Qs,Qu,Qv,Qw,Qx,Q1,Jd,Jl,Jm,Jn,Js,Jt,Ju,Jv,Jw,Jx,Jy,Jz,J2,Xj,Xl,Xm,Xp,Xq,Xr,Xu,Xw,Xx,Xy,X6,X7,X8,X9,Wo,Wp,Wr,Wt,Wx,Yf,Yg,Yn,Yo,Yp,Yq,Y9,Va,Vz,V0,V1,V2,V3,V5,V6,U5,K6,K1];tactic =>
     try simp only [Uq] at *;try simp only [nc2] at *
     try simp (maxSteps:=4000000) only [hlb,Ur,Ut,Uv,Us,szN,Uu,U6]
     rw [e0]
     omega)
  ·unfold end3
   rw [if_pos (.inl ‹_›)])
theorem R6 {α:Type} {l:List α} {k:Nat} (d:α) (h:k<l.length):l.take (k+1)=l.take k++[l.getD k d]:=by
 rw [List.take_succ_eq_append_getElem h]
 simp [h]
def plain3 (t:List Node):Bool:=t.all fun n=>n.kind != 8&&n.kind != 9
def Fq:Con:=L9 (fun (t:Sl Node)=>t.l.length≤9223372036854775807) (fun t=>plain3 t.l)
noncomputable def ctx_Plain3:Ctx:=⟨tab,lkC [],60,lkB [],[],false⟩
theorem ctx_Plain3_t:ctx_Plain3.τ=tab:=rfl
theorem ctx_Plain3_d:ctx_Plain3.dp=60:=rfl
theorem ctx_Plain3_u:ctx_Plain3.cuts=[]:=rfl
theorem ctx_Plain3_w:ctx_Plain3.wr=false:=rfl
set_option maxRecDepth 100000 in
theorem good_Plain3:Hg Try.prog (68,Fq):=by
 refine ⟨Ke Try.func68 (by kernel_rfl) rfl,?_⟩
 have K:Gu Try.prog ctx_Plain3:=Ko G7 Kw (by simp) (by simp)
 obtain ⟨c,hc⟩:∃ c,Try.f68.body=some c:=⟨_,rfl⟩
 refine Kn K Try.func68 hc [.tmp 2] rfl 24 rfl (fun cvs hpre=>?_)
 change Fq.pre cvs at hpre
 unfold Fq at hpre
 obtain ⟨⟨t⟩,rfl,ht⟩:=Mt hpre
 simp only at ht
 simp only [Try.f68,aZ] at hc
 subst hc
 (sym=>simp [Ur,Ut,Uv,Us,szN,Uu,Fq.eq_def,Za,Zb,Zc,Ze,Zf,Qs,Qu,Qv,Qw,Qx,Jj,Jq,Jr,Xd,Xj,Xl,Xn,Xo,Xr,Xu,Xw,X6,X7,X8,X9,Wc,Wf,Wj,Wl,Yd,Yp,Yq,Yr,Ys,Yz,Va,Vj,Vk,V0,V5,V6,U5,K6,K1];tactic =>
  try simp only [Uq] at *;try simp only [nc2] at *
  try simp (maxSteps:=4000000) only [Ur,Ut,Uv,Us,szN,Uu,U6]
  refine Kk [2,4,5,6,7,8,9,10,11,12,13,14,15,16,17,18,19,20,21,22,23] (fun k:Nat=>[(3,.d (.int .i64 k))]) (fun k:Nat=>[]) (fun k:Nat=>k≤t.length∧∀ j,j<k→((t.getD j ⟨0,[],0⟩).kind != 8&&(t.getD j ⟨0,[],0⟩).kind != 9)=true) (fun k:Nat=>t.length-k) 0 ?_ ?_ ?_
  ·simp
  ·exact wkq
  rintro k ⟨hk,hno⟩
  rcases Kt k t.length with ⟨hlt,hlb⟩|⟨hlt,hlb⟩
  ·have zz1:=K7 (⟨0,[],0⟩:Node) hlt
   (sym=>simp [hlb,zz1,Ur,Ut,Uv,Us,szN,Uu,ctx_Plain3_t,ctx_Plain3_d,ctx_Plain3_u,ctx_Plain3_w,Zb,Zc,Zd,Ze,Zf,Zg,Zo,Zp,Zq,Zs,Zt,Zv,Zx,Zy,Z6,Qd,Qf,Qp,Qq,Qr,Qs,Qu,Qv,Qw,Qx,Q1,Jd,Jf,Jl,Jm,Jn,J2,Xi,Xj,Xl,Xm,Xn,Xq,Xr,Xu,Xw,Xx,Xy,X6,X7,Wm,Wn,Wr,Wt,Wx,W1,W7,Yb,Yf,Yg,Yn,Yo,Yp,Yq,Y7,Y9,Va,Vj,Vk,Vy,Vz,V0,V1,V2,V3,V5,V6,Ui,U5,K6,K1];tactic =>
    try simp only [Uq] at *;try simp only [nc2] at *
    try simp (maxSteps:=4000000) only [hlb,zz1,Ur,Ut,Uv,Us,szN,Uu,U6]
    have hbad:((t.getD k ⟨0,[],0⟩).kind != 8&&(t.getD k ⟨0,[],0⟩).kind != 9)=false→false=plain3 t:=by
     intro h
     unfold plain3
     rw [all_not (p:=fun n:Node=>n.kind != 8&&n.kind != 9) ⟨0,[],0⟩ k hlt h]
    repeat' first|with_reducible assumption|with_reducible apply And.intro|intro _|omega|(rw [Uk];omega)
    ·rename_i h8 h9
     exact hbad (by rw [h9];simp)
    ·rename_i h8 h9
     refine ⟨k+1,wkq,by omega,fun j hj=>?_,by omega⟩
     by_cases hjk:j=k
     ·subst hjk;simp only [bne_iff_ne,ne_eq,bX];exact ⟨h8,h9⟩
     ·exact hno j (by omega)
    ·rename_i h8
     exact hbad (by rw [h8];simp))
  ·(sym=>simp [hlb,Ur,Ut,Uv,Us,szN,Uu,ctx_Plain3_t,ctx_Plain3_d,Zb,Zc,Ze,Zf,Zg,Zo,Z6,Qd,Qf,Qp,Qq,Qr,Qs,Qu,Qv,Qw,Qx,Q1,Jd,Jl,Jm,Jn,J2,Xj,Xl,Xm,Xp,Xq,Xr,Xu,Xw,Xx,Xy,X6,X7,Wr,Wt,Wx,Yf,Yg,Yn,Yo,Yp,Yq,Y9,Va,Vk,Vz,V0,V1,V2,V3,V5,V6,U5,K6,K1];tactic =>
    try simp only [Uq] at *;try simp only [nc2] at *
    try simp (maxSteps:=4000000) only [hlb,Ur,Ut,Uv,Us,szN,Uu,U6]
    unfold plain3
    rw [all_of_lt (p:=fun n:Node=>n.kind != 8&&n.kind != 9) ⟨0,[],0⟩ fun j hj=>hno j (by omega)]))
def arrow3 (a b:List Node):List Node:=⟨5,[],0⟩::(a++b)
def T4:Con:=Ms (fun (a b:Sl Node)=>a.l.length≤1048576∧b.l.length≤1048576) (fun a b=>Sl.mk (arrow3 a.l b.l))
noncomputable def ctx_Arrow3:Ctx:=⟨tab,lkC [],60,lkB [],[],false⟩
theorem ctx_Arrow3_t:ctx_Arrow3.τ=tab:=rfl
theorem ctx_Arrow3_d:ctx_Arrow3.dp=60:=rfl
set_option maxRecDepth 100000 in
theorem good_Arrow3:Hg Try.prog (91,T4):=by
 refine ⟨Ke Try.func91 (by kernel_rfl) rfl,?_⟩
 have K:Gu Try.prog ctx_Arrow3:=Ko G7 Kw (by simp) (by simp)
 obtain ⟨c,hc⟩:∃ c,Try.f91.body=some c:=⟨_,rfl⟩
 refine Kn K Try.func91 hc [.tmp 4] rfl 15 rfl (fun cvs hpre=>?_)
 change T4.pre cvs at hpre
 unfold T4 at hpre
 obtain ⟨⟨a⟩,⟨b⟩,rfl,ha,hb⟩:=Bb hpre
 simp only at ha hb
 simp only [Try.f91,aZ] at hc
 subst hc
 (sym=>simp [Ur,Ut,Uv,Us,szN,Uu,ctx_Arrow3_t,ctx_Arrow3_d,T4.eq_def,Za,Zb,Zc,Ze,Zf,Zn,Zo,Zr,Z1,Z2,Z4,Z5,Qj,Qn,Qp,Qq,Qr,Qs,Qu,Qv,Qw,Qx,Q0,Q1,Q3,Q4,Q5,Q6,Q7,Q9,Ja,Jb,Jd,Jj,Jq,Jr,J0,J1,J2,J4,Xb,Xe,Xj,Xl,Xq,Xr,Xu,Xw,Xx,Xy,Xz,X0,X1,X6,X7,X8,X9,Wc,Wf,Wg,Wh,Wi,Wj,Wl,Wm,W2,W6,Yf,Yg,Yn,Yo,Yp,Yq,Yr,Ys,Yz,Va,Vi,Vj,Vm,Vo,Vr,V0,V1,V2,V3,V5,V6,K6,K1];tactic =>
  try simp only [Uq] at *;try simp only [nc2] at *
  try simp (maxSteps:=4000000) only [Ur,Ut,Uv,Us,szN,Uu,U6]
  repeat' first|with_reducible assumption|with_reducible apply And.intro|intro _|omega|(rw [Uk];omega)
  rfl)
theorem eat_le:∀ (l:List Node) (o:Int),eat l o≤l.length
 | [],o=>by simp [eat]
 | n::l,o=>by
  simp only [eat]
  split
  ·simp
  ·have:=eat_le l (o-1+Tm n)
   simp only [bJ]
   omega
def Lt (t:List Node):Nat→Nat→List Int
 | 0,_=>[]
 | m+1,at_=>if at_<t.length then (at_:Int)::Lt t m (at_+eat (t.drop at_) 1) else []
def kids3 (t:List Node) (i:Int):List Int:=if i<0∨(t.length:Int)≤i then [] else Lt t (Tm (t.getD i.toNat ⟨0,[],0⟩)).toNat (i.toNat+1)
def F6:Con:=Ms (fun (t:Sl Node) (i:Int)=>Tame t.l∧inR .i64 i) (fun t i=>Sl.mk (kids3 t.l i))
noncomputable def ctx_Kids3:Ctx:=⟨tab,lkC [(80,Tt),(86,Pj)],60,lkB [],[],false⟩
theorem ctx_Kids3_t:ctx_Kids3.τ=tab:=rfl
theorem ctx_Kids3_c:ctx_Kids3.Γ=lkC [(80,Tt),(86,Pj)]:=rfl
theorem ctx_Kids3_d:ctx_Kids3.dp=60:=rfl
theorem ctx_Kids3_b:ctx_Kids3.Δ=lkB []:=rfl
theorem ctx_Kids3_w:ctx_Kids3.wr=false:=rfl
set_option maxRecDepth 100000 in
theorem good_Kids3:Hg Try.prog (87,F6):=by
 refine ⟨Ke Try.func87 (by kernel_rfl) rfl,?_⟩
 have K:Gu Try.prog ctx_Kids3:=Ko G7 Kw (by
  intro p hp
  simp only [bQ,bZ,or_false] at hp
  rcases hp with rfl|rfl
  ·exact good_End3
  ·exact good_many3) (by simp)
 obtain ⟨c,hc⟩:∃ c,Try.f87.body=some c:=⟨_,rfl⟩
 refine Kn K Try.func87 hc [.tmp 4] rfl 43 rfl (fun cvs hpre=>?_)
 change F6.pre cvs at hpre
 unfold F6 at hpre
 obtain ⟨⟨t⟩,i,rfl,⟨ht,hm⟩,hi⟩:=Bb hpre
 simp only at ht hm
 rw [Uk] at hi
 simp only [Try.f87,aZ] at hc
 subst hc
 refine Gf 2 (of_decide_eq_true (by kernel_rfl)) ?_
 (sym=>simp [Ur,Ut,Uv,Us,szN,Uu,ctx_Kids3_t,ctx_Kids3_d,ctx_Kids3_w,F6.eq_def,Zb,Zc,Zd,Ze,Zf,Zn,Zo,Zr,Zt,Z1,Z6,Qd,Qf,Qp,Qq,Qr,Qs,Qu,Qv,Qw,Qx,Q1,Q4,Q5,Q6,Q7,Q9,Ja,Jb,Jd,Jj,Jq,Jr,Js,Jt,Jv,Jw,Jy,Jz,J0,J4,J6,J7,Xe,Xi,Xj,Xl,Xm,Xn,Xo,Xq,Xr,Xu,Xw,Xx,Xy,X1,X6,X7,X8,X9,Wc,Wf,Wg,Wi,Wj,Wl,Wm,Wn,Wo,Wp,Wt,Wx,Yc,Yf,Yg,Yn,Yo,Yr,Ys,Yt,Yu,Yv,Yw,Yx,Yz,Y9,Va,Vj,Vk,Vm,Vy,Vz,V0,V1,V3,V5,V6,U5,Gq,K6,K1];tactic =>
  try simp only [Uq] at *;try simp only [nc2] at *
  try simp (maxSteps:=4000000) only [Ur,Ut,Uv,Us,szN,Uu,U6]
  repeat' first|with_reducible assumption|with_reducible apply And.intro|intro _|omega|(rw [Uk];omega)
  ·unfold kids3
   rw [if_pos (.inr ‹_›)]
   rfl
  ·obtain ⟨i,rfl⟩:∃ n:Nat,i=n:=⟨i.toNat,by omega⟩
   have hil:i<t.length:=by omega
   have hmi:=hm (t.getD i ⟨0,[],0⟩) (by simp [hil])
   obtain ⟨M,hM⟩:∃ M:Nat,Tm (t.getD i ⟨0,[],0⟩)=M:=⟨(Tm (t.getD i ⟨0,[],0⟩)).toNat,by omega⟩
   have e0:kids3 t i=Lt t M (i+1):=by
    unfold kids3
    rw [if_neg (by omega)]
    simp only [aX,hM]
   refine Kk [20,21,22,23,24,25,26,27,28,29,30,31,32,33,34,35,36,37,38,39,40,41] (fun p:Nat×Nat×List Int=>[(5,.sl 8 (p.2.2.map enc).length),(6,.d (.int .i64 p.2.1)),(7,.d (.int .i64 p.1))]) (fun p:Nat×Nat×List Int=>[(8,.row 1 (p.2.2.map enc) 0)]) (fun p:Nat×Nat×List Int=>p.1≤M∧p.2.1≤t.length∧p.2.2.length=p.1∧p.2.2++Lt t (M-p.1) p.2.1=Lt t M (i+1)) (fun p:Nat×Nat×List Int=>M-p.1) (0,i+1,[]) ?_ ?_ ?_
   ·exact ⟨Nat.zero_le _,hil,rfl,rfl⟩
   ·exact wkq
   rintro ⟨k,q,out⟩ ⟨h1,h2,h3,h4⟩
   simp only at h1 h2 h3 h4
   rcases Kt k M with ⟨hk,hkb⟩|⟨hk,hkb⟩
   ·rcases Kt q t.length with ⟨hq,hqb⟩|⟨hq,hqb⟩
    ·have e1:M-k=(M-k-1)+1:=by omega
     rw [e1,Lt,if_pos hq] at h4
     have hle:=eat_le (t.drop q) 1
     rw [List.length_drop] at hle
     have e2:end3 t q=((q+eat (t.drop q) 1:Nat):Int):=by
      unfold end3
      rw [if_neg (by omega)]
      simp
     have hT:Tame t:=⟨ht,hm⟩
     have zz2:=K7 (⟨0,[],0⟩:Node) hil
     (sym=>simp [hkb,hqb,hM,e2,zz2,Ur,Ut,Uv,Us,szN,Uu,ctx_Kids3_t,ctx_Kids3_c,ctx_Kids3_d,ctx_Kids3_b,ctx_Kids3_w,Tt.eq_def,Pj.eq_def,Zb,Zc,Zd,Ze,Zf,Zg,Zo,Zp,Zq,Zr,Zt,Zv,Zy,Z1,Z4,Z5,Z6,Qb,Qd,Qf,Qg,Qh,Qs,Qu,Qv,Qw,Qx,Q1,Q4,Q5,Q6,Q7,Q8,Q9,Ja,Jb,Jc,Je,Jl,Jm,Jn,Js,Jt,Ju,Jv,Jw,Jx,Jy,Jz,J0,J1,J2,J8,Xd,Xe,Xi,Xj,Xl,Xm,Xn,Xr,Xu,Xw,Xx,Xy,Xz,X1,X6,X7,X8,X9,Wb,Wd,Wf,Wg,Wh,Wi,Wj,Wl,Wm,Wn,Wo,Wp,Wr,Wt,Wx,W1,W2,Yc,Yf,Yg,Yn,Yo,Yp,Yq,Yx,Yz,Y2,Y4,Y7,Y9,Va,Vi,Vj,Vk,Vo,Vy,V0,V1,V2,V3,V5,V6,Ui,U5,Gq,K6,K1];tactic =>
      try simp only [Uq] at *;try simp only [nc2] at *
      try simp (maxSteps:=4000000) only [hkb,hqb,hM,e2,zz2,Ur,Ut,Uv,Us,szN,Uu,U6]
      repeat' first|with_reducible assumption|with_reducible apply And.intro|intro _|omega|(rw [Uk];omega)
      refine ⟨(k+1,q+eat (t.drop q) 1,out++[(q:Int)]),wkq,by simp only;omega,by simp only;omega,by simp [h3],?_,by simp only;omega⟩
      simp only
      rw [←h4,show M-(k+1)=M-k-1 by omega]
      simp)
    ·have hz:Lt t (M-k) q=[]:=by
      cases hc:M-k with
      | zero=>rfl
      | succ c=>rw [Lt,if_neg (by omega)]
     rw [hz,List.append_nil] at h4
     have zz3:=K7 (⟨0,[],0⟩:Node) hil
     (sym=>simp [hkb,hqb,hM,zz3,Ur,Ut,Uv,Us,szN,Uu,ctx_Kids3_t,ctx_Kids3_c,ctx_Kids3_d,ctx_Kids3_b,Tt.eq_def,Pj.eq_def,Zb,Zc,Zd,Ze,Zf,Zg,Zo,Zp,Zq,Zt,Zv,Zy,Z6,Qb,Qd,Qf,Qg,Qh,Qp,Qq,Qr,Qs,Qu,Qv,Qw,Qx,Q1,Q8,Ja,Jb,Jc,Jd,Je,Jl,Jm,Jn,Js,Jt,Ju,Jv,Jw,Jx,Jy,Jz,J2,J4,J8,Xd,Xe,Xj,Xl,Xm,Xp,Xq,Xr,Xu,Xw,Xx,Xy,X6,X7,X8,X9,Wb,Wd,Wf,Wm,Wn,Wo,Wp,Wr,Wt,Wx,W1,Yc,Yf,Yg,Yn,Yo,Yp,Yq,Y7,Y9,Va,Vk,Vy,Vz,V0,V1,V2,V3,V5,V6,Ui,U5,Gq,K6,K1];tactic =>
      try simp only [Uq] at *;try simp only [nc2] at *
      try simp (maxSteps:=4000000) only [hkb,hqb,hM,zz3,Ur,Ut,Uv,Us,szN,Uu,U6]
      repeat' first|with_reducible assumption|with_reducible apply And.intro|intro _|omega|(rw [Uk];omega)
      rw [e0,h4])
   ·have hz:Lt t (M-k) q=[]:=by
     rw [show M-k=0 by omega]
     rfl
    rw [hz,List.append_nil] at h4
    have zz4:=K7 (⟨0,[],0⟩:Node) hil
    (sym=>simp [hkb,hM,zz4,Ur,Ut,Uv,Us,szN,Uu,ctx_Kids3_t,ctx_Kids3_c,ctx_Kids3_d,ctx_Kids3_b,Tt.eq_def,Pj.eq_def,Zb,Zc,Zd,Ze,Zf,Zg,Zo,Zp,Zq,Zt,Zv,Zy,Qb,Qd,Qf,Qg,Qh,Qp,Qq,Qr,Qs,Qu,Qv,Qw,Qx,Q1,Q8,Ja,Jb,Jc,Jd,Je,Jl,Jm,Jn,Js,Jt,Ju,Jv,Jw,Jx,Jy,Jz,J2,J4,J8,Xd,Xe,Xj,Xl,Xm,Xp,Xq,Xr,Xu,Xw,Xx,Xy,X6,X7,X8,X9,Wb,Wd,Wf,Wm,Wn,Wo,Wp,Wr,Wt,Wx,W1,Yc,Yf,Yg,Yn,Yo,Yp,Yq,Y7,Y9,Va,Vk,Vz,V0,V1,V2,V3,V5,V6,Ui,U5,Gq,K6,K1];tactic =>
     try simp only [Uq] at *;try simp only [nc2] at *
     try simp (maxSteps:=4000000) only [hkb,hM,zz4,Ur,Ut,Uv,Us,szN,Uu,U6]
     repeat' first|with_reducible assumption|with_reducible apply And.intro|intro _|omega|(rw [Uk];omega)
     rw [e0,h4])
  ·unfold kids3
   rw [if_pos (.inl ‹_›)]
   rfl)
def popA:Int→List Int→List Int
 | x,[]=>if x=0 then [] else [x]
 | x,y::r=>if x=0 then popA (y-1) r else x::y::r
def popL:List Int→List Int
 | []=>[]
 | x::r=>popA x r
def shal:List Node→List Int→Bool
 | [],_=>true
 | n::l,rs=>if 100≤rs.length then false else shal l (popA (Tm n) rs)
def shallow3 (t:List Node):Bool:=shal t []
def OpenOk (rs:List Int):Prop:=(∀ x∈rs,0≤x∧x≤50)∧∀ x∈rs.tail,1≤x
theorem rev_last {x:Int} {r:List Int}:el ((x::r).reverse.map enc) r.length=.int .i64 x:=by
 simp [el]
theorem rev_take {x:Int} {r:List Int}:((x::r).reverse.map (enc:Int→D)).take r.length=r.reverse.map enc:=by
 rw [List.reverse_cons,List.map_append,List.take_left' (by simp)]
theorem rev_set {x y:Int} {r:List Int}:((x::r).reverse.map (enc:Int→D)).set r.length (.int .i64 y)=(y::r).reverse.map enc:=by
 rw [List.reverse_cons,List.map_append,List.set_append]
 simp
theorem popA_stop {x:Int} {r:List Int} (h:x≠0):popA x r=x::r:=by
 cases r<;>simp [popA,h]
def Sn:Con:=L9 (fun (t:Sl Node)=>Tame t.l) (fun t=>shallow3 t.l)
noncomputable def Cu:Ctx:=⟨tab,lkC [(86,Pj)],60,lkB [],[39],false⟩
theorem S5:Cu.τ=tab:=rfl
theorem ctx_shallow3_c:Cu.Γ=lkC [(86,Pj)]:=rfl
theorem Dw:Cu.dp=60:=rfl
theorem ctx_shallow3_b:Cu.Δ=lkB []:=rfl
theorem Rl:Cu.cuts=[39]:=rfl
theorem Rk:Cu.wr=false:=rfl
set_option maxRecDepth 100000 in
theorem good_shallow3:Hg Try.prog (81,Sn):=by
 refine ⟨Ke Try.func81 (by kernel_rfl) rfl,?_⟩
 have K:Gu Try.prog Cu:=Ko G7 Kw (by
  intro p hp
  simp only [bQ,bZ,or_false] at hp
  rcases hp with rfl
  ·exact good_many3) (by simp)
 obtain ⟨c,hc⟩:∃ c,Try.f81.body=some c:=⟨_,rfl⟩
 refine Kn K Try.func81 hc [.tmp 2] rfl 51 rfl (fun cvs hpre=>?_)
 change Sn.pre cvs at hpre
 unfold Sn at hpre
 obtain ⟨⟨t⟩,rfl,⟨ht,hm⟩⟩:=Mt hpre
 simp only at ht hm
 simp only [Try.f81,aZ] at hc
 subst hc
 refine Gf 3 (of_decide_eq_true (by kernel_rfl)) ?_
 (sym=>simp [Ur,Ut,Uv,Us,szN,Uu,S5,Sn.eq_def,Zb,Zc,Ze,Zf,Zo,Zr,Z1,Qs,Qu,Qv,Qw,Qx,Q4,Q5,Q6,Q7,Q9,Ja,Jb,Jj,Jq,Jr,Js,Jt,Jv,Jy,J0,J6,J7,Xd,Xj,Xl,Xn,Xo,Xr,Xu,Xw,Xx,Xy,X1,X6,X7,X8,X9,Wc,Wf,Wg,Wi,Wj,Wl,Wo,Wp,Yd,Yn,Yo,Yr,Ys,Yt,Yu,Yv,Yw,Yz,Y9,Va,Vj,Vk,V0,V1,V5,V6,U5,Gq,K6,K1];tactic =>
  try simp only [Uq] at *;try simp only [nc2] at *
  try simp (maxSteps:=4000000) only [Ur,Ut,Uv,Us,szN,Uu,U6]
  refine Kk [2,6,7,8,9,10,11,12,13,14,15,16,17,18,19,20,21,22,23,24,25,26,27,28,29,30,31,32,33,34,35,36,37,38,39,40,41,42,43,44,45,46,47,48,49,50] (fun p:Nat×List Int=>[(3,.sl 5 (p.2.reverse.map enc).length),(4,.d (.int .i64 p.1)),(5,.dead)]) (fun p:Nat×List Int=>[(5,.row 1 (p.2.reverse.map enc) 0)]) (fun p:Nat×List Int=>p.1≤t.length∧p.2.length≤101∧(∀ x∈p.2,1≤x∧x≤50)∧shal (t.drop p.1) p.2=shallow3 t) (fun p:Nat×List Int=>t.length-p.1) (0,[]) ?_ ?_ ?_
  ·exact ⟨Nat.zero_le _,by simp,by simp,rfl⟩
  ·exact wkq
  rintro ⟨k,rs⟩ ⟨h1,h2,h3,h4⟩
  simp only at h1 h2 h3 h4
  rcases Kt k t.length with ⟨hlt,hlb⟩|⟨hlt,hlb⟩
  ·have hmk:=hm (t.getD k ⟨0,[],0⟩) (by simp [hlt])
   have e1:shal (t.drop k) rs=if 100≤rs.length then false else shal (t.drop (k+1)) (popA (Tm (t.getD k ⟨0,[],0⟩)) rs):=by
    rw [List.drop_eq_getElem_cons hlt,shal]
    simp [hlt]
   have zz1:=K7 (⟨0,[],0⟩:Node) hlt
   (sym=>simp [hlb,zz1,List.length_reverse,Ur,Ut,Uv,Us,szN,Uu,S5,ctx_shallow3_c,Dw,ctx_shallow3_b,Pj.eq_def,Zb,Zc,Ze,Zf,Zg,Zo,Zp,Zq,Zr,Zv,Zy,Z1,Z4,Z5,Z6,Qb,Qd,Qf,Qg,Qh,Qp,Qq,Qr,Qs,Qu,Qv,Qw,Qx,Q1,Q4,Q5,Q6,Q7,Q8,Q9,Ja,Jb,Jc,Jd,Je,Jl,Jm,Jn,Js,Jt,Jv,Jw,Jx,Jy,Jz,J0,J1,J2,J8,Xd,Xi,Xj,Xl,Xm,Xn,Xo,Xq,Xr,Xu,Xw,Xx,Xy,Xz,X1,X6,X7,X8,X9,Wb,Wd,Wf,Wg,Wh,Wi,Wj,Wl,Wo,Wp,Wr,Wt,Wx,W1,W2,Yc,Yf,Yg,Yn,Yo,Yp,Yq,Y7,Y9,Va,Vi,Vj,Vk,Vo,Vy,V0,V1,V2,V3,V5,V6,Ui,U5,Gq,K6,K1];tactic =>
    try simp only [Uq] at *;try simp only [nc2] at *
    try simp (maxSteps:=4000000) only [hlb,zz1,List.length_reverse,Ur,Ut,Uv,Us,szN,Uu,U6]
    revert e1 hmk
    generalize Tm (t.getD k ⟨0,[],0⟩)=M
    intro hmk e1
    repeat' first|with_reducible assumption|with_reducible apply And.intro|intro _|omega|(rw [Uk];omega)
    ·rw [if_pos (by omega)] at e1
     rw [←h4,e1]
    ·rw [if_neg (by omega)] at e1
     have e2:rs.reverse++[M]=(M::rs).reverse:=by simp
     have hS:∀ (q:List Int),q≠[]→((q.length:Nat):Int)-1=((q.length-1:Nat):Int):=by
      intro q hq
      have:=List.length_pos_iff.2 hq
      omega
     refine Kk [23,24,25,26,27,28,29,30,31,32,33,34,35,36,37,38,39,40,41,42,43,44,45,46,47,48,49,50] (fun q:List Int=>[(3,.sl 5 (q.reverse.map enc).length),(5,.dead),(12,.dead),(15,.dead),(22,.dead)]) (fun q:List Int=>[(5,.row 1 (q.reverse.map enc) 0)]) (fun q:List Int=>OpenOk q∧q.length≤101∧popL q=popA M rs) (fun q:List Int=>q.length) (M::rs) ?_ ?_ ?_
     ·refine ⟨⟨fun x hx=>?_,fun x hx=>(h3 x hx).1⟩,by simp only [bJ];omega,rfl⟩
      rcases List.mem_cons.1 hx with rfl|hx
      ·exact hmk
      ·have:=h3 x hx;omega
     ·exact wkq
     rintro q ⟨⟨g1,g2⟩,g3,g4⟩
     cases q with
     | nil =>
      have hz:ltB 0 ((0:Nat):Int)=false:=rfl
      (sym=>simp [List.length_reverse,List.reverse_nil,hz,Ur,Ut,Uv,Us,szN,Uu,S5,Dw,Rl,Rk,Zb,Zc,Zd,Ze,Zf,Zg,Zo,Zp,Zq,Zt,Zv,Zw,Zy,Z6,Qd,Qf,Qs,Qu,Qv,Qw,Qx,Ja,Jb,Jf,Jg,Jh,Ji,Jl,Jm,Jn,Jo,Jp,Js,Jt,Ju,Jv,Jw,Jx,Jy,Jz,J2,Xi,Xj,Xl,Xm,Xn,Xp,Xr,Xu,Xw,Xx,Xy,X6,X7,X8,X9,Wi,Wl,Wm,Wn,Wo,Wp,Wq,Wr,Wt,Wx,W1,W2,W7,Yn,Yo,Yp,Yq,Y9,Vg,Vj,Vk,Vy,Vz,V0,V1,V2,V3,V5,V6,Ui,Uj,U5,Gq,K6,K1];tactic =>
       try simp only [Uq] at *;try simp only [nc2] at *
       try simp (maxSteps:=4000000) only [List.length_reverse,List.reverse_nil,hz,Ur,Ut,Uv,Us,szN,Uu,U6]
       repeat' first|with_reducible assumption|with_reducible apply And.intro|intro _|omega|(rw [Uk];omega)
       simp only [popL] at g4
       exact ⟨(k+1,[]),wkq,by simp only;omega,by simp,by simp,by simp only;rw [←h4,e1,g4],by simp only;omega⟩)
     | cons x r =>
      have hz:ltB 0 ((r.length+1:Nat):Int)=true:=by rw [Hf];omega
      have hy:((r.length+1:Nat):Int)-1=(r.length:Int):=by omega
      have hx1:=g1 x (by simp)
      have hlt':el (List.map enc (x::r).reverse) r.length=.int .i64 x:=rev_last
      have htk:List.take r.length (List.map (enc:Int→D) (x::r).reverse)=List.map enc r.reverse:=rev_take
      simp only [bJ] at g3
      by_cases hx0:x=0
      ·subst hx0
       cases r with
       | nil =>
        have hz1:ltB 0 ((0:Nat):Int)=false:=rfl
        simp only [List.length_nil] at hz hy hlt' htk
        (sym=>simp [List.length_reverse,hz,hy,hlt',htk,hz1,List.reverse_nil,Ur,Ut,Uv,Us,szN,Uu,S5,Dw,Rl,Rk,Zb,Zc,Zd,Ze,Zf,Zg,Zo,Zp,Zq,Zt,Zv,Zw,Zy,Z6,Qd,Qf,Qs,Qu,Qv,Qw,Qx,Ja,Jb,Jf,Jg,Jh,Ji,Jl,Jm,Jn,Jo,Jp,Js,Jt,Ju,Jv,Jw,Jx,Jy,Jz,J2,Xi,Xj,Xl,Xm,Xn,Xp,Xr,Xu,Xw,Xx,Xy,X6,X7,X8,X9,Wj,Wl,Wm,Wn,Wo,Wp,Wq,Wr,Wt,Wx,W1,W2,W7,Yn,Yo,Yp,Yq,Yu,Y8,Y9,Vg,Vh,Vj,Vk,Vy,Vz,V0,V1,V2,V3,V5,V6,Ui,Uj,U5,Gq,K6,K1];tactic =>
         try simp only [Uq] at *;try simp only [nc2] at *
         try simp (maxSteps:=4000000) only [List.length_reverse,hz,hy,hlt',htk,hz1,List.reverse_nil,Ur,Ut,Uv,Us,szN,Uu,U6]
         repeat' first|with_reducible assumption|with_reducible apply And.intro|intro _|omega|(rw [Uk];omega)
         exact ⟨[],wkq,⟨by simp,by simp⟩,by simp,by rw [←g4];rfl,by simp⟩)
       | cons y r =>
        have hy1:=g2 y (by simp)
        have hy2:=g1 y (by simp)
        have hz2:ltB 0 ((r.length+1:Nat):Int)=true:=by rw [Hf];omega
        have hy3:((r.length+1:Nat):Int)-1=(r.length:Int):=by omega
        have hl2:el (List.map enc (y::r).reverse) r.length=.int .i64 y:=rev_last
        simp only [bJ] at hz hy hlt' htk g3
        (sym=>simp [List.length_reverse,hz,hy,hlt',htk,hz2,hy3,hl2,rev_set,Ur,Ut,Uv,Us,szN,Uu,S5,Dw,Rl,Rk,Zb,Zc,Zd,Ze,Zf,Zg,Zo,Zp,Zq,Zt,Zv,Zw,Zy,Z6,Qd,Qf,Qs,Qu,Qv,Qw,Qx,Ja,Jb,Jf,Jg,Jh,Ji,Jl,Jm,Jn,Jo,Jp,Js,Jt,Ju,Jv,Jw,Jx,Jy,Jz,J2,Xi,Xj,Xl,Xm,Xn,Xr,Xu,Xw,Xx,Xy,X6,X7,X8,X9,Wj,Wm,Wn,Wo,Wp,Wq,Wr,Wt,Wx,W1,W2,W7,Yn,Yo,Yp,Yq,Y7,Y9,Ve,Vg,Vj,Vk,Vy,Vz,V0,V1,V2,V3,V5,V6,Ui,Uj,U5,Gq,K6,K1];tactic =>
         try simp only [Uq] at *;try simp only [nc2] at *
         try simp (maxSteps:=4000000) only [List.length_reverse,hz,hy,hlt',htk,hz2,hy3,hl2,rev_set,Ur,Ut,Uv,Us,szN,Uu,U6]
         repeat' first|with_reducible assumption|with_reducible apply And.intro|intro _|omega|(rw [Uk];omega)
         refine ⟨(y-1)::r,wkq,⟨fun z hz=>?_,fun z hz=>g2 z (List.mem_cons_of_mem _ hz)⟩,by simp only [bJ];omega,by rw [←g4];simp only [popL,popA,if_true],by simp only [bJ];omega⟩
         rcases List.mem_cons.1 hz with rfl|hz
         ·omega
         ·exact g1 z (List.mem_cons_of_mem _ (List.mem_cons_of_mem _ hz)))
      ·have hxb:(x==(0:Int))=false:=by simpa using hx0
       (sym=>simp [List.length_reverse,hz,hy,hlt',hxb,Ur,Ut,Uv,Us,szN,Uu,S5,Rl,Rk,Zb,Zc,Zd,Ze,Zf,Zg,Zo,Zp,Zq,Zt,Zv,Zy,Z6,Qd,Qf,Qs,Qu,Qv,Qw,Qx,Ja,Jb,Jf,Jl,Jm,Jn,Js,Jt,Jv,Jw,Jx,Jy,Jz,Xj,Xl,Xm,Xp,Xr,Xu,Xw,Xx,Xy,X6,X7,X8,X9,Wj,Wm,Wn,Wo,Wp,Wr,Wt,Wx,W1,W7,Yn,Yo,Yp,Yq,Y7,Y9,Vj,Vk,Vy,Vz,V0,V1,V2,V3,V5,V6,Ui,U5,Gq,K6,K1];tactic =>
        try simp only [Uq] at *;try simp only [nc2] at *
        try simp (maxSteps:=4000000) only [List.length_reverse,hz,hy,hlt',hxb,Ur,Ut,Uv,Us,szN,Uu,U6]
        repeat' first|with_reducible assumption|with_reducible apply And.intro|intro _|omega|(rw [Uk];omega)
        have e3:popA M rs=x::r:=by rw [←g4];exact popA_stop hx0
        refine ⟨(k+1,x::r),wkq,by simp only;omega,by simp only [bJ];omega,fun z hz=>?_,by simp only;rw [←h4,e1,e3],by simp only;omega⟩
        rcases List.mem_cons.1 hz with rfl|hz
        ·omega
        ·exact ⟨g2 z hz,(g1 z (List.mem_cons_of_mem _ hz)).2⟩))
  ·(sym=>simp [hlb,Ur,Ut,Uv,Us,szN,Uu,S5,Dw,Zb,Zc,Ze,Zf,Zg,Zo,Z6,Qd,Qf,Qp,Qq,Qr,Qs,Qu,Qv,Qw,Qx,Q1,Jb,Jd,Jl,Jm,Jn,Js,Jt,Jv,Jx,Jy,Jz,J2,Xj,Xl,Xm,Xp,Xq,Xr,Xu,Xw,Xx,Xy,X6,X7,X8,X9,Wo,Wp,Wr,Wt,Wx,Yf,Yg,Yn,Yo,Yp,Yq,Y9,Va,Vk,Vz,V0,V1,V2,V3,V5,V6,U5,Gq,K6,K1];tactic =>
    try simp only [Uq] at *;try simp only [nc2] at *
    try simp (maxSteps:=4000000) only [hlb,Ur,Ut,Uv,Us,szN,Uu,U6]
    rw [←h4,List.drop_eq_nil_of_le hlt]
    rfl))
abbrev n0:Node:=⟨0,[],0⟩
def isRow3 (n:Node):Bool:=n.kind==6||n.kind==7
def labK (p x prev:Node) (pos last:Bool):Bool :=
 cond (x.kind==9) (isRow3 p&&(last&&x.name==[]))
  (!((p.kind==6&&!Lf x.name)||(p.kind==7&&!A7 x.name))&&(!(!isRow3 p&&!(x.name==[]))&&!(isRow3 p&&(pos&&!Op.bytesLess prev.name x.name))))
def kidAt (t:List Node) (l:List Int) (k:Nat):Node:=t.getD (l.getD k 0).toNat n0
def labAt (t:List Node) (i:Nat) (l:List Int) (k:Nat):Bool:=labK (t.getD i n0) (kidAt t l k) (kidAt t l (k-1)) (ltB 0 k) ((k:Int)==(l.length:Int)-1)
def lab3 (t:List Node) (i:Nat):Bool:=(((kids3 t i).length:Int)==Tm (t.getD i n0))&&(List.range (kids3 t i).length).all fun k=>labAt t i (kids3 t i) k
def L3 (t:List Node):Prop:=∀ n∈t,n.name.length≤9223372036854775807
theorem kidsFrom_in (t:List Node):∀ (m q:Nat),∀ x∈Lt t m q,(q:Int)≤x∧x<t.length
 | 0,q,x,hx=>by simp [Lt] at hx
 | m+1,q,x,hx=>by
  unfold Lt at hx
  split at hx
  ·rcases List.mem_cons.1 hx with rfl|hx
   ·omega
   ·have:=kidsFrom_in t m _ x hx
    omega
  ·cases hx
theorem kids3_in {t:List Node} {i:Nat}:∀ x∈kids3 t i,(i:Int)<x∧x<t.length:=by
 intro x hx
 unfold kids3 at hx
 split at hx
 ·cases hx
 ·have:=kidsFrom_in t _ _ x hx
  omega
theorem kidsFrom_len (t:List Node):∀ (m q:Nat),(Lt t m q).length≤m
 | 0,q=>by simp [Lt]
 | m+1,q=>by
  unfold Lt
  split
  ·simp only [bJ]
   have:=kidsFrom_len t m (q+eat (t.drop q) 1)
   omega
  ·simp
def Lq:Con:=Ms (fun (t:Sl Node) (i:Int)=>Tame t.l∧L3 t.l∧0≤i∧i<t.l.length) (fun t i=>lab3 t.l i.toNat)
noncomputable def Tw:Ctx:=⟨tab,lkC [(40,Kj),(42,Kd),(86,Pj),(87,F6)],60,lkB [],[],false⟩
theorem I0:Tw.τ=tab:=rfl
theorem ctx_labelled3_c:Tw.Γ=lkC [(40,Kj),(42,Kd),(86,Pj),(87,F6)]:=rfl
theorem I1:Tw.dp=60:=rfl
theorem ctx_labelled3_b:Tw.Δ=lkB []:=rfl
theorem ctx_labelled3_u:Tw.cuts=[]:=rfl
theorem ctx_labelled3_w:Tw.wr=false:=rfl
set_option maxRecDepth 100000 in
theorem good_labelled3:Hg Try.prog (82,Lq):=by
 refine ⟨Ke Try.func82 (by kernel_rfl) rfl,?_⟩
 have K:Gu Try.prog Tw:=Ko G7 Kw (by
  intro p hp
  simp only [bQ,bZ,or_false] at hp
  rcases hp with rfl|rfl|rfl|rfl
  ·exact Fx
  ·exact Cr
  ·exact good_many3
  ·exact good_Kids3) (by simp)
 obtain ⟨c,hc⟩:∃ c,Try.f82.body=some c:=⟨_,rfl⟩
 refine Kn K Try.func82 hc [.tmp 4] rfl 123 rfl (fun cvs hpre=>?_)
 change Lq.pre cvs at hpre
 unfold Lq at hpre
 obtain ⟨⟨t⟩,i,rfl,hT,hN,hi0,hi1⟩:=Bb hpre
 simp only at hT hN hi0 hi1
 obtain ⟨i,rfl⟩:∃ n:Nat,i=n:=⟨i.toNat,by omega⟩
 have hil:i<t.length:=by omega
 have hlen:=hT.1
 obtain ⟨l,hl⟩:∃ l,kids3 t i=l:=⟨_,rfl⟩
 have hin:∀ x∈l,(i:Int)<x∧x<t.length:=by rw [←hl];exact kids3_in
 have hll:l.length≤100000:=by
  rw [←hl]
  unfold kids3
  split
  ·simp
  ·have h1:=kidsFrom_len t (Tm (t.getD (Int.toNat i) ⟨0,[],0⟩)).toNat ((Int.toNat i)+1)
   have h2:=(hT.2 (t.getD i ⟨0,[],0⟩) (by simp [hil])).2
   simp only [aX] at h1 ⊢
   omega
 have hlab:lab3 t i=(((l.length:Int)==Tm (t.getD i n0))&&(List.range l.length).all fun k=>labAt t i l k):=by
  unfold lab3
  rw [hl]
 simp only [Try.f82,aZ] at hc
 subst hc
 refine Gf 7 (of_decide_eq_true (by kernel_rfl)) ?_
 have zz1:=K7 n0 hil
 (sym=>simp [hl,zz1,aX,Ur,Ut,Uv,Us,szN,Uu,I0,ctx_labelled3_c,I1,ctx_labelled3_b,ctx_labelled3_u,lV,lY,F6.eq_def,Lq.eq_def,Pj.eq_def,Zb,Zc,Ze,Zf,Zo,Zp,Zq,Zv,Zy,Z6,Qb,Qd,Qf,Qg,Qh,Qp,Qq,Qr,Qs,Qu,Qv,Qw,Qx,Q1,Q8,Jc,Jd,Je,Jf,Jj,Jq,Jr,Js,Jt,Jv,Jw,Jy,Jz,J2,J6,J7,J8,Xd,Xe,Xi,Xj,Xl,Xm,Xn,Xo,Xq,Xr,Xu,Xw,Xx,Xy,X6,X7,X8,X9,Wb,Wc,Wd,Wf,Wj,Wl,Wo,Wp,Wt,Wx,W1,Yc,Yd,Yf,Yg,Yj,Yn,Yo,Yr,Ys,Yt,Yu,Yv,Yw,Yx,Yz,Y2,Y4,Y9,Va,Vj,Vk,Vz,V0,V1,V2,V3,V5,V6,Ui,U5,K9,Kh,Gq,K6,K1];tactic =>
  try simp only [Uq] at *;try simp only [nc2] at *
  try simp (maxSteps:=4000000) only [hl,zz1,aX,Ur,Ut,Uv,Us,szN,Uu,U6]
  repeat' first|with_reducible assumption|with_reducible apply And.intro|intro _|omega|(rw [Uk];omega)
  ·rename_i hne
   rw [hlab]
   rw [show ((l.length:Int)==Tm (t.getD i n0))=false by simpa using hne]
   rfl
  ·rename_i heq
   have hlab':lab3 t i=(List.range l.length).all fun k=>labAt t i l k:=by
    rw [hlab,show ((l.length:Int)==Tm (t.getD i n0))=true by simpa using heq]
    rfl
   refine Kk [4,7,8,9,21,22,23,24,25,26,27,28,29,30,31,32,33,34,35,36,37,38,39,40,41,42,43,44,45,46,47,48,49,50,51,52,53,54,55,56,57,58,59,60,61,62,63,64,65,66,67,68,69,70,71,72,73,74,75,76,77,78,79,80,81,82,83,84,85,86,87,88,89,90,91,92,93,94,95,96,97,98,99,100,101,102,103,104,105,106,107,108,109,110,111,112,113,114,115,116,117,118,119,120,121,122] (fun k:Nat=>[(6,.d (.int .i64 k))]) (fun k:Nat=>[]) (fun k:Nat=>k≤l.length∧∀ j,j<k→labAt t i l j=true) (fun k:Nat=>l.length-k) 0 ?_ ?_ ?_
   ·simp
   ·exact wkq
   rintro k ⟨hk,hno⟩
   rcases Kt k l.length with ⟨hlt,hlb⟩|⟨hlt,hlb⟩
   ·have hki:=hin (l.getD k 0) (by simp [hlt])
    have hkt:(l.getD k 0).toNat<t.length:=by omega
    have hkn:=hN (kidAt t l k) (by
     show t.getD _ n0∈t
     rw [aY,aK hkt]
     exact List.getElem_mem hkt)
    have hyes:labAt t i l k=true→∀ j,j<k+1→labAt t i l j=true:=by
     intro h j hj
     by_cases hjk:j=k
     ·subst hjk;exact h
     ·exact hno j (by omega)
    have hbad:labAt t i l k=false→false=lab3 t i:=by
     intro h
     rw [hlab',eq_comm,Bool.eq_false_iff]
     intro hc
     rw [List.all_eq_true] at hc
     have:=hc k (List.mem_range.2 hlt)
     rw [h] at this
     cases this
    have ek:t.getD (l.getD k 0).toNat ⟨0,[],0⟩=kidAt t l k:=rfl
    have hyes:labK (t.getD i n0) (kidAt t l k) (kidAt t l (k-1)) (ltB 0 k) ((k:Int)==(l.length:Int)-1)=true→∀ j,j<k+1→labAt t i l j=true:=hyes
    have hbad:labK (t.getD i n0) (kidAt t l k) (kidAt t l (k-1)) (ltB 0 k) ((k:Int)==(l.length:Int)-1)=false→false=lab3 t i:=hbad
    have hprev:t.getD (l.getD (k-1) 0).toNat ⟨0,[],0⟩=kidAt t l (k-1):=rfl
    obtain ⟨x,hx⟩:∃ x,kidAt t l k=x:=⟨_,rfl⟩
    obtain ⟨prev,hp0⟩:∃ x,kidAt t l (k-1)=x:=⟨_,rfl⟩
    obtain ⟨p,hp⟩:∃ x,t.getD i n0=x:=⟨_,rfl⟩
    rw [hx,hp0,hp] at hyes hbad
    rw [hx] at hkn ek
    rw [hp0] at hprev
    have eip:t.getD i ⟨0,[],0⟩=p:=hp
    have hk1:k-1<l.length:=by omega
    have hpi:=hin (l.getD (k-1) 0) (by simp [hk1])
    have hpt:(l.getD (k-1) 0).toNat<t.length:=by omega
    have em:((k:Int)-1).toNat=k-1:=by omega
    have hc:((p.kind==6)=true∧(p.kind==7)=false)∨((p.kind==6)=false∧(p.kind==7)=true)∨((p.kind==6)=false∧(p.kind==7)=false):=by
     simp only [cQ,aQ,ne_eq]
     omega
    rcases hc with ⟨h6,h7⟩|⟨h6,h7⟩|⟨h6,h7⟩
    all_goals
     have zz2:=K7 (0:Int) hlt
     have zz3:=K7 n0 hkt
     have zz4:=K7 n0 hil
     have zz5:=K7 (0:Int) hk1
     have zz6:=K7 n0 hpt
     (sym=>simp [hlb,eip,h6,h7,zz2,zz3,zz4,ek,em,zz5,zz6,hprev,Ur,Ut,Uv,Us,szN,Uu,I0,ctx_labelled3_c,I1,ctx_labelled3_b,ctx_labelled3_u,ctx_labelled3_w,lV,lY,F6.eq_def,Pj.eq_def,Zb,Zc,Zd,Ze,Zf,Zg,Zh,Zi,Zj,Zk,Zl,Zm,Zo,Zp,Zq,Zs,Zt,Zu,Zv,Zw,Zx,Zy,Z6,Qb,Qd,Qe,Qf,Qg,Qh,Qm,Qn,Qo,Qp,Qq,Qr,Qs,Qt,Qu,Qv,Qw,Qx,Qy,Qz,Q1,Q8,Ja,Jb,Jc,Jd,Je,Jf,Jl,Jm,Jn,Js,Jt,Ju,Jv,Jw,Jx,Jy,Jz,J2,J8,Xb,Xd,Xe,Xi,Xj,Xk,Xl,Xm,Xn,Xq,Xr,Xs,Xt,Xu,Xv,Xw,Xx,Xy,X0,X2,X6,X7,X8,X9,Wb,Wd,Wf,Wg,Wh,Wi,Wj,Wl,Wm,Wn,Wo,Wp,Wr,Wt,Wu,Wv,Wx,Wy,Wz,W1,W6,W7,W9,Yb,Yc,Yd,Yf,Yg,Yj,Yn,Yo,Yp,Yq,Ys,Yu,Yv,Yw,Yy,Y3,Y5,Y6,Y7,Y9,Va,Vj,Vk,Vl,Vn,Vy,Vz,V0,V1,V2,V3,V4,V5,V6,V8,Ui,Uj,U5,K9,Kh,Gq,K6,K1];tactic =>
      try simp only [Uq] at *;try simp only [nc2] at *
      try simp (maxSteps:=4000000) only [hlb,eip,h6,h7,zz2,zz3,zz4,ek,em,zz5,zz6,hprev,Ur,Ut,Uv,Us,szN,Uu,U6]
      repeat' first|with_reducible assumption|with_reducible apply And.intro|intro _|omega|(rw [Uk];omega)
      all_goals first|with_reducible exact okq|exact hbad (by clear hyes hbad heq hlab hlab' hno;simp_all [labK,isRow3,ltB])|exact ⟨k+1,wkq,by omega,hyes (by clear hyes hbad heq hlab hlab' hno;simp_all [labK,isRow3,ltB]),by omega⟩)
   ·(sym=>simp [hlb,Ur,Ut,Uv,Us,szN,Uu,I0,I1,Zb,Zc,Ze,Zf,Zg,Zo,Z6,Qd,Qf,Qp,Qq,Qr,Qs,Qu,Qv,Qw,Qx,Q1,Jd,Jl,Jm,Jn,Js,Jt,Jv,Jw,Jx,Jy,Jz,J2,Xj,Xl,Xm,Xp,Xq,Xr,Xu,Xw,Xx,Xy,X6,X7,X8,X9,Wo,Wp,Wr,Wt,Wx,Yf,Yg,Yj,Yn,Yo,Yp,Yq,Y9,Va,Vk,Vz,V0,V1,V2,V3,V5,V6,U5,K9,Kh,Gq,K6,K1];tactic =>
     try simp only [Uq] at *;try simp only [nc2] at *
     try simp (maxSteps:=4000000) only [hlb,Ur,Ut,Uv,Us,szN,Uu,U6]
     rw [hlab',eq_comm,List.all_eq_true]
     intro j hj
     exact hno j (by have:=List.mem_range.1 hj;omega)))
end Go.Am.Ty
namespace Go.Rose
inductive Rose (α:Type) where
 | mk (n:α) (ks:List (Rose α))
namespace Rose
variable {α:Type}
def root:Rose α→α
 | mk n _=>n
def kids:Rose α→List (Rose α)
 | mk _ ks=>ks
mutual
def nds:Rose α→List α
 | mk n ks=>n::ndss ks
def ndss:List (Rose α)→List α
 | []=>[]
 | x::xs=>nds x++ndss xs
end
mutual
def wf (ar:α→Nat):Rose α→Prop
 | mk n ks=>ks.length=ar n∧wfs ar ks
def wfs (ar:α→Nat):List (Rose α)→Prop
 | []=>True
 | x::xs=>wf ar x∧wfs ar xs
end
mutual
def depth:Rose α→Nat
 | mk _ ks=>1+depths ks
def depths:List (Rose α)→Nat
 | []=>0
 | x::xs=>max (depth x) (depths xs)
end
end Rose
open Rose
variable {α:Type} {ar:α→Nat}
theorem nds_mk (n:α) (ks:List (Rose α)):nds (mk n ks)=n::ndss ks:=by simp [nds]
theorem nds_pos (x:Rose α):1≤(nds x).length:=by cases x;simp [nds]
theorem nds_eta (x:Rose α):nds x=x.root::ndss x.kids:=by cases x;simp [nds,root,kids]
theorem wf_eta {x:Rose α}:wf ar x↔x.kids.length=ar x.root∧wfs ar x.kids:=by cases x;simp [wf,root,kids]
def eatN (ar:α→Nat):List α→Nat→Option Nat
 | _,0=>some 0
 | [],_+1=>none
 | n::l,o+1=>(eatN ar l (o+ar n)).map (·+1)
theorem eatN_ndss (ar:α→Nat):∀ (m:Nat) (ts:List (Rose α)) (r:List α),(ndss ts).length≤m→wfs ar ts→∀ o,eatN ar (ndss ts++r) (ts.length+o)=(eatN ar r o).map (·+(ndss ts).length)
 | m,[],r,_,_,o=>by simp [ndss,eatN]
 | 0,mk n ks::ts,r,hm,_,o=>by simp [ndss,nds] at hm
 | m+1,mk n ks::ts,r,hm,hw,o=>by
  obtain ⟨⟨h1,h2⟩,h3⟩:=hw
  simp only [ndss,nds,List.cons_append,bJ,bY] at hm ⊢
  rw [show ts.length+1+o=(ts.length+o)+1 by omega,eatN,List.append_assoc]
  rw [show ts.length+o+ar n=ks.length+(ts.length+o) by omega,eatN_ndss ar m ks (ndss ts++r) (by omega) h2 (ts.length+o),eatN_ndss ar m ts r (by omega) h3 o]
  cases eatN ar r o with
  | none=>rfl
  | some k=>simp only [Option.map_some];congr 1;omega
theorem eatN_nds {x:Rose α} (h:wf ar x) (r:List α):eatN ar (nds x++r) 1=some (nds x).length:=by
 have:=eatN_ndss ar _ [x] r (cZ _) ⟨h,trivial⟩ 0
 simpa [ndss,eatN] using this
def At (ar:α→Nat) (l:List α) (i:Nat) (x:Rose α):Prop:=wf ar x∧∃ r,l.drop i=nds x++r
theorem At.le {l:List α} {i:Nat} {x:Rose α} (h:At ar l i x):i+(nds x).length≤l.length:=by
 obtain ⟨_,r,h2⟩:=h
 have h3:=congrArg List.length h2
 rw [List.length_drop,bY] at h3
 have:=nds_pos x
 omega
theorem At.lt {l:List α} {i:Nat} {x:Rose α} (h:At ar l i x):i<l.length:=by
 have:=h.le
 have:=nds_pos x
 omega
theorem At.root {l:List α} {i:Nat} {x:Rose α} (h:At ar l i x) (d:α):l.getD i d=x.root:=by
 obtain ⟨_,r,h2⟩:=h
 have h3:(l.drop i).getD 0 d=x.root:=by rw [h2,nds_eta];rfl
 simpa [aY] using h3
def Ats (ar:α→Nat) (l:List α) (i:Nat) (xs:List (Rose α)):Prop:=wfs ar xs∧∃ r,l.drop i=ndss xs++r
theorem At.kids {l:List α} {i:Nat} {x:Rose α} (h:At ar l i x):Ats ar l (i+1) x.kids∧x.kids.length=ar x.root:=by
 obtain ⟨h1,r,h2⟩:=h
 rw [wf_eta] at h1
 refine ⟨⟨h1.2,r,?_⟩,h1.1⟩
 rw [nds_eta] at h2
 have h3:(l.drop i).drop 1=(ndss x.kids++r):=by rw [h2];rfl
 rwa [List.drop_drop] at h3
theorem Ats.head {l:List α} {i:Nat} {x:Rose α} {xs:List (Rose α)} (h:Ats ar l i (x::xs)):At ar l i x∧Ats ar l (i+(nds x).length) xs:=by
 obtain ⟨⟨h1,h2⟩,r,h3⟩:=h
 refine ⟨⟨h1,ndss xs++r,by rw [h3];simp [ndss]⟩,h2,r,?_⟩
 rw [←List.drop_drop,h3]
 simp [ndss]
theorem at_whole {x:Rose α} (h:wf ar x):At ar (nds x) 0 x:=⟨h,[],by simp⟩
theorem at_eatN {l:List α} {i:Nat} {x:Rose α} (h:At ar l i x):eatN ar (l.drop i) 1=some (nds x).length:=by
 obtain ⟨h1,r,h2⟩:=h
 rw [h2]
 exact eatN_nds h1 r
open Classical in
theorem At.mem {l:List α} {i:Nat} {x:Rose α} (h:At ar l i x):∀ n∈nds x,n∈l:=fun n hn=>by
 obtain ⟨_,r,h2⟩:=h
 exact List.mem_of_mem_drop (i:=i) (by rw [h2];exact List.mem_append_left _ hn)
end Go.Rose
namespace Go.Am.Ty
open Go.Proofs
open Enc (enc dec)
theorem numb3_tame {n:Node} (h:numb3 n=true):0≤Tm n∧Tm n≤50:=by
 unfold numb3 at h
 unfold Tm
 by_cases h5:n.kind=5
 ·rw [if_pos h5];omega
 ·rw [if_neg h5]
  by_cases h67:n.kind=6∨n.kind=7
  ·rw [if_pos h67]
   rw [if_neg (by omega),if_neg (by omega)] at h
   by_cases h6:n.kind=6
   ·rw [if_pos h6] at h
    simpa using h
   ·rw [if_neg h6,if_pos (by omega)] at h
    simp only [bX,decide_eq_true_eq] at h
    omega
  ·rw [if_neg h67];omega
def Rg (t:List Node):Bool:=t.length==0||ltB 10000 t.length||!((t.getD 0 n0).name==[])||(t.getD 0 n0).kind==9
def L4 (t:List Node):Bool:=!Rg t&&(t.all numb3&&((end3 t 0==(t.length:Int)&&shallow3 t)&&(List.range t.length).all fun i=>lab3 t i))
theorem D2 {p:Nat→Bool} {n:Nat} (h:∀ j,j<n→p j=true):(List.range n).all p=true:=by
 rw [List.all_eq_true]
 intro j hj
 exact h j (List.mem_range.1 hj)
theorem Ay {p:Nat→Bool} {n:Nat} (j:Nat) (hj:j<n) (h:p j=false):(List.range n).all p=false:=by
 rw [Bool.eq_false_iff]
 intro hc
 rw [List.all_eq_true] at hc
 have:=hc j (List.mem_range.2 hj)
 rw [h] at this
 cases this
def Bw:Con:=L9 (fun (t:Sl Node)=>t.l.length≤9223372036854775807∧L3 t.l) (fun t=>L4 t.l)
noncomputable def Fm:Ctx:=⟨tab,lkC [(79,Lp),(80,Tt),(81,Sn),(82,Lq)],60,lkB [],[],false⟩
theorem Ef:Fm.τ=tab:=rfl
theorem ctx_Right3_c:Fm.Γ=lkC [(79,Lp),(80,Tt),(81,Sn),(82,Lq)]:=rfl
theorem Eg:Fm.dp=60:=rfl
theorem ctx_Right3_b:Fm.Δ=lkB []:=rfl
theorem ctx_Right3_u:Fm.cuts=[]:=rfl
theorem ctx_Right3_w:Fm.wr=false:=rfl
set_option maxRecDepth 100000 in
theorem good_Right3:Hg Try.prog (67,Bw):=by
 refine ⟨Ke Try.func67 (by kernel_rfl) rfl,?_⟩
 have K:Gu Try.prog Fm:=Ko G7 Kw (by
  intro p hp
  simp only [bQ,bZ,or_false] at hp
  rcases hp with rfl|rfl|rfl|rfl
  ·exact good_numbered3
  ·exact good_End3
  ·exact good_shallow3
  ·exact good_labelled3) (by simp)
 obtain ⟨c,hc⟩:∃ c,Try.f67.body=some c:=⟨_,rfl⟩
 refine Kn K Try.func67 hc [.tmp 2] rfl 59 rfl (fun cvs hpre=>?_)
 change Bw.pre cvs at hpre
 unfold Bw at hpre
 obtain ⟨⟨t⟩,rfl,ht,hN⟩:=Mt hpre
 simp only at ht hN
 simp only [Try.f67,aZ] at hc
 subst hc
 refine Gf 3 (of_decide_eq_true (by kernel_rfl)) ?_
 by_cases h0:t.length=0
 ·have hz:((t.length:Int)==0)=true:=by simp [h0]
  (sym=>simp [hz,Ur,Ut,Uv,Us,szN,Uu,Ef,Eg,ctx_Right3_u,Bw.eq_def,Zb,Zc,Zd,Ze,Zf,Zo,Zt,Z6,Qd,Qf,Qp,Qq,Qr,Qs,Qu,Qv,Qw,Qx,Q1,Jd,Jf,Jj,Jq,Jr,Js,Jt,Jv,Jw,Jy,Jz,J2,J6,J7,Xd,Xj,Xl,Xm,Xq,Xr,Xu,Xw,Xx,Xy,X6,X7,X8,X9,Wc,Wf,Wj,Wl,Wm,Wn,Wo,Wp,Wt,Wx,Yd,Yf,Yg,Yn,Yo,Yr,Ys,Yt,Yu,Yv,Yw,Yz,Y9,Va,Vj,Vk,Vy,Vz,V0,V1,V3,V5,V6,U5,K9,Kh,K6,K1];tactic =>
   try simp only [Uq] at *;try simp only [nc2] at *
   try simp (maxSteps:=4000000) only [hz,Ur,Ut,Uv,Us,szN,Uu,U6]
   unfold L4 Rg
   simp [h0])
 have hz:((t.length:Int)==0)=false:=by rw [aQ];omega
 have hlt0:0<t.length:=by omega
 have heb:Rg t=true→false=L4 t:=by
  intro h;unfold L4;rw [h];rfl
 have zz1:=K7 n0 hlt0
 (sym=>simp [hz,zz1,Ur,Ut,Uv,Us,szN,Uu,Ef,Eg,ctx_Right3_u,Bw.eq_def,Zb,Zc,Zd,Ze,Zf,Zo,Zp,Zq,Zs,Zt,Zv,Zx,Zy,Z6,Qd,Qf,Qp,Qq,Qr,Qs,Qu,Qv,Qw,Qx,Q1,Jd,Jf,Jj,Jq,Jr,Js,Jt,Jv,Jw,Jy,Jz,J2,J6,J7,Xd,Xi,Xj,Xl,Xm,Xn,Xo,Xq,Xr,Xu,Xw,Xx,Xy,X6,X7,X8,X9,Wc,Wf,Wg,Wj,Wl,Wm,Wn,Wo,Wp,Wt,Wv,Wx,Wz,W1,W7,W9,Yb,Yd,Yf,Yg,Yn,Yo,Yr,Ys,Yt,Yu,Yv,Yw,Yz,Y8,Y9,Va,Vj,Vk,Vl,Vn,Vy,Vz,V0,V1,V3,V5,V6,Ui,U5,K9,Kh,K6,K1];tactic =>
  try simp only [Uq] at *;try simp only [nc2] at *
  try simp (maxSteps:=4000000) only [hz,zz1,Ur,Ut,Uv,Us,szN,Uu,U6]
  repeat' first|with_reducible assumption|with_reducible apply And.intro|intro _|omega|(rw [Uk];omega)
  ·rename_i h1 h2 h9
   exact heb (by unfold Rg;rw [show ((t.getD 0 n0).kind==9)=true by rw [cQ];exact h9];simp only [Bool.or_true])
  ·rename_i h1 h3 h9
   have hle:t.length≤10000:=by omega
   have hnb:Rg t=false:=by
    unfold Rg
    simp only [Bool.or_eq_false_iff,Hm,aQ]
    refine ⟨⟨⟨by omega,by omega⟩,?_⟩,h9⟩
    simpa using h3
   have hr:L4 t=(t.all numb3&&((end3 t 0==(t.length:Int)&&shallow3 t)&&(List.range t.length).all fun i=>lab3 t i)):=by
    unfold L4;rw [hnb];rfl
   refine Kk [2,27,28,29,30,31,32,33,34,35,36,37,38] (fun k:Nat=>[(3,.d (.int .i64 k))]) (fun k:Nat=>[]) (fun k:Nat=>k≤t.length∧∀ j,j<k→numb3 (t.getD j n0)=true) (fun k:Nat=>t.length-k) 0 ?_ ?_ ?_
   ·simp
   ·exact wkq
   rintro k ⟨hk,hno⟩
   rcases Kt k t.length with ⟨hlt,hlb⟩|⟨hlt,hlb⟩
   ·have zz2:=K7 n0 hlt
    (sym=>simp [hlb,zz2,Ur,Ut,Uv,Us,szN,Uu,Ef,ctx_Right3_c,Eg,ctx_Right3_b,ctx_Right3_w,Tt.eq_def,Lq.eq_def,Lp.eq_def,Sn.eq_def,Zb,Zc,Ze,Zf,Zg,Zo,Zp,Zq,Zv,Zy,Z6,Qb,Qd,Qe,Qf,Qg,Qh,Qp,Qq,Qr,Qs,Qu,Qv,Qw,Qx,Q1,Q8,Jc,Jd,Je,Jl,Jm,Jn,Js,Jt,Jv,Jw,Jy,Jz,J2,J8,Xd,Xe,Xi,Xj,Xl,Xm,Xn,Xq,Xr,Xu,Xw,Xx,Xy,X6,X7,X8,X9,Wb,Wd,Wf,Wo,Wp,Wr,Wt,Wu,Wx,Wy,W1,Yd,Yf,Yg,Yn,Yo,Y7,Y9,Va,Vj,Vk,Vy,V0,V1,V2,V3,V5,V6,Ui,U5,K9,Kh,K6,K1];tactic =>
     try simp only [Uq] at *;try simp only [nc2] at *
     try simp (maxSteps:=4000000) only [hlb,zz2,Ur,Ut,Uv,Us,szN,Uu,U6]
     repeat' first|with_reducible assumption|with_reducible apply And.intro|intro _|omega|(rw [Uk];omega)
     ·rename_i hb
      rw [hr,all_not (p:=numb3) n0 k hlt hb]
      rfl
     ·rename_i hb
      refine ⟨k+1,wkq,by omega,fun j hj=>?_,by omega⟩
      by_cases hjk:j=k
      ·subst hjk;exact hb
      ·exact hno j (by omega))
   ·have hall:t.all numb3=true:=all_of_lt (p:=numb3) n0 fun j hj=>hno j (by omega)
    have hT:Tame t:=⟨by omega,fun n hn=>numb3_tame (List.all_eq_true.1 hall n hn)⟩
    rw [hall,Bool.true_and] at hr
    have hT2:Tame t∧inR .i64 0:=⟨hT,by rw [Uk];omega⟩
    (sym=>simp [hlb,hT,Ur,Ut,Uv,Us,szN,Uu,Ef,ctx_Right3_c,Eg,ctx_Right3_b,ctx_Right3_u,Tt.eq_def,Lq.eq_def,Lp.eq_def,Sn.eq_def,Zb,Zc,Zd,Ze,Zf,Zg,Zo,Zt,Z6,Qb,Qd,Qe,Qf,Qg,Qh,Qp,Qq,Qr,Qs,Qu,Qv,Qw,Qx,Q1,Q8,Jc,Jd,Je,Jf,Jl,Jm,Jn,Js,Jt,Ju,Jv,Jw,Jx,Jy,Jz,J2,Xd,Xe,Xi,Xj,Xl,Xm,Xn,Xo,Xp,Xq,Xr,Xu,Xw,Xx,Xy,X6,X7,X8,X9,Wb,Wd,Wf,Wm,Wn,Wo,Wp,Wr,Wt,Wu,Wx,Wy,Yc,Yd,Yf,Yg,Yn,Yo,Yp,Yx,Yz,Y2,Y4,Y9,Va,Vj,Vk,Vy,Vz,V0,V1,V2,V3,V5,V6,U5,K9,Kh,K6,K1];tactic =>
     try simp only [Uq] at *;try simp only [nc2] at *
     try simp (maxSteps:=4000000) only [hlb,hT,Ur,Ut,Uv,Us,szN,Uu,U6]
     repeat' first|with_reducible assumption|with_reducible apply And.intro|intro _|omega|(rw [Uk];omega)
     ·rename_i he hs
      rw [hr,hs]
      simp
     ·rename_i he hs
      have hr2:L4 t=(List.range t.length).all fun i=>lab3 t i:=by
       rw [hr,hs,show (end3 t 0==(t.length:Int))=true by simpa using he]
       rfl
      refine Kk [2,49,50,51,52,53,54,55,56,57,58] (fun k:Nat=>[(4,.d (.int .i64 k))]) (fun k:Nat=>[]) (fun k:Nat=>k≤t.length∧∀ j,j<k→lab3 t j=true) (fun k:Nat=>t.length-k) 0 ?_ ?_ ?_
      ·simp
      ·exact wkq
      rintro k ⟨hk2,hno2⟩
      rcases Kt k t.length with ⟨hlt2,hlb2⟩|⟨hlt2,hlb2⟩
      ·(sym=>simp [hlb2,Ur,Ut,Uv,Us,szN,Uu,Ef,ctx_Right3_c,Eg,ctx_Right3_b,ctx_Right3_w,Tt.eq_def,Lq.eq_def,Lp.eq_def,Sn.eq_def,Zb,Zc,Ze,Zf,Zg,Zo,Z6,Qb,Qd,Qe,Qf,Qg,Qh,Qp,Qq,Qr,Qs,Qu,Qv,Qw,Qx,Q1,Q8,Jc,Jd,Je,Jl,Jm,Jn,Js,Jt,Ju,Jv,Jw,Jx,Jy,Jz,J2,Xd,Xe,Xi,Xj,Xl,Xm,Xn,Xq,Xr,Xu,Xw,Xx,Xy,X6,X7,X8,X9,Wb,Wd,Wf,Wo,Wp,Wr,Wt,Wu,Wx,Wy,Yd,Yf,Yg,Yn,Yo,Yp,Yq,Yx,Yz,Y2,Y4,Y7,Y9,Va,Vj,Vk,Vy,V0,V1,V2,V3,V5,V6,U5,K9,Kh,K6,K1];tactic =>
        try simp only [Uq] at *;try simp only [nc2] at *
        try simp (maxSteps:=4000000) only [hlb2,Ur,Ut,Uv,Us,szN,Uu,U6]
        repeat' first|with_reducible assumption|with_reducible apply And.intro|intro _|omega|(rw [Uk];omega)
        ·rename_i hb
         rw [hr2,Ay k hlt2 hb]
        ·rename_i hb
         refine ⟨k+1,wkq,by omega,fun j hj=>?_,by omega⟩
         by_cases hjk:j=k
         ·subst hjk;exact hb
         ·exact hno2 j (by omega))
      ·(sym=>simp [hlb2,Ur,Ut,Uv,Us,szN,Uu,Ef,Eg,Zb,Zc,Ze,Zf,Zg,Zo,Z6,Qd,Qf,Qp,Qq,Qr,Qs,Qu,Qv,Qw,Qx,Q1,Jd,Jl,Jm,Jn,Js,Jt,Ju,Jv,Jw,Jx,Jy,Jz,J2,Xj,Xl,Xm,Xp,Xq,Xr,Xu,Xw,Xx,Xy,X6,X7,X8,X9,Wo,Wp,Wr,Wt,Wx,Yf,Yg,Yn,Yo,Yp,Yq,Y9,Va,Vk,Vz,V0,V1,V2,V3,V5,V6,U5,K9,Kh,K6,K1];tactic =>
        try simp only [Uq] at *;try simp only [nc2] at *
        try simp (maxSteps:=4000000) only [hlb2,Ur,Ut,Uv,Us,szN,Uu,U6]
        rw [hr2,D2 fun j hj=>hno2 j (by omega)])
     ·rename_i he
      rw [hr,show (end3 t 0==(t.length:Int))=false by simpa using he]
      rfl)
  ·rename_i h1 h3
   exact heb (by unfold Rg;rw [show ((t.getD 0 n0).name==[])=false by rw [aQ];exact h3];simp only [Bool.not_false,Bool.or_true,Bool.true_or])
  ·rename_i h1
   exact heb (by unfold Rg;rw [show ltB 10000 (t.length:Int)=true by rw [Hf];exact h1];simp only [Bool.or_true,Bool.true_or]))
open Go.Proofs Go.Rose Go.Rose.Rose
instance inhSl {α:Type}:Inhabited (Sl α):=⟨⟨[]⟩⟩
instance inhNode:Inhabited Node:=⟨n0⟩
def ar (n:Node):Nat:=if n.kind=5 then 2 else if n.kind=6∨n.kind=7 then n.n.toNat else 0
theorem ar_many3 {n:Node} (h:0≤Tm n):(ar n:Int)=Tm n:=by
 unfold ar Tm at *
 split
 ·rfl
 ·rename_i h5
  rw [if_neg h5] at h
  split
  ·rename_i h6
   rw [if_pos h6] at h
   omega
  ·rfl
def Whole (t:List Node) (i:Int):Prop:=0≤i→i<t.length→(eatN ar (t.drop i.toNat) 1).isSome=true
def kidPos:Nat→List (Rose Node)→List Int
 | _,[]=>[]
 | q,x::xs=>(q:Int)::kidPos (q+(nds x).length) xs
theorem kidPos_len:∀ (q:Nat) (xs:List (Rose Node)),(kidPos q xs).length=xs.length
 | _,[]=>rfl
 | q,x::xs=>by simp [kidPos,kidPos_len _ xs]
theorem kidPos_at:∀ (q:Nat) (xs:List (Rose Node)) (j:Nat),j<xs.length→(kidPos q xs).getD j 0=((q+(ndss (xs.take j)).length:Nat):Int)
 | _,[],j,h=>by simp at h
 | q,x::xs,0,_=>by simp [kidPos,ndss]
 | q,x::xs,j+1,h=>by
  simp only [kidPos,List.getD_cons_succ,List.take_succ_cons,ndss,bY]
  rw [kidPos_at _ xs j (by simpa using h)]
  congr 1
  omega
theorem ats_at {t:List Node}:∀ {xs:List (Rose Node)} {i j:Nat},Ats ar t i xs→∀ h:j<xs.length,At ar t (i+(ndss (xs.take j)).length) xs[j]
 | [],_,_,_,h=>by simp at h
 | x::xs,i,0,ha,_=>by simpa [ndss] using ha.head.1
 | x::xs,i,j+1,ha,h=>by
  have:=ats_at ha.head.2 (j:=j) (by simpa using h)
  simpa [ndss,Nat.add_assoc] using this
structure MS where
 out:Option (List Node)
 done:Nat
end Go.Am.Ty
