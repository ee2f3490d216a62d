/- Contracts of functions that the law reaches, and plain laws. Conditions: those that each contract states. -/
import Derived.Test.YtpgfllgpliffaaaGreatDoorC3
import Derived.ProofKit
import Derived.OpenShut
import Derived.JoinedCond
import Derived.JoinedOf
import Derived.Carry
import Derived.Deep.Slices
set_option maxHeartbeats 400000
set_option linter.unusedVariables false
set_option linter.unusedSimpArgs false
variable {p:Prop}
namespace Go.Am
open Go.RowKit (Below)
section
variable {P:Program} {C:Ctx}
variable {base:Nat} {pass:Nat→Prop} {F0:Anc} {st:AS} {a:Act} {w:World}
theorem sX {α:Type} {l:List α} {i:Nat} {x d:α} (h:l.getD i d=x) (hi:i<l.length):l.set i x=l:=by
 apply List.ext_getElem?;intro j;rw [List.getElem?_set];by_cases eA:i=j
 ·subst eA;rw [if_pos rfl,if_pos hi];rw [Zk,Zh hi] at h;rw [Zh hi,←h];rfl
 ·rw [if_neg eA]
theorem Ti {ops:List Oper} {j t:Nat} {b:Bool} (h:Xe ops st j=.b t b):∃ g,ops[j]?=some g∧g.dst=some t∧t<st.tmps.length∧st.tmps.getD t .dead=.d (.bool b):=by
 unfold Xe at h;split at h
 ·next g hg =>
  split at h
  ·next t' ht =>
   split at h
   ·next b' hb =>
    injection h with h1 h2
    subst h1;subst h2;refine ⟨g,hg,ht,?_,hb⟩;rcases Nat.lt_or_ge t' st.tmps.length with Qg|Pj
    ·exact Qg
    ·rw [Zk,List.getElem?_eq_none Pj] at hb;simp at hb
   ·cases h
   ·cases h
  ·cases h
 ·cases h
theorem B3 {m:Nat→Nat} {G:Gh} (h:SRg base pass F0 m G st a w) {ops:List Oper} {j t:Nat} {b:Bool} (hg:Xe ops st j=.b t b):yielded ops.toArray a.tmps j=some b:=by
 obtain ⟨g,h1,h2,h3,h4⟩:=Ti hg;have hx:st.tmps[t]?=some (.d (.bool b)):=by
  rw [Zh h3];rw [Zk,Zh h3] at h4;simpa using h4
 obtain ⟨u,hu,hr⟩:=h.tmps.at hx;simp only [RA,R] at hr;subst hr;have hu':a.tmps[t]?=some (.bool b):=by simpa using hu
 simp [yielded,h1,h2,hu']
theorem nC {m:Nat→Nat} {G:Gh} (h:SRg base pass F0 m G st a w) {ops:List Oper} {j:Nat} (hg:Xe ops st j=.und):yielded ops.toArray a.tmps j=none:=by
 unfold Xe at hg;split at hg
 ·next g hj =>
  split at hg
  ·next t ht =>
   split at hg
   ·cases hg
   ·next hb =>
    have Qg:t<st.tmps.length:=by
     rcases Nat.lt_or_ge t st.tmps.length with Qg|Pj
     ·exact Qg
     ·rw [Zk,List.getElem?_eq_none Pj] at hb;simp at hb
    have hx:st.tmps[t]?=some (.d (.tup [])):=by
     rw [Zh Qg];rw [Zk,Zh Qg] at hb;simpa using hb
    obtain ⟨u,hu,hr⟩:=h.tmps.at hx;simp only [RA,R,Rs] at hr;obtain ⟨cs,rfl,rfl⟩:=hr;have hu':a.tmps[t]?=some (.tuple #[]):=by simpa using hu
    simp [yielded,hj,ht,hu']
   ·cases hg
  ·cases hg
 ·cases hg
theorem fS {F:Fix} {G:Gh} {L:Nat→Option Obj}:RA F G L (.d (.tup [])) undef:=by
 simp only [RA,R,Rs];exact ⟨[],rfl,rfl⟩
theorem uL (K:Mf P C) {m:Nat→Nat} {G:Gh} (h:SRg base pass F0 m G st a w) {o:Oper} {bc:BCon} {x:bc.X} {rs:List Nat} (hb:Zik C o st=some (bc,rnAs rs (bc.args x))) (X5:bc.ok x)
  (F9:rs.Nodup) (Z8:rs.length=(bc.post x).length) (Us:Ze rs rs (bc.objs x) st.objs) (rY:Zj (rs.drop (bc.objs x).length) st.objs) {N:Act→World→Prop} {Q:Exit→Act→World→Prop}
  (hn:aK base pass F0 a st.tmps o.dst (bc.rvr rs x) (Wl rs rs (bc.post x) st.objs) N):o.wp P a w N Q:=by
 unfold Zik at hb;split at hb
 ·next cl Ja =>
  have e:cl.args.map a.eval=(cl.args.toList.map a.eval).toArray:=by cases cl.args;simp
  split at hb
  ·next f hcal =>
   split at hb
   ·next bc' hf =>
    injection hb with hb
    injection hb with rK Sy
    subst rK;have hx:=K2 (C:=C) h.tmps cl.args.toList cl.argTypes.toList;rw [Sy] at hx;obtain ⟨Et,Be⟩:=Ek K h hf X5 hx F9 Z8 Us rY;refine Pa (st:=st) (args:=(cl.args.toList.map a.eval).toArray) ?_ Be hn;have:=Et (cl.args.toList.map a.eval).toArray w;simp only [execOp,Ja,resolve,hcal,Act.eval,Deferred.ofValue];simpa [invoke,e] using this
   ·cases hb
  ·next f hcal =>
   have Zem:=Wf (C:=C) (hint:=0) h.tmps (.tmp f);split at hb
   ·next g caps hfv =>
    split at hb
    ·next bc' hf =>
     injection hb with hb
     injection hb with rK Sy
     subst rK;rw [hfv] at Zem;simp only [RA,R] at Zem;obtain ⟨cs,Zx7,A3⟩:=Zem;have hx:=RAs.append (K2 (C:=C) h.tmps cl.args.toList cl.argTypes.toList) (RAs.of_Rs (G:=G) (L:=lk st.objs) A3);rw [Sy] at hx;obtain ⟨Et,Be⟩:=Ek K h hf X5 hx F9 Z8 Us rY;refine Pa (st:=st) (args:=(cl.args.toList.map a.eval++cs).toArray) ?_ Be hn;have:=Et (cl.args.toList.map a.eval++cs).toArray w;simp only [execOp,Ja,resolve,hcal,Zx7,Deferred.ofValue];simpa [invoke,e] using this
    ·cases hb
   ·next g caps hfv =>
    split at hb
    ·next bc' hf =>
     injection hb with hb
     injection hb with rK Sy
     subst rK;rw [hfv] at Zem;simp only [RA] at Zem;obtain ⟨cs,Zx7,A3⟩:=Zem;have hx:=RAs.append (K2 (C:=C) h.tmps cl.args.toList cl.argTypes.toList) A3;rw [Sy] at hx;obtain ⟨Et,Be⟩:=Ek K h hf X5 hx F9 Z8 Us rY;refine Pa (st:=st) (args:=(cl.args.toList.map a.eval++cs).toArray) ?_ Be hn;have:=Et (cl.args.toList.map a.eval++cs).toArray w;simp only [execOp,Ja,resolve,hcal,Zx7,Deferred.ofValue];simpa [invoke,e] using this
    ·cases hb
   ·cases hb
  ·cases hb
 ·cases hb
theorem Zwo (K:Mf P C) {m:Nat→Nat} {G:Gh} (h:SRg base pass F0 m G st a w) {o:Oper} {i n s k:Nat} {b:D} {els:List D} (hb:uA C o st=some (i,n,b,s,els,k))
  (hc:n=els.length∧b.isAnyInt∧0≤b.i∧b.i≤els.length∧(k:Int)≤b.i∧Vo i st.objs=true∧i<90000) {N:Act→World→Prop} {Q:Exit→Act→World→Prop}
  (hn:aK base pass F0 a (Ke i st.tmps) o.dst (.sl i b.i.toNat) (upd st.objs i (.row s (els.take b.i.toNat) k)) N):o.wp P a w N Q:=by
 obtain ⟨c1,c2,c3,c4,c5,c6,c7⟩:=hc;unfold uA at hb;split at hb
 ·next t x hi d Ja hdst =>
  split at hb
  ·split at hb
   ·next e i' n' b' hk hx hhi =>
    split at hb
    ·next s' els' k' hl =>
     split at hb
     ·next hs =>
      simp only [Zc,Zf] at hb;obtain ⟨rfl,rfl,rfl,rfl,rfl,rfl⟩:=hb;have aG:=Wf (C:=C) (hint:=t) h.tmps x;have Zxo:=Wf (C:=C) (hint:=0) h.tmps hi;rw [hx] at aG;rw [hhi] at Zxo;simp only [RA,hl] at aG Zxo;have hv:=aG.2.2 c1;obtain ⟨q2,hq⟩:=Zxo.of_anyInt c2;obtain ⟨dd,hd,X4⟩:=K.1.kind hk rfl;simp only [TK.is] at X4;obtain ⟨rfl,he⟩:=X4;have K5:=Uo (K.1 e he);obtain ⟨A,cp,Zip,M8⟩:∃ A cp,G.hd i'=.slice A els'.length cp∧els'.length≤cp:=by
       have Yd:=h.objs i' _ hl;simp only [Qf] at Yd;rcases Yd with ⟨_,h2,h3,_⟩|⟨bb,cap,cs,ty,_,h2,h3,_⟩
       ·subst h3;exact ⟨none,0,by rw [h2];rfl,Zl _⟩
       ·exact ⟨_,cap,h2,h3⟩
      have H7:b'.i.toNat≤els'.length:=by omega
      have hr:=Wv (P:=P) (w:=w) (A:=A) (c:=cp) hd K5 (lo:=none) (hi:=some (.int q2 b'.i)) (n:=els'.length) (l:=0) (h:=b'.i.toNat) (.inl ⟨rfl,rfl⟩) (.inr ⟨q2,by rw [U0 c3]⟩) (Nat.zero_le _) H7 M8
      have hA:(if cp=0 then A else A.map (·.add (0*C.size e)))=A:=by
       split
       ·rfl
       ·cases A<;>simp [Addr.add]
      have zC:=h.cut hl H7 (by omega) c6 c7 Zip
      have Z8:(els'.take b'.i.toNat).length=b'.i.toNat:=by rw [List.length_take];omega
      unfold Oper.wp;rw [show execOp a.eval o=(do pure (.value (←Instr.sliceAt t (a.eval x) none (some (a.eval hi)) none))) by simp only [execOp,Ja];rfl]
      rw [hv,Zip,hq];simp only [Sem.run_bind,hr,Result.andThen_ok,Sem.run_pure,Oper.upon];refine hn _ w m _ zC ?_;simp only [RA,J2,if_true];refine ⟨rfl,by omega,fun _=>?_⟩
      rw [hA];simp
     ·cases hb
    ·cases hb
   ·cases hb
  ·cases hb
 ·cases hb
theorem kP {t e ty:TypeId} {z:Value} (ht:P.underlying t=some (.slice e)) (hv:∀ w,(zeroValue e).run P w=.ok z w) {zc:Value} (hz:z.cells=#[zc]) (h1:zc.oneCell'=true) {b o n c:Nat} (hn:0<n) {cur:Array Value} {tt:TypeId}
  (hg:w.heap[b]?=some (.cells cur tt (0,0))) (hl:o+n≤cur.size) :
  (Builtin.clear_ #[t] ty #[.slice (some ⟨b,o,none⟩) n c]).run P w=.ok (.tuple #[]) (w.setRow b (cur.toList.take o++List.replicate n zc++cur.toList.drop (o+n)).toArray):=by
 have yT:(Builtin.zeroCells z.cells n).toList=List.replicate n zc:=by
  rw [hz];simp [Builtin.zeroCells];apply List.ext_getElem
  ·simp
  ·intro i h1 h2;simp [Nat.mod_one]
 have Us:=run_storeCells_at P b o tt (List.replicate n zc) 0 cur w hg (by simpa using hl) (by intro v hv';rw [List.eq_of_mem_replicate hv'];exact h1)
 simp only [Nat.add_zero,List.length_replicate] at Us;obtain ⟨m,rfl⟩:∃ m,n=m+1:=⟨n-1,by omega⟩
 simp [Builtin.clear_,run_underlying ht,hv,yT,Us]
theorem Zbk {F:Fix} {d:D} {z zc:Value} (h:R F d z) (hz:z.cells=#[zc]) (h1:zc.oneCell'=true):∀ n,RE F 1 (List.replicate n d) (List.replicate n zc)
 | 0=>by simp [RE]
 | n+1=>by
  rw [List.replicate_succ,List.replicate_succ];simp only [RE];exact ⟨z,_,by rw [hz];rfl,by rw [hz];rfl,by rw [hz];simpa using h1,h,Zbk h hz h1 n⟩
theorem SRg.nilRow {m:Nat→Nat} {G:Gh} (h:SRg base pass F0 m G st a w) {k s:Nat} (V7:lk st.objs k=none) :
  Yo G (lk st.objs) ⟨fun j=>if j=k then none else G.γ j,fun j=>if j=k then .slice none 0 0 else G.hd j⟩ (lk (upd st.objs k (.brow s [])))∧SRg base pass F0 m ⟨fun j=>if j=k then none else G.γ j,fun j=>if j=k then .slice none 0 0 else G.hd j⟩ ⟨st.tmps,upd st.objs k (.brow s [])⟩ a w :=
 h.objG k (.brow s []) (w':=w) (m':=m) (Fix.le_refl _) (fun j hj=>by simp [hj]) (fun o ho=>by rw [V7] at ho;cases ho) (fun _=>by simp only [Qf];exact .inl (by simp))
  (fun _ _ _ _ _ _ _=>⟨rfl,rfl⟩) (fun _ b hb=>by simp at hb) (Frame.refl _ _ _) (fun _ _ _=>rfl) h.new
theorem Zgo {l r:List AV} (h:tE l=some r):l=.d .nilp::.nils 1::r:=by
 unfold tE at h;split at h
 ·split at h
  ·split at h
   ·next hs=>subst hs;injection h with h;rw [h]
   ·cases h
  ·cases h
 ·cases h
theorem jT {m:Nat→Nat} {G:Gh} (h:SRg base pass F0 m G st a w) {k e:Nat} {x:AV} {v:Value} {c:Prop} {z:AV} {os:Z5} (hx:RA ⟨w,m⟩ G (lk st.objs) x v)
  (hh:B2 C e k x st.objs=some (c,z,os)) (hc:c):Kv P base pass F0 a st.tmps (Instr.box e v) w z os:=by
 unfold B2 at hh;split at hh
 ·next Zeo hk =>
  split at hh
  ·next r hk6 Qds =>
   simp only [Zc,Zf] at hh;obtain ⟨rfl,rfl,rfl⟩:=hh;have Qds:=Zgo Qds;obtain ⟨hf,Wa⟩:=hc;obtain ⟨g1,g2,g3⟩:=Hc (ag:=true) hx hf;rw [Qds] at g1;simp only [RAs,RA,R] at g1;obtain ⟨v0,r0,e0,rfl,v1,r1,rfl,rfl,g1⟩:=g1;obtain ⟨Bd,h1⟩:=h.nilRow (k:=60000+k) (s:=Zds C.cuts) hk6;have Hk:¬ k=60000+k:=by omega
   have hk':lk (upd st.objs (60000+k) (.brow (Zds C.cuts) [])) k=none:=by rw [J2,if_neg Hk];exact hk
   obtain ⟨q1,q2,q3⟩:=SRg.fresh h1 hk' (.box true (.bad e::.sl (60000+k) 0::r)) (.cells v.cells e) undef (fun hg hF=>by
    simp only [Qf];refine ⟨w.heap.size,v.cells,e,by simp,heap_alloc_new w _,?_,g3,h.new _ (Zl _),?_⟩
    ·rw [e0];simp only [RAs,RA];refine ⟨_,_,rfl,rfl,_,_,rfl,⟨rfl,?_⟩,RAs.mono hF hg (RAs.mono (Fix.le_refl _) Bd g1)⟩;rw [J2,if_neg (by omega),J2,if_pos rfl]
     exact ⟨Zl _,fun _=>by simp⟩
    ·intro T hT;simp only [List.head?_cons,Zc,AV.bad.injEq] at hT;exact ⟨hT,.inl (by rw [e0];rfl)⟩)
   refine ⟨_,_,m,_,by simp [Instr.box,newVar,newRow];rfl,q3,?_⟩
   simp only [RA,J2,if_true];exact ⟨rfl,fun _=>⟨_,rfl,rfl⟩⟩
  ·cases hh
 ·cases hh
theorem qO (T:Xy P C.τ) {m:Nat→Nat} {G:Gh} (h:SRg base pass F0 m G st a w) {k e:Nat} {c:Prop} {z:AV} {os:Z5}
  (hh:B2 C e k (C.τ e).zero st.objs=some (c,z,os)) (hc:c):Kv P base pass F0 a st.tmps (Instr.alloc e true (.tuple #[])) w z os:=by
 obtain ⟨b,hb⟩:∃ b,C.ag e=some b:=by
  unfold B2 at hh;split at hh
  ·next Zeo _=>exact ⟨_,Zeo⟩
  ·cases hh
 obtain ⟨zv,z1,z2,_,_⟩:=mX (Ctx.ag_some T hb) w;obtain ⟨v,w',m',G',r1,r2,r3⟩:=jT (P:=P) (C:=C) h (z2 ⟨w,m⟩ G (lk st.objs)) hh hc;refine ⟨v,w',m',G',?_,r2,r3⟩;rw [←r1];simp [Instr.alloc,Instr.box,z1]
theorem Zwi (K:Mf P C) {m:Nat→Nat} {G:Gh} (h:SRg base pass F0 m G st a w) {o:Oper} {c:Prop} {z:AV} {os:Z5} (hb:On C o st=some (c,z,os)) (hc:c)
  {N:Act→World→Prop} {Q:Exit→Act→World→Prop} (hn:aK base pass F0 a st.tmps o.dst z os N):o.wp P a w N Q:=by
 unfold On at hb;split at hb
 ·next t x lo Ja =>
  split at hb
  ·next d hdst =>
   split at hb
   ·split at hb
    ·next e i n y hk hx hlo =>
     split at hb
     ·next s els k hl =>
      split at hb
      ·next hs =>
       simp only [Zc,Zf] at hb;obtain ⟨rfl,rfl,rfl⟩:=hb;obtain ⟨c1,c2,c3,c4⟩:=hc;have aG:=Wf (C:=C) (hint:=t) h.tmps x;have zQ:=Wf (C:=C) (hint:=0) h.tmps lo;rw [hx] at aG;rw [hlo] at zQ;simp only [RA,hl] at aG zQ;have hv:=aG.2.2 c1;obtain ⟨q2,hq⟩:=zQ.of_anyInt c2;obtain ⟨dd,hd,X4⟩:=K.1.kind hk rfl;simp only [TK.is] at X4;obtain ⟨rfl,he⟩:=X4;have K5:=Uo (K.1 e he);have Yd:=h.objs i _ hl;simp only [Qf] at Yd;rcases Yd with ⟨_,_,h3,_⟩|⟨bb,cap,cs,ty,h1,h2,h3,_⟩
       ·subst h3;simp at c4;omega
       ·have hr:=Wv (P:=P) (w:=w) (A:=some ⟨bb,0,none⟩) (c:=cap) hd K5 (lo:=some (.int q2 y.i)) (hi:=none) (n:=els.length) (l:=y.i.toNat) (h:=els.length) (.inr ⟨q2,by rw [U0 c3]⟩) (.inl ⟨rfl,rfl⟩) (by omega) (Zl _) h3
        have Hk:¬ cap=y.i.toNat:=by omega
        rw [if_neg Hk] at hr;refine Jn (st:=st) (s:=Instr.sliceAt t (a.eval x) (some (a.eval lo)) none none) (by simp only [execOp,Ja];rfl) (Qd h (v:=.slice (some ⟨bb,y.i.toNat*s,none⟩) (els.length-y.i.toNat) (cap-y.i.toNat)) ?_ ?_) hn
        ·rw [hv,h2,hq,hr];simp [Md,hs]
        ·simp only [RA,hl];refine ⟨rfl,by omega,fun _=>⟨bb,cap,h1,by rw [h2,c1],by omega,by rw [c1]⟩⟩
      ·cases hb
     ·cases hb
    ·cases hb
   ·cases hb
  ·cases hb
 ·next t x hi Ja =>
  split at hb
  ·next d hdst =>
   split at hb
   ·split at hb
    ·next e i n y hk hx hhi =>
     split at hb
     ·next s els k hl Vm =>
      split at hb
      ·next hs =>
       simp only [Zc,Zf] at hb;obtain ⟨rfl,rfl,rfl⟩:=hb;obtain ⟨c1,c2,c3,c4,c5,c6⟩:=hc;have aG:=Wf (C:=C) (hint:=t) h.tmps x;have Zxo:=Wf (C:=C) (hint:=0) h.tmps hi;rw [hx] at aG;rw [hhi] at Zxo;simp only [RA,hl] at aG Zxo;have hv:=aG.2.2 c1;obtain ⟨q2,hq⟩:=Zxo.of_anyInt c2;obtain ⟨dd,hd,X4⟩:=K.1.kind hk rfl;simp only [TK.is] at X4;obtain ⟨rfl,he⟩:=X4;have K5:=Uo (K.1 e he);obtain ⟨A,cp,Zip,M8⟩:∃ A cp,G.hd i=.slice A els.length cp∧els.length≤cp:=by
        have Yd:=h.objs i _ hl;simp only [Qf] at Yd;rcases Yd with ⟨_,h2,h3,_⟩|⟨bb,cap,cs,ty,_,h2,h3,_⟩
        ·subst h3;exact ⟨none,0,by rw [h2];rfl,Zl _⟩
        ·exact ⟨_,cap,h2,h3⟩
       have H7:y.i.toNat≤els.length:=by omega
       have hr:=Wv (P:=P) (w:=w) (A:=A) (c:=cp) hd K5 (lo:=none) (hi:=some (.int q2 y.i)) (n:=els.length) (l:=0) (h:=y.i.toNat) (.inl ⟨rfl,rfl⟩) (.inr ⟨q2,by rw [U0 c3]⟩) (Nat.zero_le _) H7 M8
       have hA:(if cp=0 then A else A.map (·.add (0*C.size e)))=A:=by
        split
        ·rfl
        ·cases A<;>simp [Addr.add]
       have Qhu:=h.move hl Vm H7 (by omega) Zip
       have Z8:(els.take y.i.toNat).length=y.i.toNat:=by rw [List.length_take];omega
       unfold Oper.wp;rw [show execOp a.eval o=(do pure (.value (←Instr.sliceAt t (a.eval x) none (some (a.eval hi)) none))) by simp only [execOp,Ja];rfl]
       rw [hv,Zip,hq];simp only [Sem.run_bind,hr,Result.andThen_ok,Sem.run_pure,Oper.upon];refine hn _ w m _ Qhu ?_;simp only [RA,J2,if_true];refine ⟨rfl,by omega,fun _=>?_⟩
       rw [hA];simp
      ·cases hb
     ·cases hb
    ·cases hb
   ·cases hb
  ·cases hb
 ·next cl Ja =>
  split at hb
  ·next hcal =>
   split at hb
   ·next x t hx ht =>
    split at hb
    ·next e i n f hk hxe =>
     split at hb
     ·next s els k hl =>
      split at hb
      ·next hs =>
       obtain ⟨hs,rfl⟩:=hs;simp only [Zc,Zf] at hb;obtain ⟨rfl,rfl,rfl⟩:=hb;obtain ⟨c1,c2⟩:=hc;have e1:=F6 hx;have e2:=F6 ht;have aG:=Wf (C:=C) (hint:=t) h.tmps x;rw [hxe] at aG;simp only [RA,hl] at aG;obtain ⟨bb,cc,g1,g2,g3,hv⟩:=aG.2.2 c1;obtain ⟨dd,hd,X4⟩:=K.1.kind hk rfl;simp only [TK.is] at X4;obtain ⟨rfl,he⟩:=X4;obtain ⟨ii,zv,i1,i2,i3,i4,i5,i6,i7,i8⟩:=(K.1 e he).info;have Qg9:zv.cells.size=1:=by rw [i7];exact hs.symm
       obtain ⟨zc,yT⟩:∃ zc,zv.cells=#[zc]:=⟨zv.cells[0],by
        apply Array.ext
        ·simpa using Qg9
        ·intro j h1 h2;have:j=0:=by simp at h2;omega
         subst this;rfl⟩
       have Qga:zc.oneCell'=true:=i8 zc (by rw [yT];simp)
       have Zke:∀ w,(zeroValue e).run P w=.ok zv w:=by
        intro w;simp [zeroValue,typeInfo,i1,i4]
       have Yd:=h.objs i _ hl;simp only [Qf] at Yd;rcases Yd with ⟨_,_,h3,_⟩|⟨b',cap,cs,ty,h1,h2,h3,h4,h5,h6,h7,h8,h9⟩
       ·subst h3;simp at c1;omega
       ·rw [g1] at h1;injection h1 with h1
        subst h1;rw [h2] at g2;injection g2 with _ _ g2
        subst g2;simp only [Nat.mul_one] at hv h6 h7 h8;have hr:=kP (P:=P) (w:=w) (ty:=o.type) hd Zke yT Qga (b:=bb) (o:=f) (n:=n-f) (c:=cap-f) (by omega) h5 (by omega)
        refine Jn (st:=st) (s:=Builtin.clear_ #[t] o.type #[a.eval x]) (by simp [execOp,Ja,resolve,hcal,e1,e2,invoke,builtin]) ⟨_,_,m,G,by rw [hv];exact hr,?_,?_⟩ hn
        ·refine (h.write hl rfl g1 h5 (fun off ho=>?_) (by simp [Obj.isBox]) (fun s' els' k' he'=>?_) (fun hF hg=>?_)).2.2
         ·rw [h8] at ho;have:off<f:=by omega
          rw [←Array.getElem?_toList,List.append_assoc,List.getElem?_append_left (by simp;omega),List.getElem?_take,if_pos this]
          simp
         ·simp only [Obj.row.injEq] at he';obtain ⟨rfl,rfl,rfl⟩:=he';exact ⟨els,k,rfl,by simp;omega⟩
         ·simp only [Qf];have Z8:(els.take f++List.replicate (els.length-f) (C.τ e).zd).length=els.length:=by simp;omega
          have Qg8:(cs.toList.take f++List.replicate (n-f) zc++cs.toList.drop (f+(n-f))).length=cs.size:=by simp;omega
          refine .inr ⟨bb,cap,_,ty,g1,by rw [Z8];exact h2,by rw [Z8];exact h3,h4,setRow_heap w bb cs _ ty (0,0) h5,?_,?_,by simpa using h8,by rw [Z8];exact h9⟩
          ·rw [Nat.mul_one,←h6];simpa using Qg8
          ·have r1:=(RE.split f (RE.mono hF h7)).1;have r2:=RE.append r1 (Zbk (F:=⟨w.setRow bb (cs.toList.take f++List.replicate (n-f) zc++cs.toList.drop (f+(n-f))).toArray,m⟩) (i6 _) yT Qga (els.length-f));rw [Z8];have e3:(cs.toList.take f++List.replicate (n-f) zc++cs.toList.drop (f+(n-f))).toArray.toList.take (els.length*1)=(cs.toList.take els.length).take (f*1)++List.replicate (els.length-f) zc:=by
            rw [Nat.mul_one,Nat.mul_one,List.take_take,c1];simp only [];rw [List.take_append_of_le_length (by simp;omega),List.take_of_length_le (by simp;omega)]
            congr 2
            omega
           rw [e3];exact r2
        ·simp only [RA,R,Rs];exact ⟨[],rfl,rfl⟩
      ·cases hb
     ·cases hb
    ·cases hb
   ·cases hb
  ·cases hb
 ·next e Ja =>
  split at hb
  ·next k hd =>
   split at hb
   ·exact Jn (st:=st) (by simp only [execOp,Ja]) (qO K.1 h hb hc) hn
   ·cases hb
  ·cases hb
 ·next e x Ja =>
  split at hb
  ·next k hd =>
   split at hb
   ·exact Jn (st:=st) (s:=Instr.box e (a.eval x)) (by simp only [execOp,Ja]) (jT h (Wf (C:=C) (hint:=e) h.tmps x) hb hc) hn
   ·cases hb
  ·cases hb
 ·cases hb
theorem Zwb (K:Mf P C) {m:Nat→Nat} {G:Gh} (h:SRg base pass F0 m G st a w) {o:Oper} {c:Prop} {l:List D} {b:Bool} (hb:sN C o st=some (c,l,b)) (hc:c)
  {N:Act→World→Prop} {Q:Exit→Act→World→Prop} (Zxw:l=[]→aK base pass F0 a st.tmps o.dst (.d (.bool b)) st.objs N) (Qnw:aK base pass F0 a st.tmps o.dst (.d (.bool (!b))) st.objs N):o.wp P a w N Q:=by
 have key:∀ (op:BinOp) (t:Nat) (ox oy:Operand) (ty:TypeId),(op=.eql∧b=true∨op=.neq∧b=false)→o.op=.binOp op t ox oy ty→bV C t (st.ev C t ox) (st.ev C t oy) st.objs=some (c,l)→o.wp P a w N Q:=by
  intro op t ox oy ty Qef Ja Nh;have aG:=Wf (C:=C) (hint:=t) h.tmps ox;have Zxn:=Wf (C:=C) (hint:=t) h.tmps oy;obtain ⟨e,A,cc,hk,hv,hvy',Qbn⟩:∃ e A cc,(C.τ t).kind=.slice e∧a.eval ox=.slice A l.length cc∧a.eval oy=.slice none 0 0∧(A=none→l=[]):=by
   unfold bV at Nh;split at Nh
   ·next e d s hk hx hy =>
    simp only [Zc,Zf] at Nh;obtain ⟨rfl,rfl⟩:=Nh;rw [hx] at aG;rw [hy] at Zxn;simp only [RA] at aG Zxn;have hl:=aG.of_list hc;simp only [R] at hl;obtain ⟨A,cc,hv,_,_,hA⟩:=hl;refine ⟨e,A,cc,hk,hv,Zxn,fun hz=>?_⟩;apply Classical.byContradiction;intro Hk;obtain ⟨b,off,vs,hz',_⟩:=hA Hk;rw [hz] at hz';cases hz'
   ·next e i n s hk hx hy =>
    split at Nh
    ·next s' els k hl =>
     simp only [Zc,Zf] at Nh;obtain ⟨rfl,rfl⟩:=Nh;rw [hx] at aG;rw [hy] at Zxn;simp only [RA,hl] at aG Zxn;have hv:=aG.2.2 hc;have Yd:=h.objs i _ hl;simp only [Qf] at Yd;rcases Yd with ⟨_,h2,h3,_⟩|⟨bb,cap,cs,ty',_,h2,_⟩
     ·subst h3;exact ⟨e,none,0,hk,by rw [hv,h2];rfl,Zxn,fun _=>rfl⟩
     ·exact ⟨e,_,cap,hk,by rw [hv,h2],Zxn,fun hz=>by cases hz⟩
    ·cases Nh
   ·cases Nh
  obtain ⟨dd,hd,X4⟩:=K.1.kind hk rfl;simp only [TK.is] at X4;obtain ⟨rfl,_⟩:=X4;have kI:∀ d:Nat,(Op.equalIn (d+1) t (.slice A l.length cc) (.slice none 0 0)).run P w=.ok A.isNone w:=fun d=>by cases A<;>simp [Op.equalIn,run_underlying hd]
  have run1:(Wc .eql t ox oy (a.eval ox) (a.eval oy)).run P w=.ok (.bool A.isNone) w:=by
   rw [hv,hvy'];unfold Wc;simp only [binOp];simp [eqGuard,Op.equal,Op.maxDepth,kI 9999]
  have run2:(Wc .neq t ox oy (a.eval ox) (a.eval oy)).run P w=.ok (.bool (!A.isNone)) w:=by
   rw [hv,hvy'];unfold Wc;simp only [binOp];simp [eqGuard,Op.equal,Op.maxDepth,kI 9999]
  have hnone':A.isNone=true→l=[]:=fun h=>Qbn (by cases A with|none=>rfl|some _=>cases h)
  rcases Qef with ⟨rfl,rfl⟩|⟨rfl,rfl⟩
  ·cases hz:A.isNone with
   | true =>
    rw [hz] at run1;exact Jn (st:=st) (s:=Wc .eql t ox oy (a.eval ox) (a.eval oy)) (by simp only [execOp,Ja,Wc]) (Qd h run1 (by simp only [RA];exact R.bool)) (Zxw (hnone' hz))
   | false =>
    rw [hz] at run1;exact Jn (st:=st) (s:=Wc .eql t ox oy (a.eval ox) (a.eval oy)) (by simp only [execOp,Ja,Wc]) (Qd h run1 (by simp only [RA];exact R.bool)) Qnw
  ·cases hz:A.isNone with
   | true =>
    rw [hz] at run2;exact Jn (st:=st) (s:=Wc .neq t ox oy (a.eval ox) (a.eval oy)) (by simp only [execOp,Ja,Wc]) (Qd h run2 (by simp only [RA];exact R.bool)) (Zxw (hnone' hz))
   | false =>
    rw [hz] at run2;exact Jn (st:=st) (s:=Wc .neq t ox oy (a.eval ox) (a.eval oy)) (by simp only [execOp,Ja,Wc]) (Qd h run2 (by simp only [RA];exact R.bool)) Qnw
 unfold sN at hb;split at hb
 ·next t ox oy ty Ja =>
  split at hb
  ·split at hb
   ·split at hb
    ·next c' l' Nh =>
     simp only [Zc,Zf] at hb;obtain ⟨rfl,rfl,h3⟩:=hb;exact key .eql t ox oy ty (.inl ⟨rfl,h3.symm⟩) Ja Nh
    ·cases hb
   ·cases hb
  ·cases hb
 ·next t ox oy ty Ja =>
  split at hb
  ·split at hb
   ·split at hb
    ·next c' l' Nh =>
     simp only [Zc,Zf] at hb;obtain ⟨rfl,rfl,h3⟩:=hb;exact key .neq t ox oy ty (.inr ⟨rfl,h3.symm⟩) Ja Nh
    ·cases hb
   ·cases hb
  ·cases hb
 ·cases hb
theorem K0 (K:Mf P C) {ops:List Oper} {N:AS→Prop} {Q:Exit→Act→World→Prop} (hQ:∀ st a w,SR base pass F0 st a w→N st→Q .normal a w) :
  ∀ (l:List Oper) (st:AS) (a:Act) (w:World),SR base pass F0 st a w→qP C ops l N st→wpList P ops.toArray Q l a w
 | [],st,a,w,h,hn=>by
  simp only [qP] at hn;exact wpList_nil (hQ st a w h hn)
 | o::l,st,a,w,h,hn=>by
  simp only [qP] at hn;have exec:∀ st a w,SR base pass F0 st a w→aW C o (qP C ops l N) st→o.wp P a w (wpList P ops.toArray Q l) Q:=by
   intro st a w ⟨m,G,h⟩ he;unfold aW at he;split at he
   ·next bc args hbo =>
    obtain ⟨x,rs,X5,Zvl,F9,Z8,Us,rY,hk⟩:=he;subst Zvl;refine uL K h hbo X5 F9 Z8 Us rY (fun v w' m' G' hs' hz=>?_);refine K0 K hQ l _ _ _ ⟨m',G',?_⟩ hk;have:=hs'.putO (t:=o.dst) hz;unfold AS.put;exact this
   ·split at he
    ·next i n b s els k hcu =>
     refine Zwo K h hcu he.1 (fun v w' m' G' hs' hz=>?_);refine K0 K hQ l _ _ _ ⟨m',G',?_⟩ he.2;have:=hs'.putO (t:=o.dst) hz;unfold AS.put;exact this
    ·split at he
     ·next c x os hs =>
      refine Zwi K h hs he.1 (fun v w' m' G' hs' hz=>?_);refine K0 K hQ l _ _ _ ⟨m',G',?_⟩ he.2;have:=hs'.putO (t:=o.dst) hz;unfold AS.put;exact this
     ·split at he
      ·next c ll b Qcv =>
       obtain ⟨Qie,Zx9,Qid⟩:=he;refine Zwb K h Qcv Qie (fun Zh6 v w' m' G' hs' hz=>?_) (fun v w' m' G' hs' hz=>?_)
       ·refine K0 K hQ l _ _ _ ⟨m',G',?_⟩ (Zx9 Zh6);have:=hs'.putO (t:=o.dst) hz;unfold AS.put;exact this
       ·refine K0 K hQ l _ _ _ ⟨m',G',?_⟩ Qid;have:=hs'.putO (t:=o.dst) hz;unfold AS.put;exact this
      ·unfold qR at he;split at he
       ·next c x os hs =>
        refine sF K h hs he.1 (fun v w' m' G' hs' hz=>?_);refine K0 K hQ l _ _ _ ⟨m',G',?_⟩ he.2;have:=hs'.putO (t:=o.dst) hz;unfold AS.put;exact this
       ·exact he.elim
  unfold Qcm at hn;unfold wpList;split at hn
  ·next hg =>
   rw [if_pos (by simp [Region.wanted,hg])]
   exact .inl (exec st a w h hn)
  ·next j want hg =>
   split at hn
   ·next t b Bd =>
    obtain ⟨m,G,hs⟩:=h;have hy:=B3 hs Bd;obtain ⟨g,g1,g2,g3,g4⟩:=Ti Bd;have Ky:({ st with tmps:=st.tmps.set t (.d (.bool b)) }:AS)=st:=by rw [sX g4 g3]
    by_cases hb:b=want
    ·rw [if_pos (by simp [Region.wanted,hg,hy,hb])]
     have:=hn.1 hb;rw [←hb,Ky] at this;exact .inl (exec st a w ⟨m,G,hs⟩ this)
    ·rw [if_neg (by simp [Region.wanted,hg,hy,hb])]
     have hb':b=!want:=by cases b<;>cases want<;>simp_all
     have:=hn.2 hb';rw [←hb',Ky] at this;refine K0 K hQ l _ _ _ ⟨m,G,?_⟩ this;have hp:=hs.putO (t:=o.dst) (x:=.d (.tup [])) (v:=undef) fS;unfold AS.put;exact hp
   ·next Bd =>
    obtain ⟨m,G,hs⟩:=h;have hy:=nC hs Bd;rw [if_neg (by simp [Region.wanted,hg,hy])]
    refine K0 K hQ l _ _ _ ⟨m,G,?_⟩ hn;have hp:=hs.putO (t:=o.dst) (x:=.d (.tup [])) (v:=undef) fS;unfold AS.put;exact hp
   ·exact hn.elim
theorem Ae:∀ {es:List Edge} {acc:List Nat} {k:Nat},(Tb es acc).testBit k=true→∃ e∈es,Region.binds .any e=true∧(e.on=k∨(acc.getD e.on 0).testBit k=true)
 | [],acc,k,h=>by simp [Tb] at h
 | e::r,acc,k,h=>by
  simp only [Tb] at h;split at h
  ·next hb =>
   simp only [Nat.testBit_or,Bool.or_eq_true] at h;rcases h with (h|h)|h
   ·rw [Nat.testBit_two_pow] at h;exact ⟨e,by simp,hb,.inl (by simpa using h)⟩
   ·exact ⟨e,by simp,hb,.inr h⟩
   ·obtain ⟨e',h1,h2⟩:=Ae h;exact ⟨e',List.mem_cons_of_mem _ h1,h2⟩
  ·obtain ⟨e',h1,h2⟩:=Ae h;exact ⟨e',List.mem_cons_of_mem _ h1,h2⟩
theorem Iq:∀ (r:List Oper) (acc:List Nat),∃ l,Ir r acc=acc++l∧l.length=r.length∧∀ (j:Nat) (o:Oper),r[j]?=some o→l[j]?=some (Tb o.after.toList (acc++l.take j))
 | [],acc=>⟨[],by simp [Ir],rfl,by simp⟩
 | o::r,acc=>by
  obtain ⟨l,h1,h2,h3⟩:=Iq r (acc++[Tb o.after.toList acc]);refine ⟨Tb o.after.toList acc::l,by simp [Ir,h1],by simp [h2],fun j x hj=>?_⟩
  cases j with
  | zero=>simp only [List.getElem?_cons_zero,Zc] at hj;subst hj;simp
  | succ j =>
   simp only [List.getElem?_cons_succ] at hj ⊢;rw [h3 j x hj];simp
theorem mN {ops:List Oper} {i k:Nat} {o:Oper} (ho:ops[i]?=some o) (h:((D1 ops).getD i 0).testBit k=true) :
  ∃ e∈o.after.toList,Region.binds .any e=true∧(e.on=k∨(e.on<i∧((D1 ops).getD e.on 0).testBit k=true)):=by
 obtain ⟨l,h1,h2,h3⟩:=Iq ops [];have hm:D1 ops=l:=by simpa [D1] using h1
 have hi:=h3 i o ho;simp only [List.nil_append] at hi;rw [hm,Zk,hi] at h;simp only [Option.getD_some] at h;obtain ⟨e,g1,g2,g3⟩:=Ae h;refine ⟨e,g1,g2,g3.elim (fun h=>.inl h) fun g=>.inr ?_⟩;by_cases Qg:e.on<i
 ·refine ⟨Qg,?_⟩;rw [hm];rw [Zk,List.getElem?_take,if_pos Qg] at g;rw [Zk];exact g
 ·rw [Zk,List.getElem?_take,if_neg Qg] at g;simp at g
def Zhw (ops:List Oper) (listed:Array Bool):Prop:=∀ i o,ops[i]?=some o→listed.getD i false=true→∀ e∈o.after.toList,Region.binds .any e=true→listed.getD e.on false=true
theorem yP {ops:List Oper} {listed:Array Bool} (hc:Zhw ops listed):∀ (n i:Nat),i≤n→∀ o,ops[i]?=some o→(∀ e∈o.after.toList,Region.binds .any e=true→listed.getD e.on false=true) →
  ∀ k,((D1 ops).getD i 0).testBit k=true→listed.getD k false=true:=by
 intro n
 induction n with
 | zero =>
  intro i hi o ho he k hk;obtain ⟨e,h1,h2,h3⟩:=mN ho hk;rcases h3 with rfl|⟨h3,_⟩
  ·exact he e h1 h2
  ·omega
 | succ n ih =>
  intro i hi o ho he k hk;obtain ⟨e,h1,h2,h3⟩:=mN ho hk;rcases h3 with rfl|⟨h3,h4⟩
  ·exact he e h1 h2
  ·have Qg:i<ops.length:=(List.getElem?_eq_some_iff.1 ho).1;have Qgm:ops[e.on]?=some ops[e.on]:=Zh (by omega)
   exact ih e.on (by omega) _ Qgm (fun e' g1 g2=>hc e.on _ Qgm (he e h1 h2) e' g1 g2) k h4
theorem Tm:∀ {ops:List Oper} {n:Nat},Ot n ops=true→∀ i o,ops[i]?=some o→∀ e∈o.after.toList,Region.binds .any e=true→e.on<n+i
 | [],n,_,i,o,ho=>by simp at ho
 | x::r,n,h,i,o,ho=>by
  simp only [Ot,Zg,List.all_eq_true,Bool.or_eq_true,Bool.not_eq_true',decide_eq_true_eq] at h;cases i with
  | zero =>
   simp only [List.getElem?_cons_zero,Zc] at ho;subst ho;intro e he hb;rcases h.1 e he with h1|h1
   ·rw [hb] at h1;cases h1
   ·exact h1
  | succ i =>
   simp only [List.getElem?_cons_succ] at ho;intro e he hb;have:=Tm h.2 i o ho e he hb;omega
theorem Od {l:Array Bool} {i:Nat} (h:i<l.size):l.getD i true=l.getD i false:=by simp [h]
theorem Zd5 (K:Mf P C) (hC:C.dp=1) {ops:Array Oper} (hE:Ot 0 ops.toList=true) {N:Exit→Act→World→Prop}:∀ (n:Nat) (l:List (Nat×List Nat×Bool)) (listed:Array Bool) (s t:AS) (a:Act) (w:World),l.length=n →
  listed.size=ops.size→(∀ i,i<ops.size→(listed.getD i false=false↔∃ q∈l,q.1=i))→(∀ q∈l,q.1<ops.size)→(l.map (·.1)).Nodup→Zhw ops.toList listed→Tr C ops.toList l s t →
  l.Pairwise (fun p q=>Zbn ops.toList p q∨((D1 ops.toList).getD q.1 0).testBit p.1=true)→SR base pass F0 s a w→(∀ a w,SR base pass F0 t a w→N .normal a w)→wpAny P .any ops N n listed a w:=by
 intro n
 induction n with
 | zero =>
  intro l listed s t a w hl K5 Ge Qg F9 Ziq Zei Qd8 hs hN;have:l=[]:=List.eq_nil_of_length_eq_zero hl;subst this;cases Zei;refine ⟨?_,hN a w hs⟩;cases hr:Region.ready .any ops listed with
  | nil=>rfl
  | cons j r =>
   have hj:j∈Region.ready .any ops listed:=by rw [hr];simp
   obtain ⟨h1,o,ho,_⟩:=mem_ready.1 hj;have Ra:j<ops.size:=(Array.getElem?_eq_some_iff.1 ho).1;rw [Od (by omega)] at h1
   obtain ⟨q,hq,_⟩:=(Ge j Ra).1 h1;cases hq
 | succ n ih =>
  intro l listed s t a w hl K5 Ge Qg F9 Ziq Zei Qd8 hs hN;refine ⟨fun Zh6=>?_,fun i hi=>?_⟩
  ·
   exfalso;have ex:∀ m i,i≤m→i<ops.size→listed.getD i false=false→∃ j,j∈Region.ready .any ops listed:=by
    intro m
    induction m with
    | zero =>
     intro i Qh6 Bk hu;refine ⟨i,mem_ready.2 ⟨by rw [Od (by omega)];exact hu,ops[i],by simp [Bk],fun e he hb=>?_⟩⟩
     have:=Tm hE i ops[i] (by simp [Bk]) e (by simpa using he) hb
     omega
    | succ m ihm =>
     intro i Qh6 Bk hu;by_cases J8:∀ e∈ops[i].after,Region.binds .any e=true→listed.getD e.on false=true
     ·exact ⟨i,mem_ready.2 ⟨by rw [Od (by omega)];exact hu,ops[i],by simp [Bk],J8⟩⟩
     ·have:∃ e,e∈ops[i].after∧Region.binds .any e=true∧listed.getD e.on false=false:=by
       apply Classical.byContradiction;intro Y3;apply J8;intro e he hb;cases hx:listed.getD e.on false with
       | true=>rfl
       | false=>exact absurd ⟨e,he,hb,hx⟩ Y3
      obtain ⟨e,he,hb,hx⟩:=this;have:=Tm hE i ops[i] (by simp [Bk]) e (by simpa using he) hb
      exact ihm e.on (by omega) (by omega) hx
   cases l with
   | nil=>simp at hl
   | cons q r =>
    have hq:=Qg q (by simp)
    obtain ⟨j,hj⟩:=ex q.1 q.1 (Zl _) hq ((Ge q.1 hq).2 ⟨q,by simp,rfl⟩)
    rw [Zh6] at hj;cases hj
  ·obtain ⟨h1,o,ho,J8⟩:=mem_ready.1 hi;have Bk:i<ops.size:=(Array.getElem?_eq_some_iff.1 ho).1;have Cm:ops.toList[i]?=some o:=by simpa using ho
   rw [Od (by omega)] at h1
   obtain ⟨q,hq,rfl⟩:=(Ge i Bk).1 h1;obtain ⟨l1,l2,rfl⟩:=List.append_of_mem hq;have Qeu:∀ k∈l1,Zbn ops.toList k q:=by
    intro k hk;rcases (List.pairwise_append.1 Qd8).2.2 k hk q (by simp) with h|h
    ·exact h
    ·exfalso;have:=yP Ziq q.1 q.1 (Zl _) o Cm (fun e he hb=>J8 e (by simpa using he) hb) k.1 h
     have h2:=(Ge k.1 (Qg k (by simp [hk]))).2 ⟨k,by simp [hk],rfl⟩
     rw [this] at h2;cases h2
   obtain ⟨s1,t',Us,htr',Ky⟩:=Zei.first hC Qeu;have rest:∀ a w,SR base pass F0 s1 a w→wpAny P .any ops N n (listed.setIfInBounds q.1 true) a w:=by
    intro a w U7;have hnd':q.1∉(l1++l2).map (·.1):=by
     simp only [List.map_append,List.map_cons] at F9;have h2:=List.nodup_append.1 F9;have h3:=List.nodup_cons.1 h2.2.1;simp only [List.map_append,List.mem_append,not_or];exact ⟨fun hx=>h2.2.2 q.1 hx q.1 (by simp) rfl,h3.1⟩
    refine ih (l1++l2) _ s1 t' a w (by simp at hl ⊢;omega) (by simpa using K5) (fun i hi=>?_) (fun p hp=>Qg p (by simp at hp ⊢;rcases hp with hp|hp<;>simp [hp])) ?_ ?_ htr' ?_ U7 (fun a w h=>hN a w (h.same Ky.symm))
    ·by_cases Qet:q.1=i
     ·subst Qet;have:(listed.setIfInBounds q.1 true).getD q.1 false=true:=by simp [K5,hi]
      rw [this];constructor
      ·intro h;cases h
      ·rintro ⟨p,hp,Qhp⟩;exact absurd (List.mem_map.2 ⟨p,hp,Qhp⟩) hnd'
     ·rw [getD_set_ne false Qet,Ge i hi];constructor
      ·rintro ⟨p,hp,rfl⟩;refine ⟨p,?_,rfl⟩;simp only [List.mem_append,Z2] at hp ⊢;rcases hp with hp|rfl|hp
       ·exact .inl hp
       ·exact absurd rfl Qet
       ·exact .inr hp
      ·rintro ⟨p,hp,rfl⟩;refine ⟨p,?_,rfl⟩;simp only [List.mem_append,Z2] at hp ⊢;rcases hp with hp|hp
       ·exact .inl hp
       ·exact .inr (.inr hp)
    ·simp only [List.map_append,List.map_cons] at F9 ⊢;have h2:=List.nodup_append.1 F9;have h3:=List.nodup_cons.1 h2.2.1;exact List.nodup_append.2 ⟨h2.1,h3.2,fun x hx y hy=>h2.2.2 x hx y (List.mem_cons_of_mem _ hy)⟩
    ·intro j oj C2 Qgu e he hb;by_cases Qgv:q.1=j
     ·subst Qgv;rw [Cm] at C2;injection C2 with C2
      subst C2;exact getD_set_true (J8 e (by simpa using he) hb)
     ·rw [getD_set_ne false Qgv] at Qgu;exact getD_set_true (Ziq j oj C2 Qgu e he hb)
    ·have h2:=List.pairwise_append.1 Qd8;have h3:=List.pairwise_cons.1 h2.2.1;exact List.pairwise_append.2 ⟨h2.1,h3.2,fun x hx y hy=>h2.2.2 x hx y (List.mem_cons_of_mem _ hy)⟩
   obtain ⟨o',ho',vB⟩:=Us;rw [Cm] at ho';injection ho' with ho'
   subst ho';unfold wpOp;simp only [ho];obtain ⟨m,G,Zxt⟩:=hs;rcases vB with vB|⟨hg,_,_,c,x,os,e1,hc,rfl⟩|⟨hg,_,bc,x,rs,⟨b1,b2,b3,b4,b5,b6,b7⟩,_,rfl⟩
   ·cases Bl:o.guard with
    | none=>simp only [Bl] at vB
    | some jw =>
     obtain ⟨j,want⟩:=jw;simp only [Bl] at vB;obtain ⟨g1,_,_,rfl⟩:=vB;have hw:¬ Region.wanted o (yielded ops a.tmps)=true:=by
      cases Bd:Xe ops.toList s j with
      | b t1 b =>
       rw [Bd] at g1;have hy:=B3 Zxt Bd;have hy':yielded ops a.tmps j=some b:=by simpa using hy
       simp only [GV.skips] at g1;simp [Region.wanted,Bl,hy',g1]
      | und =>
       have hy:=nC Zxt Bd;have hy':yielded ops a.tmps j=none:=by simpa using hy
       simp [Region.wanted,Bl,hy']
      | no=>rw [Bd] at g1;exact g1.elim
     rw [if_neg hw];refine rest _ _ ⟨m,G,?_⟩;have hp:=Zxt.putO (t:=o.dst) (x:=.d (.tup [])) (v:=undef) fS;unfold AS.put;exact hp
   ·have hw:Region.wanted o (yielded ops a.tmps)=true:=by
     cases Bl:o.guard with
     | none=>simp [Region.wanted,Bl]
     | some jw =>
      obtain ⟨j,want⟩:=jw;simp only [Bl] at hg;cases Bd:Xe ops.toList s j with
      | b t1 b =>
       rw [Bd] at hg;simp only [GV.runs] at hg;subst hg;have hy:=B3 Zxt Bd;have hy':yielded ops a.tmps j=some b:=by simpa using hy
       simp [Region.wanted,Bl,hy']
      | und=>rw [Bd] at hg;exact hg.elim
      | no=>rw [Bd] at hg;exact hg.elim
    rw [if_pos hw];refine .inl (sF K Zxt e1 hc (fun v w' m' G' hs' hz=>rest _ _ ⟨m',G',?_⟩));have:=hs'.putO (t:=o.dst) hz;unfold AS.put;exact this
   ·have hw:Region.wanted o (yielded ops a.tmps)=true:=by
     cases Bl:o.guard with
     | none=>simp [Region.wanted,Bl]
     | some jw =>
      obtain ⟨j,want⟩:=jw;simp only [Bl] at hg;cases Bd:Xe ops.toList s j with
      | b t1 b =>
       rw [Bd] at hg;simp only [GV.runs] at hg;subst hg;have hy:=B3 Zxt Bd;have hy':yielded ops a.tmps j=some b:=by simpa using hy
       simp [Region.wanted,Bl,hy']
      | und=>rw [Bd] at hg;exact hg.elim
      | no=>rw [Bd] at hg;exact hg.elim
    rw [if_pos hw];refine .inl (uL K Zxt b1 b2 b3 b4 b6 b7 (fun v w' m' G' hs' hz=>rest _ _ ⟨m',G',?_⟩));have:=hs'.putO (t:=o.dst) hz;unfold AS.put;exact this
theorem jV {ms:List Nat}:∀ {acc:List (Nat×List Nat×Bool)},Zav ms acc=true→acc.Pairwise (fun q p=>(∀ k,k∈p.2.1→k∉q.2.1)∨(p.2.2=true∧q.2.2=true)∨(ms.getD q.1 0).testBit p.1=true)
 | [],_=>List.Pairwise.nil
 | (i,fi,ri)::r,h=>by
  simp only [Zav,Zg,List.all_eq_true,Bool.or_eq_true] at h;refine List.pairwise_cons.2 ⟨fun p hp=>?_,jV h.2⟩;rcases h.1 p hp with (h1|h1)|h1
  ·exact .inr (.inr h1)
  ·refine .inl fun k hk Az=>?_;have:=h1 k Az;simp [hk] at this
  ·exact .inr (.inl ⟨h1.2,h1.1⟩)
theorem dJ {rs0:List Nat}:∀ {ks:List Nat} {l:List Obj} {o:Z5},Ze rs0 ks l o→l.length≤ks.length
 | _,[],_,_=>by simp
 | [],_::_,_,h=>by simp [Ze] at h
 | k::ks,x::l,o,h=>by
  simp only [Ze] at h;have:=dJ h.2;simp only [Zd];omega
theorem Mc {ops:List Oper} {Kp:AS→Prop}:∀ (r:List Oper) (i:Nat) (acc:List (Nat×List Nat×Bool)) (s:AS),(∀ j,r[j]?=ops[i+j]?)→Vz C ops i r acc Kp s →
  ∃ l t acc',Tr C ops l s t∧Zwa ops acc'=true∧Kp t∧l.map (·.1)=List.range' i r.length ∧
   (∃ d,acc'=d++acc∧d.reverse.Sublist l∧∀ q∈l,q∉d→q.2.1=[]∧q.2.2=true)
 | [],i,acc,s,_,h=>by
  simp only [Vz] at h;exact ⟨[],s,acc,.nil s,h.1,h.2,rfl,[],rfl,List.Sublist.refl _,by simp⟩
 | o::r,i,acc,s,hr,h=>by
  have ho:ops[i]?=some o:=by have:=hr 0;simpa using this.symm
  have hr':∀ j,r[j]?=ops[i+1+j]?:=fun j=>by have:=hr (j+1);simpa [Nat.add_assoc,Nat.add_comm 1] using this
  have exec:∀ s,Cj C o (fun fp ro=>Vz C ops (i+1) r ((i,fp,ro)::acc) Kp) s→(match o.guard with
    | none=>True
    | some (j,want)=>(Xe ops s j).runs want)→∃ l t acc',Tr C ops l s t∧Zwa ops acc'=true∧Kp t∧l.map (·.1)=List.range' i (o::r).length ∧
   (∃ d,acc'=d++acc∧d.reverse.Sublist l∧∀ q∈l,q∉d→q.2.1=[]∧q.2.2=true):=by
   intro s h hg;unfold Cj at h;split at h
   ·next bc args hbo =>
    obtain ⟨x,rs,h1,rfl,h3,h4,h5,h6,h7⟩:=h;obtain ⟨l,t,acc',k1,k2,k3,k4,d,k5,k6,k7⟩:=Mc r (i+1) _ _ hr' h7;refine ⟨(i,rs.map (· % 4096),false)::l,t,acc',.cons ⟨o,ho,.inr (.inr ⟨hg,rfl,bc,x,rs,⟨hbo,h1,h3,h4,dJ h5,h5,h6⟩,rfl,rfl⟩)⟩ k1,k2,k3,by simp [k4,List.range'],d++[(i,rs.map (· % 4096),false)],by simp [k5],by simpa using k6,fun q hq Zbq=>?_⟩
    simp only [List.mem_append,Qy,not_or] at Zbq;rcases Z2.1 hq with rfl|hq
    ·exact absurd rfl Zbq.2
    ·exact k7 q hq Zbq.1
   ·split at h
    ·next c x os hs =>
     obtain ⟨l,t,acc',k1,k2,k3,k4,d,k5,k6,k7⟩:=Mc r (i+1) _ _ hr' h.2;refine ⟨(i,Mb C o s,Li o.op)::l,t,acc',.cons ⟨o,ho,.inr (.inl ⟨hg,rfl,rfl,c,x,os,hs,h.1,rfl⟩)⟩ k1,k2,k3,by simp [k4,List.range'],d++[(i,Mb C o s,Li o.op)],by simp [k5],by simpa using k6,fun q hq Zbq=>?_⟩
     simp only [List.mem_append,Qy,not_or] at Zbq;rcases Z2.1 hq with rfl|hq
     ·exact absurd rfl Zbq.2
     ·exact k7 q hq Zbq.1
    ·exact h.elim
  simp only [Vz] at h;split at h
  ·next hg=>exact exec s h (by simp only [hg])
  ·next j want hg =>
   split at h
   ·next t b Bd =>
    obtain ⟨g,g1,g2,g3,g4⟩:=Ti Bd;have Ky:({ s with tmps:=s.tmps.set t (.d (.bool b)) }:AS)=s:=by rw [sX g4 g3]
    by_cases hb:b=want
    ·have:=h.1 hb;rw [←hb,Ky] at this;exact exec s this (by simp only [hg,Bd,GV.runs];exact hb)
    ·have hb':b=!want:=by cases b<;>cases want<;>simp_all
     have:=h.2 hb';rw [←hb',Ky] at this;obtain ⟨l,t',acc',k1,k2,k3,k4,d,k5,k6,k7⟩:=Mc r (i+1) _ _ hr' this;refine ⟨(i,[],true)::l,t',acc',.cons ⟨o,ho,.inl ?_⟩ k1,k2,k3,by simp [k4,List.range'],d,k5,k6.cons _,fun q hq Zbq=>?_⟩
     ·simp only [hg,Bd];exact ⟨hb,by simp⟩
     ·rcases Z2.1 hq with rfl|hq
      ·exact ⟨rfl,rfl⟩
      ·exact k7 q hq Zbq
   ·next Bd =>
    obtain ⟨l,t',acc',k1,k2,k3,k4,d,k5,k6,k7⟩:=Mc r (i+1) _ _ hr' h;refine ⟨(i,[],true)::l,t',acc',.cons ⟨o,ho,.inl ?_⟩ k1,k2,k3,by simp [k4,List.range'],d,k5,k6.cons _,fun q hq Zbq=>?_⟩
    ·simp only [hg,Bd];exact ⟨trivial,by simp⟩
    ·rcases Z2.1 hq with rfl|hq
     ·exact ⟨rfl,rfl⟩
     ·exact k7 q hq Zbq
   ·exact h.elim
theorem oS {ops:List Oper} (h:oT ops=true) {i k:Nat} {x y:Oper} (hk:ops[k]?=some x) (hi:ops[i]?=some y) (Qg:k<i):((D1 ops).getD i 0).testBit k=true∨Pp ops x y=true:=by
 simp only [oT,List.all_eq_true,List.mem_range,Bool.or_eq_true] at h;have:=h i (List.getElem?_eq_some_iff.1 hi).1 k Qg;rw [hk,hi] at this;exact this
theorem yA (K:Mf P C) (hC:C.dp=1) {ops:Array Oper} {N:AS→Prop} {Q:Exit→Act→World→Prop} (hQ:∀ st a w,SR base pass F0 st a w→N st→Q .normal a w) {s:AS} (h:SR base pass F0 s a w)
  (hn:Vz C ops.toList 0 ops.toList [] N s):wpAny P .any ops Q ops.size (Array.replicate ops.size false) a w:=by
 obtain ⟨l,t,d,k1,k2,k3,k4,d',k5,k6,k7⟩:=Mc ops.toList 0 [] s (fun j=>by simp) hn
 simp only [List.append_nil] at k5;subst k5;simp only [Zwa,Zg] at k2;obtain ⟨⟨e1,e2⟩,e3⟩:=k2;have Z8:l.length=ops.size:=by have:=congrArg List.length k4;simpa using this
 have Cn:∀ i,(∃ q∈l,q.1=i)↔i<ops.size:=by
  intro i;have:i∈l.map (·.1)↔i<ops.size:=by rw [k4];simp
  rw [←this,List.mem_map]
 have F9:(l.map (·.1)).Nodup:=by rw [k4,←List.range_eq_range'];exact List.nodup_range
 refine Zd5 K hC e1 ops.size l _ s t a w Z8 (by simp) (fun i hi=>?_) (fun q hq=>(Cn q.1).1 ⟨q,hq,rfl⟩) F9 (fun i o ho hl=>?_) k1 ?_ h (fun a w hs=>hQ t a w hs k3)
 ·simp [hi,Cn i]
 ·rcases Nat.lt_or_ge i ops.size with Qg|Pj
  ·simp [Qg] at hl
  ·simp [Nat.not_lt.2 Pj] at hl
 ·
  have Qbl:l.Pairwise (fun p q=>p.1<q.1):=by
   have:(l.map (·.1)).Pairwise (·<·):=by rw [k4,←List.range_eq_range'];exact List.pairwise_lt_range
   exact List.pairwise_map.1 this
  have vF:=jV e3;have hd:d.reverse.Pairwise (fun p q=>(∀ k,k∈p.2.1→k∉q.2.1)∨(p.2.2=true∧q.2.2=true)∨((D1 ops.toList).getD q.1 0).testBit p.1=true):=List.pairwise_reverse.2 vF;have J8:∀ p∈l,∀ q∈l,p.1<q.1→(∀ k,k∈p.2.1→k∉q.2.1)∨(p.2.2=true∧q.2.2=true)∨((D1 ops.toList).getD q.1 0).testBit p.1=true:=by
   intro p hp q hq Qg;by_cases Qgj:p∈d
   ·by_cases Zbq:q∈d
    ·
     have hs:d.reverse.Pairwise (fun p q=>p.1<q.1):=Qbl.sublist k6;have both:∀ {R:Nat×List Nat×Bool→Nat×List Nat×Bool→Prop} {L:List (Nat×List Nat×Bool)},L.Pairwise R→L.Pairwise (fun p q=>p.1<q.1)→∀ p∈L,∀ q∈L,p.1<q.1→R p q:=by
      intro R L
      induction L with
      | nil=>intro _ _ p hp;cases hp
      | cons x L ihL =>
       intro h1 h2 p hp q hq Qg;rw [List.pairwise_cons] at h1 h2;rcases Z2.1 hp with Qgh|hp'
       ·rcases Z2.1 hq with Qd5|hq'
        ·subst Qgh;subst Qd5;omega
        ·subst Qgh;exact h1.1 q hq'
       ·rcases Z2.1 hq with Qd5|hq'
        ·subst Qd5;have:=h2.1 p hp';omega
        ·exact ihL h1.2 h2.2 p hp' q hq' Qg
     exact both hd hs p (by simpa using Qgj) q (by simpa using Zbq) Qg
    ·obtain ⟨q1,_⟩:=k7 q hq Zbq;exact .inl fun k _ hk=>by rw [q1] at hk;cases hk
   ·obtain ⟨q1,_⟩:=k7 p hp Qgj;exact .inl fun k hk=>by rw [q1] at hk;cases hk
  refine Qbl.imp_of_mem fun {p q} hp hq Qg=>?_;have zJ:=(Cn p.1).1 ⟨p,hp,rfl⟩;have Qcr:=(Cn q.1).1 ⟨q,hq,rfl⟩;rcases oS e2 (k:=p.1) (i:=q.1) (x:=ops[p.1]) (y:=ops[q.1]) (by simp [zJ]) (by simp [Qcr]) Qg with hb|Qca
  ·exact .inr hb
  ·rcases J8 p hp q hq Qg with h1|h1|h1
   ·refine .inl ⟨fun x y hx hy=>?_,.inl h1⟩;have hx':ops[p.1]=x:=by simpa [zJ] using hx
    have hy':ops[q.1]=y:=by simpa [Qcr] using hy
    rw [←hx',←hy'];exact Qca
   ·refine .inl ⟨fun x y hx hy=>?_,.inr h1⟩;have hx':ops[p.1]=x:=by simpa [zJ] using hx
    have hy':ops[q.1]=y:=by simpa [Qcr] using hy
    rw [←hx',←hy'];exact Qca
   ·exact .inr h1
theorem SR.drew (h:SR base pass F0 st a w):SR base pass F0 st a { w with drawn:=w.drawn+1 }:=by
 obtain ⟨m,G,h⟩:=h;exact ⟨m,G,h.drew⟩
def Zgt:AExit→Exit
 | .normal=>.normal
 | .exit id=>.exit id
 | .ret=>.ret
theorem oD:∀ {ks:List Nat} {st st':AS} {m:Nat→Nat} {G:Gh},SRg base pass F0 m G st a w→Qa5 ks st st'→∃ m' G',SRg base pass F0 m' G' st' a w
 | [],st,st',m,G,h,hw=>⟨m,_,h.weak hw⟩
 | k::ks,st,st',m,G,h,hw=>by
  simp only [Qa5] at hw;cases hp:pur 60 (st.tmps.getD k .dead) st.objs with
  | none=>rw [hp] at hw;exact hw.elim
  | some p =>
   obtain ⟨c,y,os⟩:=p;rw [hp] at hw;simp only at hw;obtain ⟨hc,hw⟩:=hw;have hk:k<st.tmps.length:=by
    refine Nat.lt_of_not_le fun hk=>?_;rw [Zk,List.getElem?_eq_none hk,Option.getD_none] at hp;simp [pur] at hp
   have hx:st.tmps[k]?=some (st.tmps.getD k .dead):=by
    rw [Zk,Zh hk,Option.getD_some]
   obtain ⟨v,hv,hr⟩:=RAs.at h.tmps hx;obtain ⟨m',h',_,_,hy⟩:=Np h hp hc hr;refine oD (m:=m') (G:=G) ?_ hw;have ht:RAs ⟨w,m'⟩ G (lk os) (st.tmps.set k (.d y)) (a.tmps.toList.set k v):=RAs.set h'.tmps (by simpa only [RA] using hy)
   have vN:a.tmps.toList.set k v=a.tmps.toList:=by
    have hl:k<a.tmps.toList.length:=by
     refine Nat.lt_of_not_le fun hn=>?_;rw [List.getElem?_eq_none hn] at hv;cases hv
    rw [Zh hl] at hv;injection hv with hv
    rw [←hv,List.set_getElem_self]
   rw [vN] at ht;exact ⟨h'.defers,ht,h'.objs,h'.apart,h'.mine,h'.frame,h'.old,h'.new,h'.small,h'.lent⟩
theorem Hi (K:Mf P C):∀ (c:Code) {N:AExit→AS→Prop} {Q:Exit→Act→World→Prop} {st:AS} {a:Act} {w:World},
  (∀ e st a w,SR base pass F0 st a w→N e st→Q (Zgt e) a w)→SR base pass F0 st a w→U6 C c N st→c.wp P Q a w
 | .skip,N,Q,st,a,w,hQ,h,hn=>wp_skip (hQ .normal st a w h hn)
 | .region id ops false,N,Q,st,a,w,hQ,h,hn=>by
  simp only [U6] at hn;refine wp_region_list ?_;have:=K0 (P:=P) K (Q:=Q) (hQ .normal) ops.toList st a w h hn;simpa using this
 | .region id ops true,N,Q,st,a,w,hQ,h,hn=>by
  simp only [U6] at hn;refine wp_region_any K.2.2.1 (yA (C:=C.one) ⟨K.1,K.2.1,K.2.2.1,K.2.2.2⟩ rfl (hQ .normal) h.drew hn)
 | .seq x y,N,Q,st,a,w,hQ,h,hn=>by
  simp only [U6] at hn;refine wp_seq (Hi K x ?_ h hn);intro e st a w hs he;cases e with
  | normal=>exact Hi K y hQ hs he
  | exit id=>exact hQ (.exit id) st a w hs he
  | ret=>exact hQ .ret st a w hs he
 | .cond c x y,N,Q,st,a,w,hQ,h,hn=>by
  simp only [U6] at hn;split at hn
  ·next b hb =>
   obtain ⟨m,G,hs⟩:=h;have hr:=Wf (C:=C) (hint:=0) hs.tmps c;rw [hb] at hr;simp only [RA] at hr;have hv:=hr.of_bool hn.1;exact wp_cond_split hv (fun ht=>Hi K x hQ ⟨m,G,hs⟩ (hn.2.1 ht)) (fun hf=>Hi K y hQ ⟨m,G,hs⟩ (hn.2.2 hf))
  ·exact hn.elim
 | .block id c,N,Q,st,a,w,hQ,h,hn=>by
  simp only [U6] at hn;refine wp_block (Hi K c ?_ h hn);intro e st a w hs he;cases e with
  | normal=>exact hQ .normal st a w hs he
  | exit id' =>
   simp only [kV] at he;simp only [Zgt,Exit.inBlock];split
   ·next hid=>rw [if_pos hid] at he;exact hQ .normal st a w hs he
   ·next hid=>rw [if_neg hid] at he;exact hQ (.exit id') st a w hs he
  | ret=>exact hQ .ret st a w hs he
 | .loop c,N,Q,st,a,w,hQ,h,hn=>by
  simp only [U6] at hn;obtain ⟨α,inv,ok,μ,rel,hrel,⟨x0,Qdv,Qej⟩,Zxu⟩:=hn;obtain ⟨m,G,hs⟩:=h;obtain ⟨ks,Qdv⟩:=Qdv;obtain ⟨m,G,hs⟩:=oD hs Qdv;refine wp_loop_ghost (fun n a w=>∃ x,ok x∧μ x=n∧SR base pass F0 (inv x) a w) (μ x0) ⟨x0,Qej,rfl,m,G,hs⟩ ?_;rintro n a w ⟨x,X5,rfl,Qhi⟩;refine Hi K c ?_ Qhi (Zxu x X5);intro e st a w hs he;cases e with
  | normal =>
   obtain ⟨x',hw',hok',Qg⟩:=he;obtain ⟨m',G',hs'⟩:=hs;obtain ⟨m2,G2,kN⟩:=hs'.back (hrel _ _ hw');exact ⟨μ x',Qg,x',hok',rfl,m2,G2,kN⟩
  | exit id=>exact hQ (.exit id) st a w hs he
  | ret=>exact hQ .ret st a w hs he
 | .exit id,N,Q,st,a,w,hQ,h,hn=>wp_exit (hQ (.exit id) st a w h hn)
 | .ret,N,Q,st,a,w,hQ,h,hn=>wp_ret (hQ .ret st a w h hn)
 | .rangeFunc ..,_,_,_,_,_,_,_,hn=>by simp [U6] at hn
 | .scope _,_,_,_,_,_,_,_,hn=>by simp [U6] at hn
 | .label _,_,_,_,_,_,_,_,hn=>by simp [U6] at hn
 | .goto _,_,_,_,_,_,_,_,hn=>by simp [U6] at hn
 | .refuse _,_,_,_,_,_,_,_,hn=>by simp [U6] at hn
end
def mK (C:Ctx) (st:AS):ResultVar→Option (Prop×AV)
 | .tmp t=>some (True,st.tmps.getD t .dead)
 | .cell t T=>match Rr C T (st.tmps.getD t .dead) st.objs with
  | some (c,x,_)=>some (c,x)
  | none=>none
def S9 (C:Ctx) (st:AS):List ResultVar→Option (Prop×List AV)
 | []=>some (True,[])
 | r::rs=>match mK C st r,S9 C st rs with
  | some (c,x),some (c',l)=>some (c∧c',x::l)
  | _,_=>none
def sK (C:Ctx) (rs:List ResultVar) (outs:List Bool) (r:CV) (st:AS):Prop:=match S9 C st rs with
 | some (c,xs)=>match Yj C outs xs st.objs with
  | some (c',J0,_)=>c∧c'∧match J0 with
   | [x]=>x=r
   | l=>CV.tup l=r
  | none=>False
 | none=>False
def Zj6 (C:Ctx) (rs:List ResultVar) (outs:List Bool) (r:CV):AExit→AS→Prop
 | .exit _,_=>False
 | _,st=>sK C rs outs r st
def Wn:Nat→List CV→List AV×Z5
 | _,[]=>([],[])
 | k,.d x::r=>(.d x::(Wn (k+1) r).1,(Wn (k+1) r).2)
 | k,.own s l::r=>(.sl k l.length::(Wn (k+1) r).1,(k,.row s l 0)::(Wn (k+1) r).2)
 | k,.tup _::r=>(.dead::(Wn (k+1) r).1,(Wn (k+1) r).2)
def Vf:Nat→List AV
 | 0=>[]
 | n+1=>.dead::Vf n
def F4 (n:Nat) (J0:List CV):AS:=⟨(Wn 80000 J0).1++Vf (n-J0.length),(Wn 80000 J0).2⟩
theorem fW:∀ {o:Z5} {k:Nat} {x:Obj},lk o k=none→upd o k x=o++[(k,x)]
 | [],_,_,_=>rfl
 | (j,p)::r,k,x,h=>by
  simp only [lk] at h;by_cases Qbu:k=j
  ·rw [if_pos Qbu] at h;cases h
  ·rw [if_neg Qbu] at h;simp only [upd,if_neg Qbu,List.cons_append,fW h]
theorem Ej {base:Nat} {pass:Nat→Prop} {F0:Anc} {m:Nat→Nat} {w:World}:∀ {J0:List CV} {vs:List Value} {k:Nat} {os:Z5} {G:Gh},SRg base pass F0 m G ⟨[],os⟩ ⟨#[],[]⟩ w→Yk ⟨w,m⟩ J0 vs→(Qr J0 vs).Nodup →
  (∀ b∈Qr J0 vs,(base≤b∨pass b)∧∀ i oi,lk os i=some oi→oi.owns=true→G.γ i≠some b)→(∀ j,k≤j→lk os j=none) →
  ∃ G',Yo G (lk os) G' (lk (os++(Wn k J0).2))∧SRg base pass F0 m G' ⟨[],os++(Wn k J0).2⟩ ⟨#[],[]⟩ w∧RAs ⟨w,m⟩ G' (lk (os++(Wn k J0).2)) (Wn k J0).1 vs
 | [],vs,k,os,G,h,hc,_,_,_=>by
  simp only [Yk] at hc;subst hc;simp only [Wn,List.append_nil];exact ⟨G,Yo.refl _ _,h,by simp [RAs]⟩
 | .tup l::J0,vs,k,os,G,h,hc,_,_,_=>by
  simp only [Yk,kD] at hc;obtain ⟨_,_,_,hf,_⟩:=hc;exact hf.elim
 | .d x::J0,vs,k,os,G,h,hc,hn,hb,hk=>by
  simp only [Yk,kD] at hc;obtain ⟨v,r,rfl,hx,Aw⟩:=hc;obtain ⟨G',q1,q2,q3⟩:=Ej (k:=k+1) h Aw (by simpa [Qr] using hn) (fun b Gd=>hb b (by simpa [Qr] using Gd)) (fun j hj=>hk j (by omega))
  simp only [Wn];refine ⟨G',q1,q2,?_⟩;simp only [RAs,RA];exact ⟨v,r,rfl,hx,q3⟩
 | .own s l::J0,vs,k,os,G,h,hc,hn,hb,hk=>by
  simp only [Yk,kD] at hc;obtain ⟨v,r,rfl,hx,Aw⟩:=hc;have Ax:Qr (.own s l::J0) (v::r)=v.ownBlock.toList++Qr J0 r:=rfl;rw [Ax] at hn hb;obtain ⟨n1,n2,n3⟩:=List.nodup_append.1 hn;have V7:=hk k (Zl _);obtain ⟨G1,q1,q2,q3,q4,q5⟩:=h.adopt V7 hx (fun b Gd=>hb b (List.mem_append_left _ (by simp [Gd])))
  rw [fW V7] at q1 q2 q3;obtain ⟨G',p1,p2,p3⟩:=Ej (k:=k+1) (os:=os++[(k,.row s l 0)]) q2 Aw n2 (fun b Gd=>by
   refine ⟨(hb b (List.mem_append_right _ Gd)).1,fun i oi hi ho hg=>?_⟩;rw [←fW V7,J2] at hi;by_cases Zx3:i=k
   ·subst Zx3;exact n3 b (by simp [q5 b hg]) b Gd rfl
   ·rw [if_neg Zx3] at hi;rw [q4 i Zx3] at hg;exact (hb b (List.mem_append_right _ Gd)).2 i oi hi ho hg) (fun j hj=>by
   rw [←fW V7,J2,if_neg (by omega)]
   exact hk j (by omega))
  simp only [Wn];simp only [List.append_assoc,List.singleton_append] at p1 p2 p3;refine ⟨G',?_,p2,?_⟩
  ·exact Yo.trans q1 p1
  ·simp only [RAs];exact ⟨v,r,rfl,RA.mono (Fix.le_refl _) p1 q3,p3⟩
theorem Yk.length {F:Fix}:∀ {l:List CV} {vs:List Value},Yk F l vs→vs.length=l.length
 | [],_,h=>by simp only [Yk] at h;simp [h]
 | _::l,_,h=>by
  simp only [Yk] at h;obtain ⟨v,r,rfl,_,h3⟩:=h;simp [Yk.length h3]
theorem Ef {F:Fix} {G:Gh} {L:Nat→Option Obj}:∀ n,RAs F G L (Vf n) (List.replicate n undef)
 | 0=>by simp [Vf,RAs]
 | n+1=>by simp only [Vf,List.replicate_succ,RAs,RA];exact ⟨undef,_,rfl,trivial,Ef n⟩
def pY (a:Act):ResultVar→Sem Value
 | .tmp t=>pure (a.tmps.getD t undef)
 | .cell t T=>do loadVar T (←asAddr (a.tmps.getD t undef))
theorem wA {P:Program} {w:World} {T:TypeId} {v v':Value} (h:(Instr.loadAt T v).run P w=.ok v' w):(do loadVar T (←asAddr v):Sem Value).run P w=.ok v' w:=by
 cases v with
 | pointer a =>
  cases a with
  | none=>simp [Instr.loadAt,Instr.sureAddr] at h
  | some a=>simpa [Instr.loadAt,Instr.sureAddr,asAddr] using h
 | _=>simp [Instr.loadAt,Instr.sureAddr] at h
section
variable {P:Program} {C:Ctx} {base:Nat} {pass:Nat→Prop} {F0:Anc} {m:Nat→Nat} {G:Gh} {st:AS} {a:Act} {w:World}
theorem sA (T:Xy P C.τ) (h:SRg base pass F0 m G st a w) {r:ResultVar} {c:Prop} {x:AV}
  (hr:mK C st r=some (c,x)) (hc:c):∃ v,(pY a r).run P w=.ok v w∧RA ⟨w,m⟩ G (lk st.objs) x v:=by
 cases r with
 | tmp t =>
  simp only [mK,Zc,Zf] at hr;obtain ⟨rfl,rfl⟩:=hr;exact ⟨_,rfl,Wf (C:=C) (hint:=0) h.tmps (.tmp t)⟩
 | cell t T' =>
  simp only [mK] at hr;split at hr
  ·next c1 y os hl =>
   simp only [Zc,Zf] at hr;obtain ⟨rfl,rfl⟩:=hr;have hp:=Wf (C:=C) (hint:=0) h.tmps (.tmp t);obtain ⟨_,v,r1,r2⟩:=Zah (P:=P) T h hp hl hc;exact ⟨v,wA r1,r2⟩
  ·cases hr
theorem S8 (T:Xy P C.τ) (h:SRg base pass F0 m G st a w):∀ {rs:List ResultVar} {c:Prop} {xs:List AV},S9 C st rs=some (c,xs)→c →
  ∃ vs,(rs.mapM (pY a)).run P w=.ok vs w∧RAs ⟨w,m⟩ G (lk st.objs) xs vs
 | [],c,xs,hr,hc=>by
  simp only [S9,Zc,Zf] at hr;obtain ⟨rfl,rfl⟩:=hr;exact ⟨[],by simp,by simp [RAs]⟩
 | r::rs,c,xs,hr,hc=>by
  simp only [S9] at hr;split at hr
  ·next c1 x c2 l h1 h2 =>
   simp only [Zc,Zf] at hr;obtain ⟨rfl,rfl⟩:=hr;obtain ⟨v,e1,e2⟩:=sA T h h1 hc.1;obtain ⟨vs,g1,g2⟩:=S8 T h h2 hc.2;refine ⟨v::vs,by simp [List.mapM_cons,e1,g1],?_⟩
   simp only [RAs];exact ⟨v,vs,rfl,e2,g2⟩
  ·cases hr
def gR:List Value→Value
 | [v]=>v
 | vs=>.tuple vs.toArray
theorem dW {fn:Func} {vs:List Value} (h:(fn.results.toList.mapM (pY a)).run P w=.ok vs w):(results fn a.tmps).run P w=.ok (gR vs) w:=by
 have e:results fn a.tmps=(do
   let us ←List.toArray <$> fn.results.toList.mapM (pY a)
   pure (if h:us.size=1 then us[0] else .tuple us)):=by
  unfold results
  congr 1
  rw [Array.mapM_eq_mapM_toList];rfl
 rw [e];simp only [Sem.run_bind,Sem.run_map,h,Result.andThen_ok,Sem.run_pure]
 match vs with
 | []=>simp [gR]
 | [v]=>simp [gR]
 | _::_::_=>simp [gR]
theorem Zgs (K:Mf P C) {f:FuncId} {fn:Func} {c:Code} {con:Con} (hf:P.funcs[f]?=some fn) (hb:fn.body=some c) (rs:List ResultVar) (lE:fn.results.toList=rs) (nt:Nat) (hnt:fn.ntmps=nt)
  (h:∀ J0,con.pre J0→U6 C c (Zj6 C rs con.outs (con.fn J0)) (F4 nt J0)):Zhs P f con:=by
 intro m w J0 vs Zo aD F9 Vm Qbz;subst hnt;subst lE;refine calls_of_wp hf hb ?_;have Qg:∀ (l:List CV) (us:List Value),Yk ⟨w,m⟩ l us→∀ b∈Qr l us,b<w.heap.size:=by
  intro l
  induction l with
  | nil=>intro us hu b hb;simp [Qr] at hb
  | cons x l ih =>
   intro us hu b hb;simp only [Yk] at hu;obtain ⟨u,r,rfl,vM,Zxm⟩:=hu;have Ax:Qr (x::l) (u::r)=Qr [x] [u]++Qr l r:=by cases x<;>simp [Qr]
   rw [Ax] at hb;rcases List.mem_append.1 hb with hb|hb
   ·cases x with
    | own s els =>
     simp [Qr] at hb;exact (kA.lt vM hb).1
    | _=>simp [Qr] at hb
   ·exact ih r Zxm b hb
 have h0:SRg w.heap.size (·∈Qr J0 vs) ⟨⟨w,m⟩,⟨fun _=>none,fun _=>undef⟩,fun _=>none⟩ m ⟨fun _=>none,fun _=>undef⟩ ⟨[],[]⟩ ⟨#[],[]⟩ w :=
  ⟨rfl,by simp [RAs],fun i o hi=>by simp [lk] at hi,fun i j oi oj b hi=>by simp [lk] at hi,fun i o b hi=>by simp [lk] at hi,FrameG.refl Qbz,fun _ _ _=>rfl,Vm,Zl _,fun i o hi=>by cases hi⟩
 obtain ⟨G,q1,q2,q3⟩:=Ej (k:=80000) (os:=[]) h0 aD F9 (fun b hb=>⟨.inr hb,fun i oi hi=>by simp [lk] at hi⟩) (fun _ _=>rfl)
 simp only [List.nil_append] at q1 q2 q3;have Z8:=Yk.length aD;have hs:SRg w.heap.size (·∈Qr J0 vs) ⟨⟨w,m⟩,⟨fun _=>none,fun _=>undef⟩,fun _=>none⟩ m G (F4 fn.ntmps J0) { tmps:=vs.toArray++Array.replicate (fn.ntmps-vs.toArray.size) undef,defers:=[] } w:=by
  refine ⟨rfl,?_,q2.objs,q2.apart,q2.mine,q2.frame,q2.old,q2.new,q2.small,q2.lent⟩;have:=RAs.append q3 (Ef (F:=⟨w,m⟩) (G:=G) (L:=lk (Wn 80000 J0).2) (fn.ntmps-J0.length));simpa [F4,Z8] using this
 have fin:∀ (st:AS) (a:Act) (w':World),SR w.heap.size (·∈Qr J0 vs) ⟨⟨w,m⟩,⟨fun _=>none,fun _=>undef⟩,fun _=>none⟩ st a w'→sK C fn.results.toList con.outs (con.fn J0) st →
   a.defers=[]∧∃ v,(results fn a.tmps).run P w'=.ok v w'∧∃ u m',Ending.returned v=.returned u∧Frame w.heap.size (·∈Qr J0 vs) w w'∧(∀ b,b<w.heap.size→b∉Qr J0 vs→m' b=m b) ∧
    (∀ b,w'.heap.size≤b→m' b=0)∧rA ⟨w',m'⟩ w.heap.size (·∈Qr J0 vs) (con.fn J0) u:=by
  intro st a w' ⟨m1,G1,U7⟩ Ep;unfold sK at Ep;split at Ep
  ·next c1 xs Qbi =>
   split at Ep
   ·next c2 cvs2 os aL =>
    obtain ⟨Eu,oH,lI⟩:=Ep;obtain ⟨us,e1,e2⟩:=S8 K.1 U7 Qbi Eu;obtain ⟨m2,k1,k2,k3,k4,k5⟩:=I5 U7 aL oH e2;refine ⟨U7.defers,_,dW e1,_,m2,rfl,k1.frame.toFrame,fun b hb H7=>k1.old b hb H7,k1.new,?_⟩;split at lI
    ·next x =>
     simp only [Yk] at k3;obtain ⟨v,r,rfl,hx,rfl⟩:=k3;rw [←lI];cases x with
     | tup l=>simp [kD] at hx
     | d x =>
      simp only [rA];exact ⟨⟨v,[],rfl,hx,rfl⟩,fun b hb=>(k5 b hb).1⟩
     | own s l =>
      simp only [rA];exact ⟨⟨v,[],rfl,hx,rfl⟩,fun b hb=>(k5 b hb).1⟩
    ·next Hk =>
     rw [←lI];simp only [rA];refine ⟨us,?_,k3,k4,fun b hb=>(k5 b hb).1⟩
     match us,Yk.length k3 with
     | [u],hl =>
      match cvs2,hl with
      | [x],_=>exact absurd rfl (Hk x)
     | [],_=>rfl
     | _::_::_,_=>rfl
   ·exact Ep.elim
  ·exact Ep.elim
 refine Hi K c ?_ ⟨m,G,hs⟩ (h J0 Zo);intro e st a w' rB Jc;cases e with
 | normal=>exact fin st a w' rB Jc
 | ret=>exact fin st a w' rB Jc
 | exit id=>exact Jc.elim
def mE:List D→D
 | [d]=>d
 | l=>.tup l
def aZ (n:Nat) (qs:List Nat):Prop:=∀ j,j<n→qs[j]?=some (90000+j)
def Zfb (C:Ctx) (rs:List ResultVar) (n:Nat) (res:D) (post:List Obj) (st:AS):Prop:=match S9 C st rs with
 | some (c,xs)=>match purs C.dp xs st.objs with
  | some (c',ds,os)=>c∧c'∧mE ds=res∧∃ qs:List Nat,qs.Nodup∧qs.length=post.length∧aZ n qs∧Ze qs qs post os
  | none=>False
 | none=>False
def V5 (C:Ctx) (rs:List ResultVar) (n:Nat) (res:D) (post:List Obj):AExit→AS→Prop
 | .exit _,_=>False
 | _,st=>Zfb C rs n res post st
def Zfa (C:Ctx) (rs:List ResultVar) (n j:Nat) (post:List Obj) (st:AS):Prop:=match S9 C st rs with
 | some (c,[.mpr k])=>c∧∃ qs:List Nat,qs.Nodup∧qs.length=post.length∧aZ n qs∧Ze qs qs post st.objs∧qs[j]?=some k
 | _=>False
def Zhu (C:Ctx) (rs:List ResultVar) (n j:Nat) (post:List Obj):AExit→AS→Prop
 | .exit _,_=>False
 | _,st=>Zfa C rs n j post st
theorem Zi1 {F:Fix} {ds:List D} {us:List Value} (h:Rs F ds us):R F (mE ds) (gR us):=by
 match ds,us,h with
 | [],us,h =>
  simp only [Rs] at h;subst h;simp only [mE,gR,R,Rs];exact ⟨[],rfl,rfl⟩
 | [d],us,h =>
  simp only [Rs] at h;obtain ⟨v,r,rfl,h2,rfl⟩:=h;exact h2
 | d::e::l,us,h =>
  have h':=h;simp only [Rs] at h;obtain ⟨v,r,rfl,h2,v',r',rfl,h3,h4⟩:=h;simp only [mE,gR,R];exact ⟨_,rfl,h'⟩
theorem Zde (K:Mf P C) {f:FuncId} {fn:Func} {c:Code} {bc:BCon} (hf:P.funcs[f]?=some fn) (hb:fn.body=some c) (rs:List ResultVar) (lE:fn.results.toList=rs) (nt:Nat) (hnt:fn.ntmps=nt)
  (h:∀ x,bc.ok x→Xg (bc.args x) (bc.objs x)∧Zr (bc.objs x)∧Xg [] (bc.post x)∧(bc.objs x).length≤(bc.post x).length ∧
   U6 C c (V5 C rs (bc.objs x).length (bc.res x) (bc.post x)) ⟨bc.args x++Vf (nt-(bc.args x).length),Zq (bc.objs x)⟩) (Wp:∀ x,bc.out x=none:=by intro _;rfl):yR P f bc:=by
 intro x X5;obtain ⟨h1,h2,h3,h4,h5⟩:=h x X5;refine ⟨h1,h2,h3,h4,fun m w G vs rB=>?_⟩;subst hnt;subst lE;refine calls_of_wp hf hb ?_;have Z8:=RAs.length (by simpa using rB.tmps:RAs ⟨w,m⟩ G (lk (Zq (bc.objs x))) (bc.args x) vs)
 have hs:SRg w.heap.size (Hq G (bc.objs x)) ⟨⟨w,m⟩,G,lk (Zq (bc.objs x))⟩ m G ⟨bc.args x++Vf (fn.ntmps-(bc.args x).length),Zq (bc.objs x)⟩
   { tmps:=vs.toArray++Array.replicate (fn.ntmps-vs.toArray.size) undef,defers:=[] } w:=by
  refine ⟨rfl,?_,rB.objs,rB.apart,rB.mine,rB.frame,rB.old,rB.new,rB.small,rB.lent⟩;have:=RAs.append (by simpa using rB.tmps:RAs ⟨w,m⟩ G (lk (Zq (bc.objs x))) (bc.args x) vs) (Ef (F:=⟨w,m⟩) (G:=G) (L:=lk (Zq (bc.objs x))) (fn.ntmps-(bc.args x).length))
  simpa [Z8] using this
 have fin:∀ (st:AS) (a:Act) (w':World),SR w.heap.size (Hq G (bc.objs x)) ⟨⟨w,m⟩,G,lk (Zq (bc.objs x))⟩ st a w'→Zfb C fn.results.toList (bc.objs x).length (bc.res x) (bc.post x) st →
   a.defers=[]∧∃ v,(results fn a.tmps).run P w'=.ok v w'∧∃ u m' G',Ending.returned v=.returned u∧RA ⟨w',m'⟩ G' (lk (Zq (bc.post x))) (bc.rv x) u ∧
    SRg w.heap.size (Hq G (bc.objs x)) ⟨⟨w,m⟩,G,lk (Zq (bc.objs x))⟩ m' G' ⟨[],Zq (bc.post x)⟩ ⟨#[],[]⟩ w':=by
  intro st a w' ⟨m1,Gf,U7⟩ Ep;unfold Zfb at Ep;split at Ep
  ·next c1 xs Qbi =>
   split at Ep
   ·next c2 ds os hpu =>
    obtain ⟨Eu,oH,Qea,qs,F9,Qcr,Zyd,Us⟩:=Ep;obtain ⟨us,e1,e2⟩:=S8 K.1 U7 Qbi Eu;obtain ⟨m2,k1,_,k3⟩:=purs_sound' U7 hpu oH e2;have Zkn:∀ {j j' k:Nat},qs[j]?=some k→qs[j']?=some k→j=j':=by
     intro j j' k h1 h2;obtain ⟨hj,e1⟩:=List.getElem?_eq_some_iff.1 h1;obtain ⟨hj',e2⟩:=List.getElem?_eq_some_iff.1 h2;have hp:=List.pairwise_iff_getElem.1 F9;rcases Nat.lt_trichotomy j j' with Qg|kI|Qew
     ·exact absurd (e1.trans e2.symm) (hp j j' hj hj' Qg)
     ·exact kI
     ·exact absurd (e2.trans e1.symm) (hp j' j hj' hj Qew)
    let G':Gh:=⟨fun i=>Gf.γ (rk qs i),fun i=>Gf.hd (rk qs i)⟩
    have al:Alike qs (bc.post x) G' Gf (lk os):=⟨fun i o hi=>by
     obtain ⟨j,rfl,hj⟩:=Wq hi;obtain ⟨k,hk,Yg⟩:=Ys Us hj;rw [Ps hk];exact Yg,fun i o hi=>⟨rfl,rfl⟩⟩
    refine ⟨U7.defers,_,dW e1,_,m2,G',rfl,by unfold BCon.rv;rw [Wp x];simp only [RA];rw [←Qea];exact Zi1 k3,?_⟩
    constructor
    ·rfl
    ·simp [RAs]
    ·intro i o hi;obtain ⟨j,rfl,hj⟩:=Wq hi;exact (gH al hi (S1 h3.2 hj)).2 (k1.objs _ _ (al.obj _ _ hi))
    ·intro i i' o o' b hi hi' ho ho' hb hb';have e:=k1.apart _ _ _ _ b (al.obj _ _ hi) (al.obj _ _ hi') (by rw [Uj];exact ho) (by rw [Uj];exact ho') hb hb'
     obtain ⟨j,rfl,hj⟩:=Wq hi;obtain ⟨j',rfl,hj'⟩:=Wq hi';obtain ⟨k,hk,_⟩:=Ys Us hj;obtain ⟨k',hk',_⟩:=Ys Us hj';rw [Ps hk,Ps hk'] at e;subst e;rw [Zkn hk hk']
    ·intro i o b hi ho hb;exact k1.mine _ _ b (al.obj _ _ hi) (by rw [Uj];exact ho) hb
    ·exact k1.frame
    ·exact k1.old
    ·exact k1.new
    ·exact k1.small
    ·intro i o hi;obtain ⟨Pj,o',ho',hw⟩:=k1.lent i o hi;obtain ⟨j,rfl,hj⟩:=Wq hi;have Zx2:j<(bc.objs x).length:=(List.getElem?_eq_some_iff.1 hj).1;have Qer:j<(bc.post x).length:=by omega
     have hp:=Zh (l:=bc.post x) Qer;obtain ⟨k,hk,Yg⟩:=Ys Us hp;rw [Zyd j Zx2] at hk;injection hk with hk
     subst hk;simp only at ho';rw [Yg] at ho';injection ho' with ho'
     subst ho';have eg:G'.γ (90000+j)=Gf.γ (90000+j):=by show Gf.γ (rk qs (90000+j))=_;rw [Ps (Zyd j Zx2)]
     have eh:G'.hd (90000+j)=Gf.hd (90000+j):=by show Gf.hd (rk qs (90000+j))=_;rw [Ps (Zyd j Zx2)]
     refine ⟨Pj,_,Uq hp,fun hb=>?_,fun s els' k' he=>?_,fun t l' he=>?_⟩;rotate_left 2
     ·obtain ⟨l,f1,f2,f3⟩:=hw.2.2 t l' (gI.2 he);refine ⟨l,f1,f2,fun kI=>?_⟩;obtain ⟨q1,q2⟩:=f3 kI;exact ⟨eg.trans q1,eh.trans q2⟩
     ·obtain ⟨w1,w2⟩:=hw.1 (by rw [Pb];exact hb)
      exact ⟨w1,eg.trans w2⟩
     ·obtain ⟨els,k0,f1,f2,f3⟩:=hw.2.1 s els' k' (pJ.2 he);refine ⟨els,k0,f1,f2,fun kI=>?_⟩;obtain ⟨q1,q2⟩:=f3 kI;exact ⟨eg.trans q1,eh.trans q2⟩
   ·exact Ep.elim
  ·exact Ep.elim
 refine Hi K c ?_ ⟨m,G,hs⟩ h5;intro e st a w' rB Jc;cases e with
 | normal=>exact fin st a w' rB Jc
 | ret=>exact fin st a w' rB Jc
 | exit id=>exact Jc.elim
end
mutual
def zD:D→Value→Bool
 | .int k n,.int k' n'=>k==k'&&n==n'
 | .bool b,.bool b'=>b==b'
 | .str s,.string b=>s==b.data.toList
 | .nilf,.nilFunc=>true
 | .nilp,.pointer none=>true
 | .nilm,.map none=>true
 | .list _ l,.slice none 0 0=>l.isEmpty
 | .agg l,.agg cs=>zDs l cs.toList&&cs.toList.all (·.oneCell')
 | _,_=>false
def zDs:List D→List Value→Bool
 | [],[]=>true
 | x::l,v::vs=>zD x v&&zDs l vs
 | _,_=>false
end
mutual
def zA:AV→Value→Bool
 | .d x,v=>zD x v
 | .nils _,.slice none 0 0=>true
 | .agg l,.agg cs=>zAs l cs.toList&&cs.toList.all (·.oneCell')
 | _,_=>false
def zAs:List AV→List Value→Bool
 | [],[]=>true
 | x::l,v::vs=>zA x v&&zAs l vs
 | _,_=>false
end
mutual
theorem zD_sound:∀ {x:D} {v:Value},zD x v=true→∀ F,R F x v
 | .int k n,v,h,F=>by
  cases v<;>simp only [zD,Zn,Zg,Zi] at h;simp only [R];rw [h.1,h.2]
 | .bool b,v,h,F=>by
  cases v<;>simp only [zD,Zn,Zi] at h;simp only [R];rw [h]
 | .str s,v,h,F=>by
  cases v<;>simp only [zD,Zn,Zi] at h;simp only [R];rw [h]
 | .nilf,v,h,F=>by
  cases v<;>simp only [zD,Zn] at h;simp only [R]
 | .nilm,v,h,F=>by
  cases v with
  | map a=>cases a<;>simp only [zD,Zn] at h;simp only [R]
  | _=>simp only [zD,Zn] at h
 | .nilp,v,h,F=>by
  cases v with
  | pointer a=>cases a<;>simp only [zD,Zn] at h;simp only [R]
  | _=>simp only [zD,Zn] at h
 | .list s l,v,h,F=>by
  cases v with
  | slice A n c =>
   cases A with
   | some A=>simp only [zD,Zn] at h
   | none =>
    cases n with
    | succ n=>simp only [zD,Zn] at h
    | zero =>
     cases c with
     | succ c=>simp only [zD,Zn] at h
     | zero =>
      simp only [zD,List.isEmpty_iff] at h;subst h;simp only [R];exact ⟨none,0,rfl,by simp,by simp [maxLen],by simp⟩
  | _=>simp only [zD,Zn] at h
 | .agg l,v,h,F=>by
  cases v with
  | agg cs =>
   simp only [zD,Zg,List.all_eq_true] at h;simp only [R];exact ⟨cs.toList,by simp,zDs_sound h.1 F,h.2⟩
  | _=>simp only [zD,Zn] at h
 | .tup l,v,h,F=>by cases v<;>simp only [zD,Zn] at h
 | .ptr s x,v,h,F=>by cases v<;>simp only [zD,Zn] at h
 | .clo f l,v,h,F=>by cases v<;>simp only [zD,Zn] at h
theorem zDs_sound:∀ {l:List D} {vs:List Value},zDs l vs=true→∀ F,Rs F l vs
 | [],vs,h,F=>by
  cases vs with
  | nil=>simp only [Rs]
  | cons=>simp only [zDs,Zn] at h
 | x::l,vs,h,F=>by
  cases vs with
  | nil=>simp only [zDs,Zn] at h
  | cons v vs =>
   simp only [zDs,Zg] at h;simp only [Rs];exact ⟨v,vs,rfl,zD_sound h.1 F,zDs_sound h.2 F⟩
end
mutual
theorem zA_sound:∀ {x:AV} {v:Value},zA x v=true→∀ F G L,RA F G L x v
 | .d x,v,h,F,G,L=>by
  simp only [zA] at h;simp only [RA];exact zD_sound h F
 | .nils s,v,h,F,G,L=>by
  cases v with
  | slice A n c =>
   cases A with
   | some A=>simp only [zA,Zn] at h
   | none =>
    cases n with
    | succ n=>simp only [zA,Zn] at h
    | zero =>
     cases c with
     | succ c=>simp only [zA,Zn] at h
     | zero=>simp only [RA]
  | _=>simp only [zA,Zn] at h
 | .agg l,v,h,F,G,L=>by
  cases v with
  | agg cs =>
   simp only [zA,Zg,List.all_eq_true] at h;simp only [RA];exact ⟨cs.toList,by simp,zAs_sound h.1 F G L,h.2⟩
  | _=>simp only [zA,Zn] at h
 | .ref ..,v,h,F,G,L=>by cases v<;>simp only [zA,Zn] at h
 | .rref ..,v,h,F,G,L=>by cases v<;>simp only [zA,Zn] at h
 | .sl ..,v,h,F,G,L=>by cases v<;>simp only [zA,Zn] at h
 | .sb ..,v,h,F,G,L=>by cases v<;>simp only [zA,Zn] at h
 | .mpr ..,v,h,F,G,L=>by cases v<;>simp only [zA,Zn] at h
 | .tup ..,v,h,F,G,L=>by cases v<;>simp only [zA,Zn] at h
 | .clo ..,v,h,F,G,L=>by cases v<;>simp only [zA,Zn] at h
 | .dead,v,h,F,G,L=>by cases v<;>simp only [zA,Zn] at h
theorem zAs_sound:∀ {l:List AV} {vs:List Value},zAs l vs=true→∀ F G L,RAs F G L l vs
 | [],vs,h,F,G,L=>by
  cases vs with
  | nil=>simp only [RAs]
  | cons=>simp only [zAs,Zn] at h
 | x::l,vs,h,F,G,L=>by
  cases vs with
  | nil=>simp only [zAs,Zn] at h
  | cons v vs =>
   simp only [zAs,Zg] at h;simp only [RAs];exact ⟨v,vs,rfl,zA_sound h.1 F G L,zAs_sound h.2 F G L⟩
end
def Fa (P:Program):List Field→List (Nat×Nat)→Bool
 | [],[]=>true
 | f::l,p::r=>f.offset==p.1&&((P.info? f.type).map (·.size)==some p.2)&&decide (0<p.2)&&(p.2 != 1||(match P.underlying f.type with|some d=>Ez d|none=>false))&&Fa P l r
 | _,_=>false
theorem Rw {P:Program}:∀ {l:List Field} {r:List (Nat×Nat)},Fa P l r=true→r.length=l.length∧∀ (j:Nat) (f:Field) (p:Nat×Nat),l[j]?=some f→r[j]?=some p →
  f.offset=p.1∧(P.info? f.type).map (·.size)=some p.2∧0<p.2∧(p.2=1→∃ d',P.underlying f.type=some d'∧Ez d'=true)
 | [],[],_=>⟨rfl,fun j f p h=>by simp at h⟩
 | [],_::_,h=>by simp [Fa] at h
 | _::_,[],h=>by simp [Fa] at h
 | f::l,p::r,h=>by
  simp only [Fa,Zg,Zi,decide_eq_true_eq,Bool.or_eq_true,bne_iff_ne] at h;obtain ⟨⟨⟨⟨h1,h2⟩,h3⟩,h4⟩,h5⟩:=h;obtain ⟨g1,g2⟩:=Rw h5;refine ⟨by simp [g1],fun j f' p' hj hp=>?_⟩
  cases j with
  | zero =>
   simp only [List.getElem?_cons_zero,Zc] at hj hp;subst hj;subst hp;refine ⟨h1,h2,h3,fun he=>?_⟩;rcases h4 with h4|h4
   ·exact absurd he h4
   ·split at h4
    ·next d hd=>exact ⟨d,hd,h4⟩
    ·cases h4
  | succ j =>
   simp only [List.getElem?_cons_succ] at hj hp;exact g2 j f' p' hj hp
def Zgh (P:Program) (τ:Nat→TI):TK→TypeDesc→Bool
 | .int k,.int k'=>k==k'
 | .bool,.bool=>true
 | .str,.string=>true
 | .slice e,.slice e'=>e==e'&&(τ e).kind.ag.isSome
 | .struct fs,.struct fields=>Fa P fields.toList fs
 | .array n e,.array n' e'=>n==n'&&e==e'&&(τ e).kind.ag==some false
 | .ptr e,.pointer e'=>e==e'
 | .map k e,.map k' e'=>k==k'&&e==e'
 | .func,.func ..=>true
 | _,_=>false
theorem tB {P:Program} {τ:Nat→TI} {k:TK} {d:TypeDesc} (h:Zgh P τ k d=true):k.is P τ d:=by
 cases k<;>cases d<;>simp only [Zgh,Zn,Zi,Zg] at h<;>simp only [TK.is]
 case int.int=>rw [h]
 case slice.slice=>exact ⟨by rw [h.1],h.2⟩
 case struct.struct fs fields =>
  obtain ⟨g1,g2⟩:=Rw h;exact ⟨fields,rfl,by simpa using g1,fun j f p hj hp=>g2 j f p (by simpa using hj) hp⟩
 case array.array=>exact ⟨by rw [h.1.1,h.1.2],h.2⟩
 case ptr.pointer=>rw [h]
 case map.map=>rw [h.1,h.2]
 case func.func a b c=>exact ⟨a,b,c,rfl⟩
def SK.sameB:SK→TypeDesc→Bool
 | .int k,.int k'=>k==k'
 | .bool,.bool=>true
 | .str,.string=>true
 | _,_=>false
def nS (P : Program) : Nat → List Field → List SK → Bool
  | _, [], [] => true
  | j, f :: fs, k :: ks => (f.name != "_") && f.offset == j && (match P.underlying f.type with
    | some d => k.sameB d
    | none => false) && nS P (j + 1) fs ks
  | _, _, _ => false
def Qc6 (P:Program) (t:Nat):List SK→Bool
 | []=>true
 | ks=>(match P.underlying t with
  | some (.struct _)=>true
  | _=>false)&&!P.stoodInHeld t&&!P.eqGuardType P.depth t&&nS P 0 (P.fieldsOf t).toList ks
theorem dP {P:Program}:∀ {j:Nat} {fs:List Field} {ks:List SK},nS P j fs ks=true→Zjm P j fs ks
 | _,[],[],_=>trivial
 | _,[],_::_,h=>by simp [nS] at h
 | _,_::_,[],h=>by simp [nS] at h
 | j,f::fs,k::ks,h=>by
  simp only [nS,Zg,bne_iff_ne,Zi] at h;obtain ⟨⟨⟨h1,h2⟩,h3⟩,h4⟩:=h;refine ⟨h1,h2,?_,dP h4⟩;split at h3
  ·next d hd =>
   rw [hd];cases k<;>cases d<;>simp only [SK.sameB,Zn,Zi] at h3<;>first|rfl|(subst h3;rfl)
  ·cases h3
theorem Zdn {P:Program} {t:Nat} {ks:List SK} (h:Qc6 P t ks=true) (hk:ks≠[]):Zxl P t ks:=by
 cases ks with
 | nil=>exact absurd rfl hk
 | cons k ks =>
  simp only [Qc6,Zg,Bool.not_eq_true'] at h;obtain ⟨⟨⟨h1,h2⟩,h3⟩,h4⟩:=h;refine ⟨?_,h2,h3,dP h4⟩;unfold Program.fieldsOf;split at h1
  ·next fs he=>simp [he]
  ·cases h1
def Qc3 (P:Program) (τ:Nat→TI) (t:Nat) (ti:TI):Bool:=match P.underlying t,P.info? t with
 | some d,some i=>Zgh P τ ti.kind d&&i.size==ti.size&&i.bytes==ti.bytes&&decide (0<ti.size)&&Qc6 P t ti.eqk&&(match i.zero with
  | some z=>zA ti.zero z&&zD ti.zd z&&z.cells.size==ti.size&&z.cells.toList.all (·.oneCell')
  | none=>false)
 | _,_=>false
theorem Zb0 {P:Program} {τ:Nat→TI} {t:Nat} (h:Qc3 P τ t (τ t)=true):TyOk P τ t:=by
 unfold Qc3 at h;split at h
 ·next d i hd hi =>
  simp only [Zg,Zi,decide_eq_true_eq] at h;obtain ⟨⟨⟨⟨⟨h1,h2⟩,h3⟩,h4⟩,hq⟩,h5⟩:=h;split at h5
  ·next z hz =>
   simp only [Zg,Zi,List.all_eq_true] at h5;obtain ⟨⟨⟨g1,g2⟩,g3⟩,g4⟩:=h5;exact ⟨⟨d,hd,tB h1⟩,⟨i,z,hi,h2,h3,hz,zA_sound g1,zD_sound g2,g3,g4⟩,h4,Zdn hq⟩
  ·cases h5
 ·cases h
def Zu2:List (Nat×TI)→Nat→TI
 | [],_=>⟨.other,0,0,.dead,.nilp,[]⟩
 | (j,x)::r,i=>if i=j then x else Zu2 r i
theorem Zai:∀ {tt:List (Nat×TI)} {t:Nat},(Zu2 tt t).kind.ag.isSome=true→(t,Zu2 tt t)∈tt
 | [],t,h=>by simp [Zu2,TK.ag] at h
 | (j,x)::r,t,h=>by
  simp only [Zu2] at h ⊢;by_cases Qgd:t=j
  ·subst Qgd;simp
  ·rw [if_neg Qgd] at h ⊢;exact List.mem_cons_of_mem _ (Zai h)
theorem Ze2 {P:Program} {tt:List (Nat×TI)} (h:tt.all (fun p=>Qc3 P (Zu2 tt) p.1 p.2)=true):Xy P (Zu2 tt):=by
 intro t ht;exact Zb0 (List.all_eq_true.1 h _ (Zai ht))
theorem J6 {P : Program} {f : FuncId} {fn : Func} (hf : P.funcs[f]? = some fn) (h1 : (fn.name == "runtime.NumGoroutine") = false) (h2 : fn.body.isNone = false) : Mm P f := by
  intro args w
  have h1' : ¬ fn.name = "runtime.NumGoroutine" := by simpa using h1
  have h2' : ¬ fn.body = none := by
    intro h
    rw [h] at h2
    simp at h2
  simp [callFunc, hf, h1', h2']
class Enc (α:Type) where
 enc:α→D
 dec:D→α
 dec_enc:∀ a,dec (enc a)=a
open Enc (enc dec)
def C5 (α:Type) [Enc α] (x:D):Prop:=x=enc (dec x:α)
theorem Ue {α:Type} [Enc α] (a:α):C5 α (enc a):=by unfold C5;rw [Enc.dec_enc]
instance encInt:Enc Int:=⟨.int .i64,D.i,fun _=>rfl⟩
instance encBool:Enc Bool:=⟨.bool,D.b,fun _=>rfl⟩
instance encStr:Enc (List UInt8):=⟨.str,D.s,fun _=>rfl⟩
class Sz (α:Type) where
 sz:Nat
instance szInt:Sz Int:=⟨1⟩
instance szBool:Sz Bool:=⟨1⟩
instance szStr:Sz (List UInt8):=⟨1⟩
structure Sl (α:Type) where
 l:List α
instance encSl {α:Type} [Enc α] [Sz α]:Enc (Sl α):=⟨fun a=>.list (Sz.sz α) (a.l.map enc),fun x=>⟨x.l.map dec⟩,fun a=>by
 show Sl.mk ((a.l.map enc).map dec)=a;rw [List.map_map];have:(dec∘enc:α→α)=id:=funext fun x=>Enc.dec_enc x;rw [this,List.map_id]⟩
instance szSl {α:Type}:Sz (Sl α):=⟨1⟩
section
variable {k k':IntKind} {n:Int} {s s':Nat} {l:List D} {b:Bool} {x:D} {bs:List UInt8} {f:Nat}
theorem Zar:D.i (.int k n)=n:=rfl
theorem qF:D.b (.bool b)=b:=rfl
theorem zP:D.s (.str bs)=bs:=rfl
theorem pH:D.l (.list s l)=l:=rfl
theorem E3:D.isInt k (.int k' n)=(k'=k):=rfl
theorem Bx:D.isBool (.bool b)=True:=rfl
theorem E2:D.isStr (.str bs)=True:=rfl
theorem Bw:D.isList s (.list s' l)=(s'=s):=rfl
theorem Mu:D.isAnyInt (.int k n)=True:=rfl
theorem Oj:D.fits s (.int k n)=(s=1):=rfl
theorem E9:D.fits s (.bool b)=(s=1):=rfl
theorem Oh:D.fits s (.str bs)=(s=1):=rfl
theorem E7:D.fits s (.list s' l)=(s=1):=rfl
theorem Om:D.fits s (.agg l)=(l.length=s):=rfl
theorem Oi:D.fits s (.ptr s' x)=(s=1):=rfl
theorem Ol:D.fits s (.clo s' l)=(s=1):=rfl
theorem E5:D.fits s .nilp=(s=1):=rfl
theorem E6:D.fits s .nilf=(s=1):=rfl
theorem uQ {ks vs:List D}:D.fits s (.map ks vs)=(s=1):=rfl
theorem nI:D.fits s .nilm=(s=1):=rfl
theorem uD {ks vs:List D}:D.cell (.map ks vs) f=.map ks vs:=rfl
theorem O8:D.cell (.int k n) f=.int k n:=rfl
theorem Fz:D.cell (.bool b) f=.bool b:=rfl
theorem O5:D.cell (.str bs) f=.str bs:=rfl
theorem Fx:D.cell (.list s l) f=.list s l:=rfl
theorem O9:D.cell (.clo s l) f=.clo s l:=rfl
theorem O7:D.cell (.ptr s x) f=.ptr s x:=rfl
theorem aQ:D.cell (.agg l) f=l.getD f .nilp:=rfl
theorem Zu4 {n:Int}:D.i (enc n)=n:=rfl
theorem Zva {n:Bool}:D.b (enc n)=n:=rfl
theorem Zuv {n:List UInt8}:D.s (enc n)=n:=rfl
theorem nB {n:Int}:D.isInt k (enc n)=(.i64=k):=rfl
theorem iS {n:Bool}:D.isBool (enc n)=True:=rfl
theorem nK {n:List UInt8}:D.isStr (enc n)=True:=rfl
theorem nM {n:Int}:D.fits s (enc n)=(s=1):=rfl
theorem oW {n:Int}:D.cell (enc n) f=enc n:=rfl
theorem nN {n:Bool}:D.fits s (enc n)=(s=1):=rfl
theorem oK {n:Bool}:D.cell (enc n) f=enc n:=rfl
theorem nL {n:List UInt8}:D.fits s (enc n)=(s=1):=rfl
theorem oV {n:List UInt8}:D.cell (enc n) f=enc n:=rfl
theorem I4 {n:Int}:D.isAnyInt (enc n)=True:=rfl
section
variable {α:Type} [Enc α] [Sz α] {a:Sl α}
theorem Zal:D.l (enc a)=a.l.map enc:=rfl
theorem Tf:D.isList s (enc a)=(Sz.sz α=s):=rfl
theorem E8:D.fits s (enc a)=(s=1):=rfl
theorem Fy:D.cell (enc a) f=enc a:=rfl
end
theorem fI:(dec (.int k n):Int)=n:=rfl
theorem Ow:(dec (.bool b):Bool)=b:=rfl
theorem fH:(dec (.str bs):List UInt8)=bs:=rfl
theorem Ov {α:Type} [Enc α] (a:α):(dec (enc a):α)=a:=Enc.dec_enc a
theorem fF:C5 Int (.int .i64 n)=True:=eq_true rfl
theorem I3:C5 Bool (.bool b)=True:=eq_true rfl
theorem fE:C5 (List UInt8) (.str bs)=True:=eq_true rfl
theorem I2 {α:Type} [Enc α] (a:α):C5 α (enc a)=True:=eq_true (Ue a)
section
variable {α:Type} [Enc α] [Sz α]
theorem Ou:(dec (.list s l):Sl α)=⟨l.map dec⟩:=rfl
theorem tD:C5 (Sl α) (.list s l)=(s=Sz.sz α∧∀ y∈l,C5 α y):=by
 apply propext;unfold C5;constructor
 ·intro h;have h':D.list s l=D.list (Sz.sz α) ((l.map (dec:D→α)).map enc):=h;injection h' with h1 h2
  refine ⟨h1,fun y hy=>?_⟩;rw [List.map_map] at h2;have h3:l.map id=l.map ((enc:α→D)∘dec):=by rw [List.map_id];exact h2
  exact List.map_inj_left.1 h3 y hy
 ·rintro ⟨rfl,h⟩;show D.list (Sz.sz α) l=D.list (Sz.sz α) ((l.map (dec:D→α)).map enc);rw [List.map_map]
  congr 1
  conv=>lhs;rw [←List.map_id l]
  exact List.map_congr_left fun y hy=>h y hy
end
end
theorem Zan {α:Type} [Enc α] {l:List α}:(∀ y∈l.map enc,C5 α y)=True:=eq_true (by
 intro y hy;obtain ⟨a,_,rfl⟩:=List.mem_map.1 hy;exact Ue a)
theorem Vd {α:Type} [Enc α] {l:List α}:(l.map enc).map (dec:D→α)=l:=by
 rw [List.map_map];have:(dec∘enc:α→α)=id:=funext fun x=>Enc.dec_enc x;rw [this,List.map_id]
theorem Je {a b:Int}:(Jw a b=true)=(a<b):=by simp [Jw]
theorem Jj {a b:Int}:(Jw a b=false)=(b≤a):=by simp [Jw]
theorem N8 {a b:Int}:(Xn a b=true)=(a≤b):=by simp [Xn]
theorem G8 {a b:Int}:(Xn a b=false)=(b<a):=by simp [Xn]
theorem Qci:Sz.sz Int=1:=rfl
theorem Qcj:Sz.sz Bool=1:=rfl
theorem Qcg:Sz.sz (List UInt8)=1:=rfl
theorem Qch {α:Type}:Sz.sz (Sl α)=1:=rfl
theorem Zu9 {b b':Bool}:(D.bool b=enc b')=(b=b'):=propext ⟨fun h=>by have h':D.bool b=D.bool b':=h;injection h',fun h=>by rw [h];rfl⟩
theorem Zz8 {b b':Int}:(D.int .i64 b=enc b')=(b=b'):=propext ⟨fun h=>by have h':D.int .i64 b=D.int .i64 b':=h;injection h',fun h=>by rw [h];rfl⟩
theorem Zyu {b b':List UInt8}:(D.str b=enc b')=(b=b'):=propext ⟨fun h=>by have h':D.str b=D.str b':=h;injection h',fun h=>by rw [h];rfl⟩
theorem Zu3 {α:Type} [Enc α] [Sz α] {s:Nat} {l:List D} {a:Sl α}:(D.list s l=enc a)=(s=Sz.sz α∧l=a.l.map enc):=propext ⟨fun h=>by have h':D.list s l=D.list (Sz.sz α) (a.l.map enc):=h;injection h' with h1 h2;exact ⟨h1,h2⟩,fun h=>by rw [h.1,h.2];rfl⟩
theorem Qab {α:Type} [Enc α] {a b:α}:(enc a=enc b)=(a=b):=propext ⟨fun h=>by rw [←Enc.dec_enc a,h,Enc.dec_enc],fun h=>by rw [h]⟩
theorem Qcn {α:Type} {a b:List α}:(Sl.mk a=Sl.mk b)=(a=b):=propext ⟨fun h=>by injection h,fun h=>by rw [h]⟩
@[simp] theorem encI_def {n:Int}:(enc n:D)=.int .i64 n:=rfl
@[simp] theorem encB_def {n:Bool}:(enc n:D)=.bool n:=rfl
@[simp] theorem encS_def {n:List UInt8}:(enc n:D)=.str n:=rfl
theorem Sq {α:Type} {l:List α} {p:α→Bool} (d:α) (h:∀ j,j<l.length→p (l.getD j d)=true):l.all p=true:=by
 rw [List.all_eq_true];intro x hx;obtain ⟨j,hj,rfl⟩:=List.getElem_of_mem hx;have:=h j hj;simpa [hj] using this
theorem aV {α:Type} {l:List α} {p:α→Bool} (d:α) (j:Nat) (hj:j<l.length) (h:p (l.getD j d)=false):l.all p=false:=by
 cases hc:l.all p with
 | false=>rfl
 | true =>
  rw [List.all_eq_true] at hc;have:=hc (l.getD j d) (by simp [hj])
  rw [h] at this;cases this
theorem Zhp {α:Type} {l:List α} {p:α→Bool} (d:α) (j:Nat) (hj:j<l.length) (h:p (l.getD j d)=true):l.any p=true:=by
 rw [List.any_eq_true];exact ⟨l.getD j d,by simp [hj],h⟩
theorem Zbh {α:Type} {l:List α} {p:α→Bool} (d:α) (h:∀ j,j<l.length→p (l.getD j d)=false):l.any p=false:=by
 cases hc:l.any p with
 | false=>rfl
 | true =>
  rw [List.any_eq_true] at hc;obtain ⟨x,hx,hp⟩:=hc;obtain ⟨j,hj,rfl⟩:=List.getElem_of_mem hx;have:=h j hj;simp [hj,hp] at this
theorem Zwl {α:Type} {f:α→D} {l:List α} {i:Nat} (d:α) (h:i<l.length):el (l.map f) i=f (l.getD i d):=by
 simp [el,h]
theorem Xx {n:Int}:Aj .i64 n↔-9223372036854775808≤n∧n≤9223372036854775807:=by
 unfold Aj;constructor<;>intro h<;>simpa [IntKind.min,IntKind.max,IntKind.bits,IntKind.signed] using h
def Xh {A B:Type} [Enc A] [Enc B] (p:A→Prop) (f:A→B):Con:=⟨[false],[false],fun c=>match c with
 | [.d x]=>C5 A x∧p (dec x)
 | _=>False,fun c=>match c with
 | [.d x]=>.d (enc (f (dec x)))
 | _=>.d .nilp⟩
theorem Nc:type_of% @Xh.eq_def:=@Xh.eq_def
def Vx {A B R:Type} [Enc A] [Enc B] [Enc R] (p:A→B→Prop) (f:A→B→R):Con:=⟨[false,false],[false],fun c=>match c with
 | [.d x,.d y]=>C5 A x∧C5 B y∧p (dec x) (dec y)
 | _=>False,fun c=>match c with
 | [.d x,.d y]=>.d (enc (f (dec x) (dec y)))
 | _=>.d .nilp⟩
def Ba {A B C R:Type} [Enc A] [Enc B] [Enc C] [Enc R] (p:A→B→C→Prop) (f:A→B→C→R):Con:=⟨[false,false,false],[false],fun c=>match c with
 | [.d x,.d y,.d z]=>C5 A x∧C5 B y∧C5 C z∧p (dec x) (dec y) (dec z)
 | _=>False,fun c=>match c with
 | [.d x,.d y,.d z]=>.d (enc (f (dec x) (dec y) (dec z)))
 | _=>.d .nilp⟩
theorem Nb:type_of% @Ba.eq_def:=@Ba.eq_def
def Zu7 {A B R S:Type} [Enc A] [Enc B] [Enc R] [Enc S] (p:A→B→Prop) (f:A→B→R×S):Con:=⟨[false,false],[false,false],fun c=>match c with
 | [.d x,.d y]=>C5 A x∧C5 B y∧p (dec x) (dec y)
 | _=>False,fun c=>match c with
 | [.d x,.d y]=>.tup [.d (enc (f (dec x) (dec y)).1),.d (enc (f (dec x) (dec y)).2)]
 | _=>.d .nilp⟩
def Zu6 {A B C R S:Type} [Enc A] [Enc B] [Enc C] [Enc R] [Enc S] (p:A→B→C→Prop) (f:A→B→C→R×S):Con:=⟨[false,false,false],[false,false],fun c=>match c with
 | [.d x,.d y,.d z]=>C5 A x∧C5 B y∧C5 C z∧p (dec x) (dec y) (dec z)
 | _=>False,fun c=>match c with
 | [.d x,.d y,.d z]=>.tup [.d (enc (f (dec x) (dec y) (dec z)).1),.d (enc (f (dec x) (dec y) (dec z)).2)]
 | _=>.d .nilp⟩
def Lu {R:Type} [Enc R] (r:R):Con:=⟨[],[false],fun c=>match c with
 | []=>True
 | _=>False,fun _=>.d (enc r)⟩
theorem Nd:type_of% @Lu.eq_def:=@Lu.eq_def
theorem Qs {A B:Type} [Enc A] [Enc B] {p:A→Prop} {f:A→B} {c:List CV} (h:(Xh p f).pre c):∃ a,c=[.d (enc a)]∧p a:=by
 unfold Xh at h;simp only at h;split at h
 ·next x=>exact ⟨dec x,by rw [←h.1],h.2⟩
 ·exact h.elim
theorem Jh {A B R:Type} [Enc A] [Enc B] [Enc R] {p:A→B→Prop} {f:A→B→R} {c:List CV} (h:(Vx p f).pre c):∃ a b,c=[.d (enc a),.d (enc b)]∧p a b:=by
 unfold Vx at h;simp only at h;split at h
 ·next x y=>exact ⟨dec x,dec y,by rw [←h.1,←h.2.1],h.2.2⟩
 ·exact h.elim
theorem So {A B C R:Type} [Enc A] [Enc B] [Enc C] [Enc R] {p:A→B→C→Prop} {f:A→B→C→R} {c:List CV} (h:(Ba p f).pre c):∃ a b d,c=[.d (enc a),.d (enc b),.d (enc d)]∧p a b d:=by
 unfold Ba at h;simp only at h;split at h
 ·next x y z=>exact ⟨dec x,dec y,dec z,by rw [←h.1,←h.2.1,←h.2.2.1],h.2.2.2⟩
 ·exact h.elim
theorem jM {R:Type} [Enc R] {r:R} {c:List CV} (h:(Lu r).pre c):c=[]:=by
 unfold Lu at h;simp only at h;split at h
 ·rfl
 ·exact h.elim
def Zi8:List (Nat×Con)→Nat→Option Con
 | [],_=>none
 | (j,x)::r,i=>if i=j then some x else Zi8 r i
def Jd (P:Program) (p:Nat×Con):Prop:=Mm P p.1∧Zhs P p.1 p.2
def Zi9:List (Nat×BCon)→Nat→Option BCon
 | [],_=>none
 | (j,x)::r,i=>if i=j then some x else Zi9 r i
def X9 (P:Program) (p:Nat×BCon):Prop:=Mm P p.1∧yR P p.1 p.2
theorem Zg2 {P:Program} {τ:Nat→TI} {l:List (Nat×Con)} {n:Nat} (hT:Xy P τ) (hm:P.follows .mixedOrders=true) (h:∀ p∈l,Jd P p) {lb:List (Nat×BCon)} (hb:∀ p∈lb,X9 P p:=by simp) {cu:List Nat} {wr:Bool}:Mf P ⟨τ,Zi8 l,n,Zi9 lb,cu,wr⟩:=by
 refine ⟨hT,fun f con hf=>?_,hm,fun f bc hf=>?_⟩
 case refine_2 =>
  have:∀ (l:List (Nat×BCon)),Zi9 l f=some bc→(f,bc)∈l:=by
   intro l
   induction l with
   | nil=>intro h;simp [Zi9] at h
   | cons p r ih =>
    intro h;obtain ⟨j,x⟩:=p;simp only [Zi9] at h;by_cases Zx6:f=j
    ·rw [if_pos Zx6] at h;injection h with h
     subst h;subst Zx6;simp
    ·rw [if_neg Zx6] at h;exact List.mem_cons_of_mem _ (ih h)
  exact hb _ (this lb hf)
 have:∀ (l:List (Nat×Con)),Zi8 l f=some con→(f,con)∈l:=by
  intro l
  induction l with
  | nil=>intro h;simp [Zi8] at h
  | cons p r ih =>
   intro h;obtain ⟨j,x⟩:=p;simp only [Zi8] at h;by_cases Zx6:f=j
   ·rw [if_pos Zx6] at h;injection h with h
    subst h;subst Zx6;simp
   ·rw [if_neg Zx6] at h;exact List.mem_cons_of_mem _ (ih h)
 exact h _ (this l hf)
def Uy:List AV→List Nat→List AV
 | l,[]=>l
 | l,i::r=>Uy (l.set i .dead) r
def Y9:List AV→List (Nat×AV)→List AV
 | l,[]=>l
 | l,(i,x)::r=>Y9 (l.set i x) r
def Hl:Z5→List (Nat×Obj)→Z5
 | o,[]=>o
 | o,(i,x)::r=>Hl (upd o i x) r
def Lw (st:AS) (kills:List Nat) (vals:List (Nat×AV)) (objs:List (Nat×Obj)):AS:=⟨Y9 (Uy st.tmps kills) vals,Hl st.objs objs⟩
structure Shut (p:Prop):Prop where
 out:p
theorem zM {p:Prop}:Shut p=p:=propext ⟨fun h=>h.out,fun h=>⟨h⟩⟩
theorem Z4 {C:Ctx} {c:Code} {Q:AExit→AS→Prop} {st:AS} (kills:List Nat) {α:Type} (vals:α→List (Nat×AV)) (objs:α→List (Nat×Obj)) (ok:α→Prop) (μ:α→Nat) (a0:α) (h0:ok a0)
  (hw:Wk st (Lw st kills (vals a0) (objs a0))) (h:∀ a,ok a→Shut (U6 C c (eJ (fun s'=>∃ a',Wk s' (Lw st kills (vals a') (objs a'))∧ok a'∧μ a'<μ a) Q) (Lw st kills (vals a) (objs a)))):Zhq C c Q st :=
 ⟨α,fun a=>Lw st kills (vals a) (objs a),ok,μ,Wk,fun _ _ h=>.inl h,⟨a0,⟨[],hw⟩,h0⟩,fun a ha=>(h a ha).out⟩
theorem Vy (t:List AV) (o:Z5) (kills:List Nat) (vals:List (Nat×AV)) (objs:List (Nat×Obj)):Lw ⟨t,o⟩ kills vals objs=⟨Y9 (Uy t kills) vals,Hl o objs⟩:=rfl
theorem Qh (a b:Nat):(a<b∧Jw (a:Int) (b:Int)=true)∨(b≤a∧Jw (a:Int) (b:Int)=false):=by
 rcases Nat.lt_or_ge a b with h|h
 ·exact .inl ⟨h,by rw [Je];omega⟩
 ·exact .inr ⟨h,by rw [Jj];omega⟩
theorem Ub (a b:Int):(a<b∧Jw a b=true)∨(b≤a∧Jw a b=false):=by
 rcases Int.lt_or_le a b with h|h
 ·exact .inl ⟨h,by rw [Je];exact h⟩
 ·exact .inr ⟨h,by rw [Jj];exact h⟩
theorem G9 (a b:Int):(a≤b∧Xn a b=true)∨(b<a∧Xn a b=false):=by
 rcases Int.lt_or_le b a with h|h
 ·exact .inr ⟨h,by rw [G8];exact h⟩
 ·exact .inl ⟨h,by rw [N8];exact h⟩
section
theorem sU {α:Type} [Enc α] {l:List α} {x:α}:l.map (enc:α→D)++[enc x]=(l++[x]).map enc:=by simp
theorem mP {l:List Int} {x:Int}:l.map (enc:Int→D)++[.int .i64 x]=(l++[x]).map enc:=by simp
theorem mR {l:List Bool} {x:Bool}:l.map (enc:Bool→D)++[.bool x]=(l++[x]).map enc:=by simp
theorem mO {l:List (List UInt8)} {x:List UInt8}:l.map (enc:List UInt8→D)++[.str x]=(l++[x]).map enc:=by simp
theorem Zaf {α:Type} [Enc α] {l r:List α}:l.map (enc:α→D)++r.map enc=(l++r).map enc:=by simp
end
def Cy (W:World):Fix:=⟨W,fun b=>match W.heap[b]? with
 | some (.cells cs _ _)=>cs.size
 | _=>0⟩
theorem Zdg (W:World) (b:Nat) (h:W.heap.size≤b):(Cy W).m b=0:=by
 unfold Cy;simp only;rw [Array.getElem?_eq_none h]
theorem yX {W:World} {b off:Nat} {u:Value} (h:W.cell? ⟨b,off,none⟩=some u):off+1≤(Cy W).m b:=by
 unfold Cy;unfold World.cell? at h;simp only at h ⊢;split at h
 ·next c _ _ he =>
  simp only [he];simp only [Option.isSome_none,Zn,if_false] at h;have:=(Array.getElem?_eq_some_iff.1 h).1;omega
 ·cases h
def Value.noAgg:Value→Bool
 | .agg _=>false
 | _=>true
theorem dS {v:Value} (h:Value.noAgg v=true):v.cells=#[v]:=by
 cases v<;>first|rfl|simp [Value.noAgg] at h
def Zht (P:Program) (t s:Nat) (ag:Bool) (p:D→Prop):Prop :=
 ∀ (H:Type) (enc:TypeId×Value→H) (W:World) (base fuel:Nat) (cs:List Value) (d:DataW H) (ps:List MemPlace),DataW.trod enc P W base (fun _=>true) true fuel t cs=some (d,ps) →
  ∃ x v,p x∧(ag=true→v=.agg cs.toArray)∧(ag=false→cs=[v]∧Value.noAgg v=true)∧cs.length=s∧(∀ u∈cs,u.oneCell'=true)∧R (Cy W) x v
theorem Zht.mono {P:Program} {t s:Nat} {ag:Bool} {p q:D→Prop} (h:Zht P t s ag p) (hpq:∀ x,p x→q x):Zht P t s ag q:=by
 intro H enc W base fuel cs d ps ht;obtain ⟨x,v,h1,h2⟩:=h _ enc W base fuel cs d ps ht;exact ⟨x,v,hpq x h1,h2⟩
theorem Zey {P:Program} {t fuel:Nat} {k:IntKind} {H:Type} {enc:TypeId×Value→H} {W:World} {base:Nat} {cs:List Value} {x:DataW H×List MemPlace} (ht:P.underlying t=some (.int k))
  (h:DataW.trod enc P W base (fun _=>true) true fuel t cs=some x):∃ n,cs=[.int k n]∧(Lit.int k n).wf=true:=by
 cases fuel with
 | zero=>simp [DataW.trod] at h
 | succ fuel =>
  unfold DataW.trod at h;simp only [ht] at h;split at h<;>first|(exfalso;simp_all;done)|skip
  all_goals rename_i e
  all_goals injection e with e
  all_goals injection e with e
  all_goals subst e
  all_goals split at h
  all_goals first|(next hk=>exact ⟨_,by rw [hk.1],hk.2⟩)|cases h
theorem Zex {P:Program} {t fuel:Nat} {H:Type} {enc:TypeId×Value→H} {W:World} {base:Nat} {cs:List Value} {x:DataW H×List MemPlace} (ht:P.underlying t=some .string)
  (h:DataW.trod enc P W base (fun _=>true) true fuel t cs=some x):∃ s:ByteArray,cs=[.string s]∧s.size≤maxLen:=by
 cases fuel with
 | zero=>simp [DataW.trod] at h
 | succ fuel =>
  unfold DataW.trod at h;simp only [ht] at h;split at h<;>first|(exfalso;simp_all;done)|skip
  all_goals split at h
  all_goals first|(next hk=>exact ⟨_,rfl,hk⟩)|cases h
theorem Zv3 {P:Program} {t:Nat} {k:IntKind} (ht:P.underlying t=some (.int k)):Zht P t 1 false (fun x=>∃ n,x=.int k n∧(Lit.int k n).wf=true):=by
 intro H enc W base fuel cs d ps h;obtain ⟨n,rfl,hw⟩:=Zey ht h;exact ⟨.int k n,.int k n,⟨n,rfl,hw⟩,by simp,fun _=>⟨rfl,rfl⟩,rfl,by simp [Value.oneCell'],by simp [R]⟩
theorem Zv2 {P:Program} {t:Nat} (ht:P.underlying t=some .string):Zht P t 1 false (fun x=>∃ s,x=.str s∧s.length≤maxLen):=by
 intro H enc W base fuel cs d ps h;obtain ⟨s,rfl,hw⟩:=Zex ht h;have e:s.data.toList.length=s.size:=by rw [Array.length_toList];rfl
 exact ⟨.str s.data.toList,.string s,⟨_,rfl,by omega⟩,by simp,fun _=>⟨rfl,rfl⟩,rfl,by simp [Value.oneCell'],by simp [R]⟩
theorem Zfe {P:Program} {t e s:Nat} {ag:Bool} {p:D→Prop} (ht:P.underlying t=some (.slice e)) (hs:P.cellsOf e=s) (Rc:0<s) (he:Zht P e s ag p) :
  Zht P t 1 false (fun x=>∃ l,x=.list s l∧l.length≤maxLen∧∀ y∈l,p y):=by
 intro H enc W base fuel cs d ps h;rcases Go.Deep.open_slice ht h with ⟨rfl,hx⟩|⟨a,len,cap,m,n,D',Pl,rfl,hb,hl,hm,U4,hx,Zbv⟩
 ·refine ⟨.list s [],.slice none 0 0,⟨[],rfl,by simp [maxLen],by simp⟩,by simp,fun _=>⟨rfl,rfl⟩,rfl,by simp [Value.oneCell'],?_⟩
  simp only [R];exact ⟨none,0,rfl,by simp,by simp [maxLen],by simp⟩
 ·rw [hs] at Zbv;have hm':len≤m:=by rw [U4];simp only [if_true];exact hl
  have key:∀ k,k≤len→∃ (xs:List D) (vs:List Value),xs.length=k∧(∀ y∈xs,p y)∧RE (Cy W) s xs vs∧∀ j,j<k*s→W.cell? ⟨a.block,a.off+j,none⟩=vs[j]?:=by
   intro k
   induction k with
   | zero=>intro _;exact ⟨[],[],rfl,by simp,by simp [RE],by simp⟩
   | succ k ih =>
    intro hk;obtain ⟨xs,vs,h1,h2,h3,h4⟩:=ih (by omega)
    obtain ⟨cs',g1,g2⟩:=Zbv k (by omega)
    obtain ⟨x,v,q1,q2,q3,q4,q5,q6⟩:=he _ enc W base n cs' _ _ g2;obtain ⟨_,g4,g5⟩:=World.cells?_some g1;have Qdx:v.cells.toList=cs':=by
     cases ag with
     | true=>rw [q2 rfl];rfl
     | false =>
      obtain ⟨q3a,q3b⟩:=q3 rfl;rw [dS q3b,q3a]
    refine ⟨xs++[x],vs++cs',by simp [h1],?_,?_,?_⟩
    ·intro y hy;rcases List.mem_append.1 hy with hy|hy
     ·exact h2 y hy
     ·rw [Qy] at hy;subst hy;exact q1
    ·rw [←Qdx];refine RE.append h3 (RE.one q6 ?_ ?_)
     ·rw [←Array.length_toList,Qdx];exact q4
     ·rw [Qdx];exact q5
    ·intro j hj;have zQ:vs.length=k*s:=by rw [RE.length h3,h1]
     rcases Nat.lt_or_ge j (k*s) with Qg|Pj
     ·rw [h4 j Qg,List.getElem?_append_left (by omega)]
     ·rw [List.getElem?_append_right (by omega),zQ]
      have Zel:j-k*s<s:=by
       rw [Nat.add_mul] at hj;omega
      rw [←g5 (j-k*s) Zel]
      congr 1
      unfold Addr.add;by_cases V7:k*s=0
      ·rw [if_pos V7];by_cases Qbw:j-k*s=0
       ·rw [if_pos Qbw];have Zej:a.spot=none:=by
         have h0:=g5 0 Rc;have Hk:cs'[0]?=some cs'[0]:=by simp
         rw [Hk] at h0;unfold Addr.add at h0;rw [if_pos rfl] at h0;simp only [V7,if_true] at h0;unfold World.cell? at h0;split at h0
         ·cases hh:a.spot with
          | none=>rfl
          | some z=>simp [hh] at h0
         ·cases h0
        have:j=0:=by omega
        subst this;rw [←Zej];rfl
       ·rw [if_neg Qbw];simp only [Addr.mk.injEq,true_and,and_true];omega
      ·rw [if_neg V7];by_cases Qbw:j-k*s=0
       ·rw [if_pos Qbw];simp only [Addr.mk.injEq,true_and,and_true];omega
       ·rw [if_neg Qbw];simp only [Addr.mk.injEq,true_and,and_true];omega
  obtain ⟨xs,vs,h1,h2,h3,h4⟩:=key len (Zl _);refine ⟨.list s xs,.slice (some a) len cap,⟨xs,rfl,by omega,h2⟩,by simp,fun _=>⟨rfl,rfl⟩,rfl,by simp [Value.oneCell'],?_⟩
  simp only [R];refine ⟨some a,cap,by rw [h1],by omega,hm,fun Hk=>?_⟩
  have Z8:0<len:=by
   rw [←h1];exact List.length_pos_iff.2 Hk
  have zQ:vs.length=len*s:=by rw [RE.length h3,h1]
  have Zej:a.spot=none:=by
   obtain ⟨cs',g1,_⟩:=Zbv 0 (by omega)
   obtain ⟨_,g4,g5⟩:=World.cells?_some g1;have h0:=g5 0 Rc;have Hk:cs'[0]?=some cs'[0]:=by simp
   rw [Hk] at h0;unfold Addr.add at h0;simp only [Nat.zero_mul,if_true] at h0;unfold World.cell? at h0;split at h0
   ·cases hh:a.spot with
    | none=>rfl
    | some z=>simp [hh] at h0
   ·cases h0
  refine ⟨a.block,a.off,vs,by cases a;simp at Zej;subst Zej;rfl,h3,?_,fun j u hj=>?_⟩
  ·have Qgi:0<len*s:=Nat.mul_pos Z8 Rc;have Zvh:=h4 (len*s-1) (by omega)
   have M9:len*s-1<vs.length:=by omega
   rw [Zh M9] at Zvh;have:=yX Zvh;omega
  ·have Ra:=(List.getElem?_eq_some_iff.1 hj).1;have:=h4 j (by omega)
   rw [hj] at this;exact this
def Zd8:List (D→Prop)→List D→Prop
 | [],[]=>True
 | p::ps,x::xs=>p x∧Zd8 ps xs
 | _,_=>False
def Zxg (P:Program):Nat→List Field→List (D→Prop)→Prop
 | _,[],[]=>True
 | k,f::fs,p::ps=>f.offset=k∧P.cellsOf f.type=1∧Zht P f.type 1 false p∧Zxg P (k+1) fs ps
 | _,_,_=>False
theorem mB {P:Program} {H:Type} {enc:TypeId×Value→H} {W:World} {base fuel:Nat} {cs:List Value}:∀ {fs:List Field} {k:Nat} {ps:List (D→Prop)} {xs:List (DataW H×List MemPlace)},Zxg P k fs ps→k+fs.length≤cs.length →
  (fs.mapM fun f=>DataW.trod enc P W base (fun _=>true) true fuel f.type ((cs.drop f.offset).take (P.cellsOf f.type)))=some xs →
  ∃ ds,Zd8 ps ds∧Rs (Cy W) ds ((cs.drop k).take fs.length)∧∀ u∈(cs.drop k).take fs.length,u.oneCell'=true
 | [],k,[],xs,_,_,_=>⟨[],by simp [Zd8],by simp [Rs],by simp⟩
 | [],_,_::_,_,h,_,_=>h.elim
 | _::_,_,[],_,h,_,_=>h.elim
 | f::fs,k,p::ps,xs,h,hl,hm=>by
  obtain ⟨h1,h2,h3,h4⟩:=h;simp only [List.mapM_cons,Option.bind_eq_bind,Option.bind_eq_some_iff] at hm;obtain ⟨y,hy,ys,C1,_⟩:=hm;simp only [Zd] at hl;obtain ⟨ds,g1,g2,g3⟩:=mB h4 (by omega) C1
  rw [h1,h2] at hy;obtain ⟨d,q⟩:=y;obtain ⟨x,v,q1,_,q3,q4,q5,q6⟩:=h3 _ enc W base fuel _ _ _ hy;obtain ⟨q3a,q3b⟩:=q3 rfl;have e:(cs.drop k).take (fs.length+1)=v::(cs.drop (k+1)).take fs.length:=by
   have hk:k<cs.length:=by omega
   rw [List.drop_eq_getElem_cons hk] at q3a ⊢;simp only [List.take_succ_cons,List.take_zero,List.cons.injEq] at q3a ⊢;exact ⟨q3a.1,trivial⟩
  rw [Zd,e];refine ⟨x::ds,⟨q1,g1⟩,?_,?_⟩
  ·simp only [Rs];exact ⟨v,_,rfl,q6,g2⟩
  ·intro u hu;rcases Z2.1 hu with rfl|hu
   ·exact q5 u (by rw [q3a];simp)
   ·exact g3 u hu
theorem mA {P:Program} {t s:Nat} {fs:Array Field} {ps:List (D→Prop)} (ht:P.underlying t=some (.struct fs)) (hs:P.cellsOf t=s) (hl:fs.toList.length=s) (hf:Zxg P 0 fs.toList ps) :
  Zht P t s true (fun x=>∃ ds,x=.agg ds∧Zd8 ps ds):=by
 intro H enc W base fuel cs d qs h;cases fuel with
 | zero=>simp [DataW.trod] at h
 | succ fuel =>
  unfold DataW.trod at h;simp only [ht] at h;rw [hs] at h;by_cases hc:cs.length=s
  ·rw [if_pos hc] at h;rw [Option.map_eq_some_iff] at h;obtain ⟨xs,hx,_⟩:=h;obtain ⟨ds,g1,g2,g3⟩:=mB (cs:=cs) hf (by omega) hx
   rw [List.drop_zero,hl,←hc,List.take_length] at g2 g3;refine ⟨.agg ds,.agg cs.toArray,⟨ds,rfl,g1⟩,fun _=>rfl,by simp,hc,g3,?_⟩
   simp only [R];exact ⟨cs,rfl,g2,g3⟩
  ·rw [if_neg hc] at h;cases h
theorem vQ {P:Program} {H:Type} {enc:TypeId×Value→H} {W:World} {base b2 t s:Nat} {p:D→Prop} {v:Value} {d:DataW H} {ps:List MemPlace} (h:Zht P t s false p) (Qgo:∀ fs,P.underlying t≠some (.struct fs)) (Nh:∀ n e,P.underlying t≠some (.array n e))
  (fZ:Value.okWide P W .any base t v) (hr:DataW.Trod enc P W b2 (fun _=>true) true t v d ps):∃ x,p x∧R (Cy W) x v:=by
 obtain ⟨fuel,hr⟩:=hr;obtain ⟨x,u,h1,_,h3,_,_,h6⟩:=h _ enc W b2 fuel _ _ _ hr;obtain ⟨Qfa,Qjj⟩:=h3 rfl;have hv:Value.noAgg v=true:=by
  cases v with
  | agg cs =>
   unfold Value.okWide at fZ;exfalso;split at fZ
   ·next fs he=>exact Qgo _ he
   ·next n e he=>exact Nh _ _ he
   ·unfold Cell.okWide at fZ;split at fZ<;>try simp_all
    unfold Cell.ok at fZ;split at fZ<;>simp_all
  | _=>rfl
 rw [dS hv] at Qfa;simp only [List.cons.injEq,and_true] at Qfa;subst Qfa;exact ⟨x,h1,h6⟩
theorem kC {F:Fix}:∀ {l:List D} {vs:List Value},Rs F l vs→Yk F (l.map .d) vs
 | [],_,h=>by simp only [Rs] at h;simpa [Yk] using h
 | x::l,vs,h=>by
  simp only [Rs] at h;obtain ⟨v,r,rfl,h2,h3⟩:=h;simp only [List.map_cons,Yk,kD];exact ⟨v,r,rfl,h2,kC h3⟩
theorem L7:∀ (l:List D) (vs:List Value),Qr (l.map .d) vs=[]
 | [],[]=>rfl
 | [],_::_=>rfl
 | _::l,[]=>rfl
 | x::l,v::vs=>by
  simp only [List.map_cons,Qr];exact L7 l vs
theorem lW {P:Program} {f:FuncId} {con:Con} (hg:Jd P (f,con)) (W:World) (xs:List D) (args:Array Value) (hR:Rs (Cy W) xs args.toList) (Zo:con.pre (xs.map .d)) (Zib:con.fn (xs.map .d)=.d (.bool true)) (hQ:glG≤W.heap.size∧tabQ W) :
  Calls P f args W fun e W'=>e=.returned (.bool true)∧Below W.heap.size W W':=by
 have h:=hg.2 (Cy W).m W (xs.map .d) args.toList Zo (kC hR) (by rw [L7];exact List.nodup_nil) (Zdg W) ⟨hQ.1,fun b hb=>by rw [L7] at hb;simp at hb,W,hQ.2,fun _ _=>rfl⟩
 rw [show args.toList.toArray=args by simp] at h
 refine h.mono ?_;rintro e W' ⟨v,m',rfl,rY,_,_,Zeb⟩
 change rA _ _ _ (con.fn (xs.map .d)) v at Zeb
 rw [Zib] at Zeb;simp only [rA,Yk,kD,R] at Zeb;obtain ⟨⟨v1,r,Zxp,rfl,rfl⟩,_⟩:=Zeb;injection Zxp with Zxp _
 subst Zxp;refine ⟨rfl,rY.os,rY.tape,rY.output,rY.size,fun k hk=>rY.block k hk ?_⟩;rw [L7];simp
open Go.ChangeShapes Go.WideShapes Go.ChangeAt Go.RowKit
theorem Rf {H:Type} {enc:TypeId×Value→H} {P:Program} (hl:laidOutB P=true) {W W':World} (hb:Below W.heap.size W W'):∀ {ts:List TypeId} {vs:List Value} {ds:List (DataW H)} {ps:List MemPlace},(∀ t∈ts,P.readableRec t=true∧t<P.types.size) →
  DataW.TrodAll enc P W 0 (fun _=>true) true ts vs ds ps→(∀ x∈ps,x.block<W.heap.size)→∀ sp:Nat→Bool,(∀ x∈ps,sp x.block=true)→DataW.TrodAll enc P W' 0 sp true ts vs ds ps
 | [],vs,ds,ps,_,h,_,_,_=>by
  obtain ⟨rfl,rfl,rfl⟩:=trodAll_nil h;exact trodAll_mk0
 | t::ts,vs,ds,ps,hr,h,Qg,sp,Zej=>by
  obtain ⟨v,vs',d,ds',p,q,rfl,rfl,rfl,h1,h2⟩:=trodAll_cons h;refine trodAll_cons_mk ?_ (Rf hl hb (fun t ht=>hr t (List.mem_cons_of_mem _ ht)) h2 (fun x hx=>Qg x (List.mem_append_right _ hx)) sp (fun x hx=>Zej x (List.mem_append_right _ hx)));obtain ⟨r1,r2⟩:=hr t (by simp)
  exact WideElems.Trod_stays hl r1 r2 h1 (fun x hx=>hb.same (Qg x (List.mem_append_left _ hx))) (fun x hx=>Zej x (List.mem_append_left _ hx))
theorem Ib {H:Type} {enc:TypeId×Value→H} {P:Program} {W:World} {base:Nat} {spare:Nat→Bool} {held:Bool}:∀ {ts:List TypeId} {vs:List Value} {ds:List (DataW H)} {ps:List MemPlace},DataW.TrodAll enc P W base spare held ts vs ds ps→ds.length=ts.length
 | [],vs,ds,ps,h=>by
  obtain ⟨rfl,rfl,rfl⟩:=trodAll_nil h;rfl
 | t::ts,vs,ds,ps,h=>by
  obtain ⟨v,vs',d,ds',p,q,rfl,rfl,rfl,h1,h2⟩:=trodAll_cons h;simp [Ib h2]
theorem pF {P:Program} {f:FuncId} {fn:Func} {con:Con} {s:ChangeSpec} {tb:TypeId} (hg:Jd P (f,con)) (hv:s.vars=[]) (hl:laidOutB P=true)
  (hr:∀ t∈fn.params.toList,P.readableRec t=true∧t<P.types.size) (Zeb:fn.resultTypes=#[tb]) (htb:P.underlying tb=some .bool)
  (hspec:∀ (H:Type) (ds:List (DataW H)),ds.length=fn.params.toList.length→s.fn H ds={ results:=[.lit (.bool true)],args:=ds })
  {H:Type} (enc:TypeId×Value→H) (W:World) (args:Array Value) (ds gs:List (DataW H)) (before:List MemPlace)
  (Zbp:∀ ps,DataW.TrodAll enc P W 0 (fun _=>true) true fn.params.toList args.toList ds ps→∃ xs:List D,Rs (Cy W) xs args.toList∧con.pre (xs.map .d)∧con.fn (xs.map .d)=.d (.bool true))
  (hW:DataW.Whole enc P fn.params.toList s.vars false W args.toList ds gs before) (hQ:glG≤W.heap.size∧tabQ W:=by exact ⟨Nat.zero_le _,trivial⟩) :
  Calls P f args W fun e W'=>∃ v,e=.returned v∧s.post enc P fn false true false false W args v W':=by
 have hW':=hW;obtain ⟨p,q,hA,hV,rfl,Qia,F9⟩:=hW;rw [hv] at hV;obtain ⟨rfl,rfl⟩:=trodVars_none hV;obtain ⟨xs,hR,Zo,Zib⟩:=Zbp p hA;have Z8:=(Ib hA);refine (lW hg W xs args hR Zo Zib hQ).mono ?_;rintro e W' ⟨rfl,hb⟩;have Qg:∀ x∈p,x.block<W.heap.size:=fun x hx=>hW'.lt x (by simpa using hx)
 have Zej:=hspec H (ds++[]) (by simpa using Z8)
 rw [List.append_nil] at Zej;refine ⟨_,rfl,ds,[],p++[],[],p,[],hW',?_,?_,?_,hb.frame _,fun h=>by cases h⟩
 ·rw [List.append_nil,Zej,Zeb];exact trodAll_cons_mk (shut_bool htb _) trodAll_mk0
 ·rw [List.append_nil,Zej];exact Rf hl hb hr hA Qg _ (fun x hx=>by simpa using Qg x hx)
 ·rw [List.append_nil,Zej,hv];rfl
section
def Zj5 (P:Program) (t s:Nat) (ag:Bool) (α:Type) [Enc α] (ok:α→Prop):Prop:=Zht P t s ag fun x=>∃ a:α,x=enc a∧ok a
theorem Ey {P:Program} {t:Nat} (ht:P.underlying t=some (.int .i64)):Zj5 P t 1 false Int (fun a=>Aj .i64 a):=(Zv3 ht).mono fun x h=>by
 obtain ⟨n,rfl,hw⟩:=h;refine ⟨n,rfl,?_⟩;show Aj .i64 n;rw [Xx];have h:=hw;simp [Lit.wf,IntKind.min,IntKind.max,IntKind.signed,IntKind.bits] at h;omega
theorem fA {P:Program} {t:Nat} (ht:P.underlying t=some .string):Zj5 P t 1 false (List UInt8) (fun a=>a.length≤maxLen):=(Zv2 ht).mono fun x h=>by
 obtain ⟨s,rfl,hs⟩:=h;exact ⟨s,rfl,hs⟩
theorem tY {α:Type} [Enc α] {ok:α→Prop}:∀ {l:List D},(∀ y∈l,∃ a:α,y=enc a∧ok a)→∃ r:List α,l=r.map enc∧∀ a∈r,ok a
 | [],_=>⟨[],rfl,by simp⟩
 | y::l,h=>by
  obtain ⟨a,rfl,ha⟩:=h y (by simp)
  obtain ⟨r,rfl,hr⟩:=tY (l:=l) fun z hz=>h z (List.mem_cons_of_mem _ hz);exact ⟨a::r,rfl,by
   intro b hb;rcases Z2.1 hb with rfl|hb
   ·exact ha
   ·exact hr b hb⟩
theorem Zfd {P:Program} {t e s:Nat} {ag:Bool} {α:Type} [Enc α] [Sz α] {ok:α→Prop} (ht:P.underlying t=some (.slice e)) (hs:P.cellsOf e=s) (hz:Sz.sz α=s) (Rc:0<s) (he:Zj5 P e s ag α ok) :
  Zj5 P t 1 false (Sl α) (fun a=>a.l.length≤maxLen∧∀ y∈a.l,ok y):=(Zfe ht hs Rc he).mono fun x h=>by
 obtain ⟨l,rfl,hl,hy⟩:=h;obtain ⟨r,rfl,hr⟩:=tY hy;rw [Qn] at hl;refine ⟨⟨r⟩,?_,hl,hr⟩;show D.list s (r.map enc)=D.list (Sz.sz α) (r.map enc);rw [hz]
end
def Vu:Nat→List AV→List AV
 | 0,_=>[]
 | n+1,[]=>.dead::Vu n []
 | n+1,x::l=>x::Vu n l
theorem G7:∀ (n:Nat) (l:List AV),(Vu n l).length=n
 | 0,_=>rfl
 | n+1,[]=>by simp [Vu,G7 n]
 | n+1,x::l=>by simp [Vu,G7 n]
theorem Ad:∀ (n:Nat) (l:List AV) (t:Nat),t<n→(Vu n l).getD t .dead=l.getD t .dead
 | 0,_,t,h=>by omega
 | n+1,[],0,_=>by simp [Vu]
 | n+1,[],t+1,h=>by
  have:=Ad n [] t (by omega)
  simpa [Vu] using this
 | n+1,x::l,0,_=>by simp [Vu]
 | n+1,x::l,t+1,h=>by
  have:=Ad n l t (by omega)
  simpa [Vu] using this
def H9:Nat→AV→List AV→List AV
 | 0,x,[]=>[x]
 | n+1,x,[]=>.dead::H9 n x []
 | 0,x,_::l=>x::l
 | n+1,x,y::l=>y::H9 n x l
theorem bX:∀ (n:Nat) (l:List AV) (t:Nat) (x:AV),t<n→(Vu n l).set t x=Vu n (H9 t x l)
 | 0,_,t,_,h=>by omega
 | n+1,[],0,x,_=>by simp [Vu,H9]
 | n+1,[],t+1,x,h=>by
  have:=bX n [] t x (by omega)
  simpa [Vu,H9] using this
 | n+1,y::l,0,x,_=>by simp [Vu,H9]
 | n+1,y::l,t+1,x,h=>by
  have:=bX n l t x (by omega)
  simpa [Vu,H9] using this
def fl:List (List AV)→List AV→List AV
 | [],r=>r
 | c::cs,r=>Vu 16 c++fl cs r
def bP:List (List AV)→List AV→Nat→Nat→AV
 | [],r,a,b=>r.getD (16*a+b) .dead
 | c::_,_,0,b=>c.getD b .dead
 | _::cs,r,a+1,b=>bP cs r a b
theorem Zau:∀ (cs:List (List AV)) (r:List AV) (a b:Nat),b<16→(fl cs r).getD (16*a+b) .dead=bP cs r a b
 | [],r,a,b,_=>rfl
 | c::cs,r,0,b,hb=>by
  simp only [fl,bP,Nat.mul_zero,Nat.zero_add];rw [Zk,List.getElem?_append_left (by rw [G7];exact hb),←Zk]
  exact Ad 16 c b hb
 | c::cs,r,a+1,b,hb=>by
  simp only [fl,bP];rw [Zk,List.getElem?_append_right (by rw [G7];omega),←Zk,G7,show 16*(a+1)+b-16=16*a+b by omega]
  exact Zau cs r a b hb
theorem Oe (cs:List (List AV)) (r:List AV) (t:Nat):(fl cs r).getD t .dead=bP cs r (t / 16) (t % 16):=by
 rw [←Zau cs r (t / 16) (t % 16) (Nat.mod_lt _ (by omega)),Nat.div_add_mod]
def Zcb:List (List AV)→List AV→Nat→Nat→AV→List AV
 | [],r,a,b,x=>r.set (16*a+b) x
 | c::cs,r,0,b,x=>fl (H9 b x c::cs) r
 | c::cs,r,a+1,b,x=>Vu 16 c++Zcb cs r a b x
theorem zN:∀ (cs:List (List AV)) (r:List AV) (a b:Nat) (x:AV),b<16→(fl cs r).set (16*a+b) x=Zcb cs r a b x
 | [],r,a,b,x,_=>rfl
 | c::cs,r,0,b,x,hb=>by
  simp only [fl,Zcb,Nat.mul_zero,Nat.zero_add];rw [List.set_append_left _ _ (by rw [G7];exact hb),bX 16 c b x hb]
 | c::cs,r,a+1,b,x,hb=>by
  simp only [fl,Zcb];rw [List.set_append_right _ _ (by rw [G7];omega),G7,show 16*(a+1)+b-16=16*a+b by omega,zN cs r a b x hb]
def Uw:List (List AV)→List AV→Nat→Nat→AV→List (List AV)×List AV
 | [],r,a,b,x=>([],r.set (16*a+b) x)
 | c::cs,r,0,b,x=>(H9 b x c::cs,r)
 | c::cs,r,a+1,b,x=>(c::(Uw cs r a b x).1,(Uw cs r a b x).2)
theorem zO:∀ (cs:List (List AV)) (r:List AV) (a b:Nat) (x:AV),Zcb cs r a b x=fl (Uw cs r a b x).1 (Uw cs r a b x).2
 | [],r,a,b,x=>rfl
 | c::cs,r,0,b,x=>rfl
 | c::cs,r,a+1,b,x=>by
  simp only [Zcb,Uw,fl];rw [zO cs r a b x]
theorem Nm (cs:List (List AV)) (r:List AV) (t:Nat) (x:AV):(fl cs r).set t x=fl (Uw cs r (t / 16) (t % 16) x).1 (Uw cs r (t / 16) (t % 16) x).2:=by
 rw [←zO,←zN cs r (t / 16) (t % 16) x (Nat.mod_lt _ (by omega)),Nat.div_add_mod]
theorem nX (i:Nat):∀ (a b:List AV),Ke i (a++b)=Ke i a++Ke i b
 | [],_=>rfl
 | x::a,b=>by simp [Ke,nX i a b]
theorem bD (i:Nat):∀ (n:Nat) (l:List AV),Ke i (Vu n l)=Vu n (Ke i l)
 | 0,_=>rfl
 | n+1,[]=>by
  have:=bD i n [];simp only [Ke] at this;simp [Vu,Ke,AV.off,this]
 | n+1,x::l=>by simp [Vu,Ke,bD i n l]
def iI (i:Nat):List (List AV)→List (List AV)
 | []=>[]
 | c::cs=>Ke i c::iI i cs
theorem iH (i:Nat):∀ (cs:List (List AV)) (r:List AV),Ke i (fl cs r)=fl (iI i cs) (Ke i r)
 | [],_=>rfl
 | c::cs,r=>by simp only [fl,iI,nX,bD,iH i cs r]
theorem zF {o1 o2:Z5}:∀ {a a' b b':List AV},R8 o1 o2 a a'→R8 o1 o2 b b'→R8 o1 o2 (a++b) (a'++b')
 | [],[],_,_,_,h=>h
 | [],_::_,_,_,h,_=>h.elim
 | _::_,[],_,_,h,_=>h.elim
 | x::a,y::a',b,b',h,h'=>⟨h.1,zF h.2 h'⟩
theorem oL {o1 o2:Z5}:∀ {n:Nat} {a a':List AV},R8 o1 o2 a a'→R8 o1 o2 (Vu n a) (Vu n a')
 | 0,_,_,_=>trivial
 | n+1,[],[],_=>⟨by simp [kM],oL (a:=[]) (a':=[]) trivial⟩
 | n+1,[],_::_,h=>h.elim
 | n+1,_::_,[],h=>h.elim
 | n+1,x::a,y::a',h=>⟨h.1,oL h.2⟩
def oN (o1 o2:Z5):List (List AV)→List (List AV)→Prop
 | [],[]=>True
 | c::cs,d::ds=>R8 o1 o2 c d∧oN o1 o2 cs ds
 | _,_=>False
theorem Zer {o1 o2:Z5}:∀ {cs ds:List (List AV)} {r r':List AV},oN o1 o2 cs ds→R8 o1 o2 r r'→R8 o1 o2 (fl cs r) (fl ds r')
 | [],[],_,_,_,h=>h
 | [],_::_,_,_,h,_=>h.elim
 | _::_,[],_,_,h,_=>h.elim
 | c::cs,d::ds,r,r',h,h'=>zF (oL h.1) (Zer h.2 h')
theorem Wk.of_fl {cs ds:List (List AV)} {r r':List AV} {o o':Z5} (h:oN o o' cs ds∧R8 o o' r r'∧oM o o' o'∧rF o' o):Wk ⟨fl cs r,o⟩ ⟨fl ds r',o'⟩ :=
 ⟨Zer h.1 h.2.1,h.2.2.1,h.2.2.2⟩
theorem dL {o:Z5}:∀ {a b:List AV},keptAll o a→keptAll o b→keptAll o (a++b)
 | [],_,_,h=>h
 | _::_,_,h,h'=>⟨h.1,dL h.2 h'⟩
theorem D4 {o:Z5}:∀ {n:Nat} {a:List AV},keptAll o a→keptAll o (Vu n a)
 | 0,_,_=>trivial
 | n+1,[],_=>⟨by simp only [AV.kept],D4 (a:=[]) trivial⟩
 | n+1,_::_,h=>⟨h.1,D4 h.2⟩
def pI (o:Z5):List (List AV)→Prop
 | []=>True
 | c::cs=>keptAll o c∧pI o cs
theorem Ah {o:Z5}:∀ {cs:List (List AV)} {r:List AV},pI o cs∧keptAll o r→keptAll o (fl cs r)
 | [],_,h=>h.2
 | _::_,_,h=>dL (D4 h.1.1) (Ah ⟨h.1.2,h.2⟩)
def Zdv:Nat→List AV→List (List AV)×List AV
 | 0,l=>([],l)
 | n+1,l=>(l.take 16::(Zdv n (l.drop 16)).1,(Zdv n (l.drop 16)).2)
theorem gP:∀ (n:Nat) (l:List AV),l.length=n→Vu n l=l
 | 0,[],_=>rfl
 | 0,_::_,h=>by simp at h
 | n+1,[],h=>by simp at h
 | n+1,x::l,h=>by simp only [Vu,gP n l (by simpa using h)]
theorem Zg4:∀ (n:Nat) (l:List AV),16*n≤l.length→fl (Zdv n l).1 (Zdv n l).2=l
 | 0,l,_=>rfl
 | n+1,l,h=>by
  simp only [Zdv,fl];rw [gP 16 (l.take 16) (by rw [List.length_take];omega),Zg4 n (l.drop 16) (by rw [List.length_drop];omega),List.take_append_drop]
theorem Zj1 {C:Ctx} {c:Code} {Q:AExit→AS→Prop} {t:List AV} {o:Z5} (n:Nat) (hn:16*n≤t.length) (h:Shut (U6 C c Q ⟨fl (Zdv n t).1 (Zdv n t).2,o⟩)):U6 C c Q ⟨t,o⟩:=by
 have:=h.out;rw [Zg4 n t hn] at this;exact this
theorem Ze3 {α:Type} {l:List α} {i:Nat} {x d:α} (h:l.getD i d=x) (hx:x≠d):l.set i x=l:=by
 apply List.ext_getElem?;intro j;rw [List.getElem?_set];by_cases eA:i=j
 ·subst eA;rw [if_pos rfl];by_cases hi:i<l.length
  ·rw [if_pos hi];rw [Zk,Zh hi] at h;rw [Zh hi,←h];rfl
  ·rw [Zk,List.getElem?_eq_none (by omega)] at h
   exact absurd h.symm hx
 ·rw [if_neg eA]
theorem gB (C:Ctx) (t:Nat) (x y:Code) (Q:AExit→AS→Prop) (T:List AV) (o:Z5):U6 C (.cond (.tmp t) x y) Q ⟨T,o⟩=(match T.getD t .dead with
  | .d (.bool b)=>(b=true→U6 C x Q ⟨T.set t (.d (.bool true)),o⟩)∧(b=false→U6 C y Q ⟨T.set t (.d (.bool false)),o⟩)
  | _=>False):=by
 rw [uS];simp only [AS.ev];generalize hz:T.getD t .dead=z;cases z with
 | d x =>
  cases x with
  | bool b =>
   simp only [D.isBool,D.b,true_and,Qcl];have h:=Ze3 hz (by simp)
   cases b with
   | true=>simp only [h];simp
   | false=>simp only [h];simp
  | _=>simp [D.isBool]
 | _=>rfl
theorem gC (C:Ctx) (b:Bool) (x y:Code) (Q:AExit→AS→Prop) (T:List AV) (o:Z5):U6 C (.cond (.const (.bool b)) x y) Q ⟨T,o⟩=((b=true→U6 C x Q ⟨T,o⟩)∧(b=false→U6 C y Q ⟨T,o⟩)):=by
 rw [uS];simp only [AS.ev,Gu,Lr,D.isBool,D.b,true_and,Qcl]
theorem Zy8 (b want:Bool) (P Q:Prop):Qck b want P Q=(match want with
  | true=>(b=true→P)∧(b=false→Q)
  | false=>(b=false→P)∧(b=true→Q)):=by
 cases b<;>cases want<;>simp [Qck]
theorem Qfo (C:Ctx) (ops:List Oper) (o:Oper) (K:AS→Prop) (st:AS):Qcm C ops o K st=(match o.guard with
 | none=>aW C o K st
 | some (j,want)=>match Xe ops st j with
  | .b t b=>(match want with
   | true=>(b=true→aW C o K ⟨st.tmps.set t (.d (.bool true)),st.objs⟩)∧(b=false→K (AS.put ⟨st.tmps.set t (.d (.bool false)),st.objs⟩ o.dst (.d (.tup [])) st.objs))
   | false=>(b=false→aW C o K ⟨st.tmps.set t (.d (.bool false)),st.objs⟩)∧(b=true→K (AS.put ⟨st.tmps.set t (.d (.bool true)),st.objs⟩ o.dst (.d (.tup [])) st.objs)))
  | .und=>K (AS.put st o.dst (.d (.tup [])) st.objs)
  | .no=>False):=by
 unfold Qcm;cases o.guard with
 | none=>rfl
 | some p =>
  obtain ⟨j,want⟩:=p;simp only;cases Xe ops st j with
  | b t b =>
   simp only [Zy8];cases want<;>rfl
  | und=>rfl
  | no=>rfl
theorem gA (C:Ctx) (ops:List Oper) (i:Nat) (acc:List (Nat×List Nat×Bool)) (K:AS→Prop) (st:AS):Vz C ops i [] acc K st=(Zwa ops acc=true∧K st):=rfl
theorem dV (C:Ctx) (ops:List Oper) (i:Nat) (o:Oper) (r:List Oper) (acc:List (Nat×List Nat×Bool)) (K:AS→Prop) (st:AS):Vz C ops i (o::r) acc K st=(match o.guard with
  | none=>Cj C o (fun fp ro=>Vz C ops (i+1) r ((i,fp,ro)::acc) K) st
  | some (j,want)=>match Xe ops st j with
   | .b t b=>(match want with
    | true=>(b=true→Cj C o (fun fp ro=>Vz C ops (i+1) r ((i,fp,ro)::acc) K) ⟨st.tmps.set t (.d (.bool true)),st.objs⟩) ∧
      (b=false→Vz C ops (i+1) r acc K (AS.put ⟨st.tmps.set t (.d (.bool false)),st.objs⟩ o.dst (.d (.tup [])) st.objs))
    | false=>(b=false→Cj C o (fun fp ro=>Vz C ops (i+1) r ((i,fp,ro)::acc) K) ⟨st.tmps.set t (.d (.bool false)),st.objs⟩) ∧
      (b=true→Vz C ops (i+1) r acc K (AS.put ⟨st.tmps.set t (.d (.bool true)),st.objs⟩ o.dst (.d (.tup [])) st.objs)))
   | .und=>Vz C ops (i+1) r acc K (AS.put st o.dst (.d (.tup [])) st.objs)
   | .no=>False):=by
 rw [Vz];cases o.guard with
 | none=>rfl
 | some p =>
  obtain ⟨j,want⟩:=p;simp only;cases Xe ops st j with
  | b t b =>
   simp only [Zy8];cases want<;>rfl
  | und=>rfl
  | no=>rfl
section
variable (a:Option Tmp) (b:Op) (c:TypeId) (d:String) (e:Array Edge) (f:Option (Nat×Bool))
theorem Qfs:(Oper.mk a b c d e f).dst=a:=rfl
theorem Qfr:(Oper.mk a b c d e f).op=b:=rfl
theorem Qfq:(Oper.mk a b c d e f).type=c:=rfl
theorem Qfp:(Oper.mk a b c d e f).guard=f:=rfl
end
section
variable (a:TK) (b c:Nat) (d:AV) (e:D) (f:List SK)
theorem Qfj:(TI.mk a b c d e f).kind=a:=rfl
theorem Qfi:(TI.mk a b c d e f).size=b:=rfl
theorem Qfh:(TI.mk a b c d e f).bytes=c:=rfl
theorem Qfg:(TI.mk a b c d e f).zero=d:=rfl
theorem Qff:(TI.mk a b c d e f).zd=e:=rfl
theorem Qfe:(TI.mk a b c d e f).eqk=f:=rfl
end
section
variable (a:Nat→TI) (b:Nat→Option Con) (c:Nat) (d:Nat→Option BCon) (e:List Nat) (f:Bool)
theorem Qf2:(Ctx.mk a b c d e f).τ=a:=rfl
theorem Qf1:(Ctx.mk a b c d e f).Γ=b:=rfl
theorem Qf0:(Ctx.mk a b c d e f).dp=c:=rfl
theorem Qfz:(Ctx.mk a b c d e f).Δ=d:=rfl
theorem Qfy:(Ctx.mk a b c d e f).cuts=e:=rfl
theorem Qfx:(Ctx.mk a b c d e f).wr=f:=rfl
end
theorem Qf5 (a:List AV) (b:Z5):(AS.mk a b).tmps=a:=rfl
theorem Qf4 (a:List AV) (b:Z5):(AS.mk a b).objs=b:=rfl
theorem Qfn {α β:Type} (a:α) (b:β):(a,b).1=a:=rfl
theorem Qfm {α β:Type} (a:α) (b:β):(a,b).2=b:=rfl
theorem Qfw (a b:List Bool) (p:List CV→Prop) (f:List CV→CV):(Con.mk a b p f).modes=a:=rfl
theorem Qfv (a b:List Bool) (p:List CV→Prop) (f:List CV→CV):(Con.mk a b p f).outs=b:=rfl
theorem Qfu (a b:List Bool) (p:List CV→Prop) (f:List CV→CV) (x:List CV):(Con.mk a b p f).pre x=p x:=rfl
theorem Qft (a b:List Bool) (p:List CV→Prop) (f:List CV→CV) (x:List CV):(Con.mk a b p f).fn x=f x:=rfl
theorem Qfl {α:Type} (l:List α):l.toArray.toList=l:=rfl
theorem Ze5 {α β:Type} (f:α→β) (x:α) (l:List α):(x::l).map f=f x::l.map f:=rfl
theorem zR {α β:Type} (f:α→β):([]:List α).map f=[]:=rfl
theorem Zux {α:Type} (x:α) (l:List α):(x::l).length=l.length+1:=rfl
theorem Zuw {α:Type}:([]:List α).length=0:=rfl
theorem Zuz {α:Type} (x:α) (l:List α):(x::l)[0]?=some x:=rfl
theorem Zuy {α:Type} (x:α) (l:List α) (n:Nat):(x::l)[n+1]?=l[n]?:=rfl
theorem Ze6 {α:Type} (a b:α):cond true a b=a:=rfl
theorem Ze7 {α:Type} (a b:α):cond false a b=b:=rfl
theorem Zz1 (s:Nat) (k:IntKind) (n:Int):AV.cells false s (.d (.int k n))=[.d (.int k n)]:=rfl
theorem Zz0 (s:Nat) (b:Bool):AV.cells false s (.d (.bool b))=[.d (.bool b)]:=rfl
theorem Zzz (s:Nat) (b:List UInt8):AV.cells false s (.d (.str b))=[.d (.str b)]:=rfl
theorem Zzy (s:Nat):AV.cells false s (.d .nilf)=[.d .nilf]:=rfl
theorem Zzx (s:Nat):AV.cells false s (.d .nilp)=[.d .nilp]:=rfl
theorem Zzw (s m:Nat) (l:List D):AV.cells false s (.d (.list m l))=[.d (.list m l)]:=rfl
theorem Zzv (s m:Nat) (x:D):AV.cells false s (.d (.ptr m x))=[.d (.ptr m x)]:=rfl
theorem Zzu (s f:Nat) (l:List D):AV.cells false s (.d (.clo f l))=[.d (.clo f l)]:=rfl
theorem Zzt {α:Type} [Enc α] [Sz α] (s:Nat) (a:Sl α):AV.cells false s (.d (enc a))=[.d (enc a)]:=rfl
theorem Zzs (ag:Bool) (s i f:Nat):AV.cells ag s (.ref i f)=[.ref i f]:=rfl
theorem Zzr (ag:Bool) (s i n e f:Nat):AV.cells ag s (.rref i n e f)=[.rref i n e f]:=rfl
theorem Zzq (ag:Bool) (s i n:Nat):AV.cells ag s (.sl i n)=[.sl i n]:=rfl
theorem Zzm (ag:Bool) (s i n f:Nat):AV.cells ag s (.sb i n f)=[.sb i n f]:=rfl
theorem Zzl (ag:Bool) (s i:Nat):AV.cells ag s (.mpr i)=[.mpr i]:=rfl
theorem Zzk (s:Nat) (ks vs:List D):AV.cells false s (.d (.map ks vs))=[.d (.map ks vs)]:=rfl
theorem Zzj (s:Nat):AV.cells false s (.d .nilm)=[.d .nilm]:=rfl
theorem Zzp (ag:Bool) (s f:Nat) (l:List AV):AV.cells ag s (.clo f l)=[.clo f l]:=rfl
theorem Zzo (ag:Bool) (s m:Nat):AV.cells ag s (.nils m)=[.nils m]:=rfl
theorem Zzn (ag:Bool) (s:Nat):AV.cells ag s .dead=[.dead]:=rfl
theorem Zzb (i:Decidable True):@decide True i=true:=by simp
theorem Zu0 (i:Decidable False):@decide False i=false:=by simp
theorem Zzi (C:Ctx) (h:Nat) (k:IntKind) (n:Int):Gu C h (.int k n)=.d (.int k n):=rfl
theorem Zzh (C:Ctx) (h:Nat) (b:Bool):Gu C h (.bool b)=.d (.bool b):=rfl
theorem Zzg (C:Ctx) (h:Nat) (b:ByteArray):Gu C h (.string b)=.d (.str b.data.toList):=rfl
theorem Zzf (C:Ctx) (h:Nat):Gu C h .nilFunc=.d .nilf:=rfl
theorem Zze (C:Ctx) (h:Nat):Gu C h (.pointer none)=.d .nilp:=rfl
theorem Zzd (C:Ctx) (h:Nat):Gu C h (.slice none 0 0)=.nils (C.esize h):=rfl
theorem Zzc (C:Ctx) (h:Nat):Gu C h (.map none)=.d .nilm:=rfl
theorem Qf3 (l:Array UInt8):(ByteArray.mk l).data=l:=rfl
theorem J7 {bc:BCon} {args:List AV} {dst:Option Tmp} {K:List Nat→AS→Prop} {st:AS} (x:bc.X) (rs:List Nat) (h1:bc.ok x) (h2:rnAs rs (bc.args x)=args) (h3:rs.Nodup) (h4:rs.length=(bc.post x).length)
  (h5:Ze rs rs (bc.objs x) st.objs) (h6:Zj (rs.drop (bc.objs x).length) st.objs) (h7:Shut (K (rs.map (· % 4096)) (AS.put st dst (.d (bc.res x)) (Wl rs rs (bc.post x) st.objs)))) (h0:bc.out x=none:=by rfl):Zbi bc args dst K st :=
 ⟨x,rs,h1,h2,h3,h4,h5,h6,by unfold BCon.rvr;rw [h0];exact h7.out⟩
theorem bM {P:Program} {f:Nat} {con:Con} (h:Mm P f) (hv:∀ c,¬ con.pre c):Jd P (f,con):=⟨h,fun _ _ c _ hp=>absurd hp (hv c)⟩
theorem P5 {P:Program} {f:Nat} {bc:BCon} (h:Mm P f) (hv:∀ x,¬ bc.ok x):X9 P (f,bc):=⟨h,fun x hx=>absurd hx (hv x)⟩
theorem Zm {bc:BCon} {args:List AV} {dst:Option Tmp} {K:AS→Prop} {st:AS} (x:bc.X) (rs:List Nat) (h1:bc.ok x) (h2:rnAs rs (bc.args x)=args) (h3:rs.Nodup) (h4:rs.length=(bc.post x).length)
  (h5:Ze rs rs (bc.objs x) st.objs) (h6:Zj (rs.drop (bc.objs x).length) st.objs) (h7:Shut (K (AS.put st dst (.d (bc.res x)) (Wl rs rs (bc.post x) st.objs)))) (h0:bc.out x=none:=by rfl):Zhr bc args dst K st :=
 ⟨x,rs,h1,h2,h3,h4,h5,h6,by unfold BCon.rvr;rw [h0];exact h7.out⟩
theorem Zy7:((0:Nat):Int)=0:=rfl
theorem Zy6:((1:Nat):Int)=1:=rfl
theorem Zza (x:D) (l:List D):el (x::l) 0=x:=rfl
theorem Zy9 (x:D) (l:List D) (n:Nat):el (x::l) (n+1)=el l n:=rfl
theorem Zy5:((2:Nat):Int)=2:=rfl
theorem Zy4:((3:Nat):Int)=3:=rfl
theorem Zy3:((4:Nat):Int)=4:=rfl
theorem Zyx:Int.toNat 1=1:=rfl
theorem Zyw:Int.toNat 2=2:=rfl
theorem Zyv:Int.toNat 3=3:=rfl
theorem Zy2 (k:IntKind) (n:Int) (f:Nat) (y:D):D.setCell (.int k n) f y=y:=rfl
theorem Zy1 (b:Bool) (f:Nat) (y:D):D.setCell (.bool b) f y=y:=rfl
theorem Zy0 (b:List UInt8) (f:Nat) (y:D):D.setCell (.str b) f y=y:=rfl
theorem Zyz (m:Nat) (l:List D) (f:Nat) (y:D):D.setCell (.list m l) f y=y:=rfl
theorem Zyy {α:Type} [Enc α] [Sz α] (a:Sl α) (f:Nat) (y:D):D.setCell (enc a) f y=y:=rfl
theorem Qfk {α:Type} (l:List α):(Sl.mk l).l=l:=rfl
theorem mG (k:Nat):(NatCast.natCast k:Int)=Int.ofNat k:=rfl
theorem Qc {α:Type} [Enc α] {l:List α} {i:Nat} (d:α) (h:i<l.length):el (l.map enc) i=enc (l.getD i d):=Zwl d h
theorem Zun:type_of% @F4.eq_def:=@F4.eq_def
theorem Zum:type_of% @aW.eq_def:=@aW.eq_def
theorem Zul:type_of% @Qjs.eq_def:=@Qjs.eq_def
theorem Zuk:type_of% @Xe.eq_def:=@Xe.eq_def
theorem Zuj:type_of% @AS.put.eq_def:=@AS.put.eq_def
theorem Zui:type_of% @eJ.eq_def:=@eJ.eq_def
theorem Zuh:type_of% @kV.eq_def:=@kV.eq_def
theorem Zug:type_of% @Ctx.one.eq_def:=@Ctx.one.eq_def
theorem Zuf:type_of% @Mb.eq_def:=@Mb.eq_def
theorem Zue:type_of% @Jb.eq_def:=@Jb.eq_def
theorem Zud:type_of% @pW.eq_def:=@pW.eq_def
theorem Zuc:type_of% @L8.eq_def:=@L8.eq_def
theorem Zub:type_of% @Li.eq_def:=@Li.eq_def
theorem Zua:type_of% @Ctx.esize.eq_def:=@Ctx.esize.eq_def
theorem Zt9:type_of% @Ctx.size.eq_def:=@Ctx.size.eq_def
theorem Zt8:type_of% @Ctx.ag.eq_def:=@Ctx.ag.eq_def
theorem Zt7:type_of% @TK.ag.eq_def:=@TK.ag.eq_def
theorem Zt6:type_of% @Ctx.elemT.eq_def:=@Ctx.elemT.eq_def
theorem Zt5:type_of% @Ctx.fieldAt.eq_def:=@Ctx.fieldAt.eq_def
theorem Zt4:type_of% @Zas.eq_def:=@Zas.eq_def
theorem Zt3:type_of% @Th.eq_def:=@Th.eq_def
theorem Zt2:type_of% @Rr.eq_def:=@Rr.eq_def
theorem Zt1:type_of% @Al.eq_def:=@Al.eq_def
theorem Zt0:type_of% @Kh.eq_def:=@Kh.eq_def
theorem Ztz:type_of% @D6.eq_def:=@D6.eq_def
theorem Zty:type_of% @Kg.eq_def:=@Kg.eq_def
theorem Ztx:type_of% @D5.eq_def:=@D5.eq_def
theorem Ztw:type_of% @An.eq_def:=@An.eq_def
theorem Ztv:type_of% @Ki.eq_def:=@Ki.eq_def
theorem Ztu:type_of% @Ao.eq_def:=@Ao.eq_def
theorem Ztt:type_of% @G5.eq_def:=@G5.eq_def
theorem Zts:type_of% @U3.eq_def:=@U3.eq_def
theorem Ztr:type_of% @Tg.eq_def:=@Tg.eq_def
theorem Ztq:type_of% @tH.eq_def:=@tH.eq_def
theorem Ztp:type_of% @xF.eq_def:=@xF.eq_def
theorem Zto:type_of% @xG.eq_def:=@xG.eq_def
theorem Ztn:type_of% @Rt.eq_def:=@Rt.eq_def
theorem Ztm:type_of% @Ma.eq_def:=@Ma.eq_def
theorem Ztl:type_of% @I7.eq_def:=@I7.eq_def
theorem Ztk:type_of% @jZ.eq_def:=@jZ.eq_def
theorem Ztj:type_of% @bL.eq_def:=@bL.eq_def
theorem Zti:type_of% @Zyi.eq_def:=@Zyi.eq_def
theorem Zth:type_of% @Ww.eq_def:=@Ww.eq_def
theorem Ztg:type_of% @Il.eq_def:=@Il.eq_def
theorem Ztf:type_of% @Nq.eq_def:=@Nq.eq_def
theorem Zte:type_of% @mL.eq_def:=@mL.eq_def
theorem Ztd:type_of% @dD.eq_def:=@dD.eq_def
theorem Ztc:type_of% @sT.eq_def:=@sT.eq_def
theorem Ztb:type_of% @Zay.eq_def:=@Zay.eq_def
theorem Zta:type_of% @Po.eq_def:=@Po.eq_def
theorem Zs9:type_of% @AV.fits.eq_def:=@AV.fits.eq_def
theorem Zs8:type_of% @Obj.isBox.eq_def:=@Obj.isBox.eq_def
theorem Zs7:type_of% @sK.eq_def:=@sK.eq_def
theorem Zs6:type_of% @mK.eq_def:=@mK.eq_def
theorem Zs5:type_of% @Zj6.eq_def:=@Zj6.eq_def
theorem Zs4:type_of% @qR.eq_def:=@qR.eq_def
theorem Zs3:type_of% @Cj.eq_def:=@Cj.eq_def
theorem Zs2:type_of% @Zik.eq_def:=@Zik.eq_def
theorem Zs1:type_of% @Q4.eq_def:=@Q4.eq_def
theorem Zs0:type_of% @rk.eq_def:=@rk.eq_def
theorem Zsz:type_of% @V5.eq_def:=@V5.eq_def
theorem Zsy:type_of% @Zfb.eq_def:=@Zfb.eq_def
theorem Zsx:type_of% @mE.eq_def:=@mE.eq_def
theorem Zsw:type_of% @gJ.eq_def:=@gJ.eq_def
theorem Zsv:type_of% @SK.is.eq_def:=@SK.is.eq_def
theorem Zsu:type_of% @lA.eq_def:=@lA.eq_def
theorem Zst:type_of% @uA.eq_def:=@uA.eq_def
theorem Zss:type_of% @AS.ev.eq_def:=@AS.ev.eq_def
theorem Zsr:type_of% @Zq.eq_def:=@Zq.eq_def
theorem Zsq:type_of% @qP.eq_def:=@qP.eq_def
theorem Zsp:type_of% @keysAll.eq_def:=@keysAll.eq_def
theorem Zso:type_of% @AV.keys.eq_def:=@AV.keys.eq_def
theorem Zsn:type_of% @Vh.eq_def:=@Vh.eq_def
theorem Zsm:type_of% @Yj.eq_def:=@Yj.eq_def
theorem Zsl:type_of% @Gy.eq_def:=@Gy.eq_def
theorem Zsk:type_of% @lK.eq_def:=@lK.eq_def
theorem Zsj:type_of% @U9.eq_def:=@U9.eq_def
theorem Zsi:type_of% @eX.eq_def:=@eX.eq_def
theorem Zsh:type_of% @Lh.eq_def:=@Lh.eq_def
theorem Zsg:type_of% @Lx.eq_def:=@Lx.eq_def
theorem Zsf:type_of% @aF.eq_def:=@aF.eq_def
theorem Zse:type_of% @Wx.eq_def:=@Wx.eq_def
theorem Zsd:type_of% @lk.eq_def:=@lk.eq_def
theorem Zsc:type_of% @upd.eq_def:=@upd.eq_def
theorem Zsb:type_of% @Zi8.eq_def:=@Zi8.eq_def
theorem Zsa:type_of% @S9.eq_def:=@S9.eq_def
theorem Zr9:type_of% @Zi9.eq_def:=@Zi9.eq_def
theorem Zr8:type_of% @Jv.eq_def:=@Jv.eq_def
theorem Zr7:type_of% @rnA.eq_def:=@rnA.eq_def
theorem Zr6:type_of% @rnAs.eq_def:=@rnAs.eq_def
theorem Zr5:type_of% @Ze.eq_def:=@Ze.eq_def
theorem Zr4:type_of% @Zj.eq_def:=@Zj.eq_def
theorem Zr3:type_of% @Wl.eq_def:=@Wl.eq_def
theorem Zr2:type_of% @Du.eq_def:=@Du.eq_def
theorem Zr1:type_of% @lX.eq_def:=@lX.eq_def
theorem Zr0:type_of% @AV.off.eq_def:=@AV.off.eq_def
theorem Zrz:type_of% @offAll.eq_def:=@offAll.eq_def
theorem Zry:type_of% @Vo.eq_def:=@Vo.eq_def
theorem Zrx:type_of% @iI.eq_def:=@iI.eq_def
theorem Zrw:type_of% @Wn.eq_def:=@Wn.eq_def
theorem Zrv:type_of% @Option.toList.eq_def:=@Option.toList.eq_def
theorem Zru:type_of% @Uy.eq_def:=@Uy.eq_def
theorem Zrt:type_of% @Y9.eq_def:=@Y9.eq_def
theorem Zrs:type_of% @Hl.eq_def:=@Hl.eq_def
theorem Zrr:type_of% @Ke.eq_1:=@Ke.eq_1
theorem Zrq:type_of% @Ke.eq_2:=@Ke.eq_2
theorem Zrp:type_of% @Vf.eq_1:=@Vf.eq_1
theorem Zro:type_of% @Vf.eq_2:=@Vf.eq_2
theorem Zrn:type_of% @H9.eq_1:=@H9.eq_1
theorem Zrm:type_of% @H9.eq_2:=@H9.eq_2
theorem Zrl:type_of% @H9.eq_3:=@H9.eq_3
theorem Zrk:type_of% @H9.eq_4:=@H9.eq_4
theorem Zrj:type_of% @bP.eq_1:=@bP.eq_1
theorem Zri:type_of% @bP.eq_2:=@bP.eq_2
theorem Zrh:type_of% @bP.eq_3:=@bP.eq_3
theorem Zrg:type_of% @Uw.eq_1:=@Uw.eq_1
theorem Zrf:type_of% @Uw.eq_2:=@Uw.eq_2
theorem Zre:type_of% @Uw.eq_3:=@Uw.eq_3
theorem Zrd:type_of% @Pk.eq_1:=@Pk.eq_1
theorem Zrc:type_of% @Pk.eq_2:=@Pk.eq_2
theorem Zrb:type_of% @He.eq_1:=@He.eq_1
theorem Zra:type_of% @He.eq_2:=@He.eq_2
theorem Zq9:type_of% @pur.eq_1:=@pur.eq_1
theorem Zq8:type_of% @pur.eq_2:=@pur.eq_2
theorem Zq7:type_of% @pur.eq_3:=@pur.eq_3
theorem Zq6:type_of% @pur.eq_4:=@pur.eq_4
theorem Zq5:type_of% @pur.eq_5:=@pur.eq_5
theorem Zq4:type_of% @pur.eq_6:=@pur.eq_6
theorem Zq3:type_of% @pur.eq_7:=@pur.eq_7
theorem Zq2:type_of% @pur.eq_8:=@pur.eq_8
theorem Zq1:type_of% @purs.eq_1:=@purs.eq_1
theorem Zq0:type_of% @purs.eq_2:=@purs.eq_2
theorem Zqz:type_of% @purs.eq_3:=@purs.eq_3
theorem Zqy:type_of% @Zdv.eq_1:=@Zdv.eq_1
theorem Zqx:type_of% @Zdv.eq_2:=@Zdv.eq_2
theorem Zqw:type_of% @D.asAgg.eq_1:=@D.asAgg.eq_1
theorem Zqv:type_of% @D.setCell.eq_1:=@D.setCell.eq_1
theorem Zqu:type_of% @AV.cells.eq_1:=@AV.cells.eq_1
theorem Zqt:type_of% @AV.cells.eq_2:=@AV.cells.eq_2
theorem Zqs:type_of% @Lu.eq_1:=@Lu.eq_1
theorem Zqr:type_of% @Xh.eq_1:=@Xh.eq_1
theorem Zqq:type_of% @Vx.eq_1:=@Vx.eq_1
theorem Zqp:type_of% @Ba.eq_1:=@Ba.eq_1
theorem Zqo:type_of% @Zu7.eq_1:=@Zu7.eq_1
theorem Zqn:type_of% @Zu6.eq_1:=@Zu6.eq_1
theorem Zqm:type_of% @Hv.eq_1:=@Hv.eq_1
theorem Zql:type_of% @Hv.eq_2:=@Hv.eq_2
theorem Zqk:type_of% @D.eqb.eq_1:=@D.eqb.eq_1
theorem Zqj:type_of% @D.eqb.eq_2:=@D.eqb.eq_2
theorem Zqi:type_of% @D.eqb.eq_3:=@D.eqb.eq_3
theorem Zqh:type_of% @uN:=@uN
theorem Zqg:type_of% @kX:=@kX
theorem Zqf:type_of% @uR:=@uR
theorem Zqe:type_of% @Zbe:=@Zbe
theorem Zqd:type_of% @gB:=@gB
theorem Zqc:type_of% @gC:=@gC
theorem Zqb:type_of% @oB:=@oB
theorem Zqa:type_of% @uO:=@uO
theorem Zp9:type_of% @uP:=@uP
theorem Zp8:type_of% @Zbf:=@Zbf
theorem Zp7:type_of% @Qfo:=@Qfo
theorem Zp6:type_of% @gA:=@gA
theorem Zp5:type_of% @dV:=@dV
theorem Zp4:type_of% @Qfs:=@Qfs
theorem Zp3:type_of% @Qfr:=@Qfr
theorem Zp2:type_of% @Qfq:=@Qfq
theorem Zp1:type_of% @Qfp:=@Qfp
theorem Zp0:type_of% @Qfj:=@Qfj
theorem Zpz:type_of% @Qfi:=@Qfi
theorem Zpy:type_of% @Qfh:=@Qfh
theorem Zpx:type_of% @Qfg:=@Qfg
theorem Zpw:type_of% @Qff:=@Qff
theorem Zpv:type_of% @Qfe:=@Qfe
theorem Zpu:type_of% @Qf2:=@Qf2
theorem Zpt:type_of% @Qf1:=@Qf1
theorem Zps:type_of% @Qf0:=@Qf0
theorem Zpr:type_of% @Qfz:=@Qfz
theorem Zpq:type_of% @Qfy:=@Qfy
theorem Zpp:type_of% @Qfx:=@Qfx
theorem Zpo:type_of% @Qf5:=@Qf5
theorem Zpn:type_of% @Qf4:=@Qf4
theorem Zpm:type_of% @Qfn:=@Qfn
theorem Zpl:type_of% @Qfm:=@Qfm
theorem Zpk:type_of% @Qfw:=@Qfw
theorem Zpj:type_of% @Qfv:=@Qfv
theorem Zpi:type_of% @Qfu:=@Qfu
theorem Zph:type_of% @Qft:=@Qft
theorem Zpg:type_of% @Qfl:=@Qfl
theorem Zpf:type_of% @Ze5:=@Ze5
theorem Zpe:type_of% @zR:=@zR
theorem Zpd:type_of% @Zux:=@Zux
theorem Zpc:type_of% @Zuw:=@Zuw
theorem Zpb:type_of% @Zuz:=@Zuz
theorem Zpa:type_of% @Zuy:=@Zuy
theorem Zo9:type_of% @Ze6:=@Ze6
theorem Zo8:type_of% @Ze7:=@Ze7
theorem Zo7:type_of% @Oe:=@Oe
theorem Zo6:type_of% @Nm:=@Nm
theorem Zo5:type_of% @iH:=@iH
theorem Zo4:type_of% @Vy:=@Vy
theorem Zo3:type_of% @Zar:=@Zar
theorem Zo2:type_of% @qF:=@qF
theorem Zo1:type_of% @zP:=@zP
theorem Zo0:type_of% @pH:=@pH
theorem Zoz:type_of% @E3:=@E3
theorem Zoy:type_of% @Bx:=@Bx
theorem Zox:type_of% @E2:=@E2
theorem Zow:type_of% @Bw:=@Bw
theorem Zov:type_of% @Mu:=@Mu
theorem Zou:type_of% @Oj:=@Oj
theorem Zot:type_of% @E9:=@E9
theorem Zos:type_of% @Oh:=@Oh
theorem Zor:type_of% @E7:=@E7
theorem Zoq:type_of% @Om:=@Om
theorem Zop:type_of% @Oi:=@Oi
theorem Zoo:type_of% @Ol:=@Ol
theorem Zon:type_of% @E5:=@E5
theorem Zom:type_of% @E6:=@E6
theorem Zol:type_of% @O8:=@O8
theorem Zok:type_of% @Fz:=@Fz
theorem Zoj:type_of% @O5:=@O5
theorem Zoi:type_of% @Fx:=@Fx
theorem Zoh:type_of% @O9:=@O9
theorem Zog:type_of% @O7:=@O7
theorem Zof:type_of% @aQ:=@aQ
theorem Zoe:type_of% @encI_def:=@encI_def
theorem Zod:type_of% @encB_def:=@encB_def
theorem Zoc:type_of% @encS_def:=@encS_def
theorem Zob:type_of% @Zal:=@Zal
theorem Zoa:type_of% @Tf:=@Tf
theorem Zn9:type_of% @E8:=@E8
theorem Zn8:type_of% @Fy:=@Fy
theorem Zn7:type_of% @Qci:=@Qci
theorem Zn6:type_of% @Qcj:=@Qcj
theorem Zn5:type_of% @Qcg:=@Qcg
theorem Zn4:type_of% @Qch:=@Qch
theorem Zn3:type_of% @List.getD_cons_zero:=@List.getD_cons_zero
theorem Zn2:type_of% @List.getD_cons_succ:=@List.getD_cons_succ
theorem Zn1:type_of% @List.set_cons_zero:=@List.set_cons_zero
theorem Zn0:type_of% @List.set_cons_succ:=@List.set_cons_succ
theorem Znz:type_of% @List.cons_append:=@List.cons_append
theorem Zny:type_of% @List.nil_append:=@List.nil_append
theorem Znx:type_of% @List.take_succ_cons:=@List.take_succ_cons
theorem Znw:type_of% @List.take_zero:=@List.take_zero
theorem Znv:type_of% @List.drop_succ_cons:=@List.drop_succ_cons
theorem Znu:type_of% @List.drop_zero:=@List.drop_zero
theorem Znt:type_of% @fI:=@fI
theorem Zns:type_of% @Ow:=@Ow
theorem Znr:type_of% @fH:=@fH
theorem Znq:type_of% @Ov:=@Ov
theorem Znp:type_of% @Ou:=@Ou
theorem Zno:type_of% @Vd:=@Vd
theorem Znn:type_of% @fF:=@fF
theorem Znm:type_of% @I3:=@I3
theorem Znl:type_of% @fE:=@fE
theorem Znk:type_of% @I2:=@I2
theorem Znj:type_of% @Bool.not_true:=@Bool.not_true
theorem Zni:type_of% @Bool.not_false:=@Bool.not_false
theorem Znh:type_of% @Bool.not_not:=@Bool.not_not
theorem Zng:type_of% @Int.toNat_natCast:=@Int.toNat_natCast
theorem Znf:type_of% @Int.toNat_zero:=@Int.toNat_zero
theorem Zne:type_of% @zM:=@zM
theorem Znd:type_of% @Qcn:=@Qcn
theorem Znc:type_of% @Qfk:=@Qfk
theorem Znb:type_of% @Zza:=@Zza
theorem Zna:type_of% @Zy9:=@Zy9
theorem Zm9:type_of% @Zy5:=@Zy5
theorem Zm8:type_of% @Zy4:=@Zy4
theorem Zm7:type_of% @Zy3:=@Zy3
theorem Zm6:type_of% @Zyx:=@Zyx
theorem Zm5:type_of% @Zyw:=@Zyw
theorem Zm4:type_of% @Zyv:=@Zyv
theorem Zm3:type_of% @Zy2:=@Zy2
theorem Zm2:type_of% @Zy1:=@Zy1
theorem Zm1:type_of% @Zy0:=@Zy0
theorem Zm0:type_of% @Zyz:=@Zyz
theorem Zmz:type_of% @Zyy:=@Zyy
theorem Zmy:type_of% @Zy7:=@Zy7
theorem Zmx:type_of% @Zy6:=@Zy6
theorem Zmw:type_of% @Zzb:=@Zzb
theorem Zmv:type_of% @Zu0:=@Zu0
theorem Zmu:type_of% @Zzi:=@Zzi
theorem Zmt:type_of% @Zzh:=@Zzh
theorem Zms:type_of% @Zzg:=@Zzg
theorem Zmr:type_of% @Zzf:=@Zzf
theorem Zmq:type_of% @Zze:=@Zze
theorem Zmp:type_of% @Zzd:=@Zzd
theorem Zmo:type_of% @Qf3:=@Qf3
theorem Zmn:type_of% @Bool.and_true:=@Bool.and_true
theorem Zmm:type_of% @Bool.true_and:=@Bool.true_and
theorem Zml:type_of% @Bool.and_false:=@Bool.and_false
theorem Zmk:type_of% @Bool.false_and:=@Bool.false_and
theorem Zmj:type_of% @Zz1:=@Zz1
theorem Zmi:type_of% @Zz0:=@Zz0
theorem Zmh:type_of% @Zzz:=@Zzz
theorem Zmg:type_of% @Zzy:=@Zzy
theorem Zmf:type_of% @Zzx:=@Zzx
theorem Zme:type_of% @Zzw:=@Zzw
theorem Zmd:type_of% @Zzv:=@Zzv
theorem Zmc:type_of% @Zzu:=@Zzu
theorem Zmb:type_of% @Zzt:=@Zzt
theorem Zma:type_of% @Zzs:=@Zzs
theorem Zl9:type_of% @Zzr:=@Zzr
theorem Zl8:type_of% @Zzq:=@Zzq
theorem Zl7:type_of% @Zzp:=@Zzp
theorem Zl6:type_of% @Zzo:=@Zzo
theorem Zl5:type_of% @Zzn:=@Zzn
theorem Zl4:type_of% @Bool.true_eq_false:=@Bool.true_eq_false
theorem Zl3:type_of% @Bool.false_eq_true:=@Bool.false_eq_true
theorem Zl2:type_of% @true_and:=@true_and
theorem Zl1:type_of% @and_true:=@and_true
theorem Zl0:type_of% @and_assoc:=@and_assoc
theorem Zlz:type_of% @List.length_map:=@List.length_map
theorem Zly:type_of% @List.append_nil:=@List.append_nil
theorem Zlx:type_of% @List.getD_nil:=@List.getD_nil
theorem Zlw:type_of% @On.eq_def:=@On.eq_def
theorem Zlv:type_of% @Zzm:=@Zzm
theorem Zlu:type_of% @sN.eq_def:=@sN.eq_def
theorem Zlt:type_of% @bV.eq_def:=@bV.eq_def
theorem Zls:type_of% @B1.eq_def:=@B1.eq_def
theorem Zlr:type_of% @G4.eq_def:=@G4.eq_def
theorem Zlq:type_of% @Se.eq_def:=@Se.eq_def
theorem Zlp:type_of% @Py.eq_def:=@Py.eq_def
theorem Zlo:type_of% @Ul.eq_def:=@Ul.eq_def
theorem Zln:type_of% @Ctx.mapE.eq_def:=@Ctx.mapE.eq_def
theorem Zlm:type_of% @Zzl:=@Zzl
theorem Zll:type_of% @Zzk:=@Zzk
theorem Zlk:type_of% @Zzj:=@Zzj
theorem Zlj:type_of% @pur.eq_9:=@pur.eq_9
theorem Zli:type_of% @uQ:=@uQ
theorem Zlh:type_of% @nI:=@nI
theorem Zlg:type_of% @uD:=@uD
theorem Zlf:type_of% @Zhu.eq_def:=@Zhu.eq_def
theorem Zle:type_of% @Zfa.eq_def:=@Zfa.eq_def
theorem Zld:type_of% @Zzc:=@Zzc
theorem Zlc:type_of% @Wb.eq_def:=@Wb.eq_def
theorem Zlb:type_of% @D7.eq_def:=@D7.eq_def
theorem Zla:type_of% @Zus.eq_1:=@Zus.eq_1
theorem Zk9:type_of% @Zus.eq_2:=@Zus.eq_2
theorem Zk8:type_of% @Zev.eq_1:=@Zev.eq_1
theorem Zk7:type_of% @Zev.eq_2:=@Zev.eq_2
theorem Zk6:type_of% @jK.eq_def:=@jK.eq_def
theorem Zk5:type_of% @Ed.eq_def:=@Ed.eq_def
theorem Zk4:type_of% @Cw.eq_def:=@Cw.eq_def
theorem Zk3:type_of% @P1.eq_def:=@P1.eq_def
theorem Zk2:type_of% @G6.eq_def:=@G6.eq_def
theorem Zk1:type_of% @U2.eq_def:=@U2.eq_def
theorem Zk0:type_of% @H4.eq_def:=@H4.eq_def
theorem Zkz:type_of% @Zur.eq_def:=@Zur.eq_def
theorem Zky:type_of% @Zds.eq_def:=@Zds.eq_def
theorem Zkx:type_of% @B2.eq_def:=@B2.eq_def
theorem Zkw:type_of% @xE.eq_def:=@xE.eq_def
theorem Zkv:type_of% @tE.eq_def:=@tE.eq_def
theorem Zyh:type_of% @Int.ofNat_eq_natCast:=@Int.ofNat_eq_natCast
theorem Zb3:(type_of% @List.length_cons.{0})∧(type_of% @List.length_nil.{0})∧(type_of% @List.cons_append.{0})∧(type_of% @List.nil_append.{0})∧(type_of% @and_assoc)∧(type_of% @true_and)∧(type_of% @and_true)∧(type_of% @List.map_cons.{0,0})∧(type_of% @List.map_nil.{0,0})∧(type_of% @E3)∧(type_of% @Bx)∧(type_of% @E2)∧(type_of% @Bw)∧(type_of% @Mu)∧(type_of% @Zar)∧(type_of% @qF)∧(type_of% @zP)∧(type_of% @pH)∧(type_of% @Oj)∧(type_of% @E9)∧(type_of% @Oh)∧(type_of% @E7)∧(type_of% @Om)∧(type_of% @Oi)∧(type_of% @Ol)∧(type_of% @E5)∧(type_of% @E6)∧(type_of% @O8)∧(type_of% @Fz)∧(type_of% @O5)∧(type_of% @Fx)∧(type_of% @O9)∧(type_of% @O7)∧(type_of% @aQ)∧(type_of% @encI_def)∧(type_of% @encB_def)∧(type_of% @encS_def)∧(type_of% @Zu4)∧(type_of% @Zva)∧(type_of% @Zuv)∧(type_of% @nB)∧(type_of% @iS)∧(type_of% @nK)∧(type_of% @nM)∧(type_of% @oW)∧(type_of% @nN)∧(type_of% @oK)∧(type_of% @nL)∧(type_of% @oV)∧(type_of% @I4)∧(type_of% @Zal)∧(type_of% @Tf)∧(type_of% @E8)∧(type_of% @Fy)∧(type_of% @fI)∧(type_of% @Ow)∧(type_of% @fH)∧(type_of% @Ov)∧(type_of% @fF)∧(type_of% @I3)∧(type_of% @fE)∧(type_of% @I2)∧(type_of% @Ou)∧(type_of% @tD)∧(type_of% @Zan)∧(type_of% @Vd)∧(type_of% @Je)∧(type_of% @Jj)∧(type_of% @N8)∧(type_of% @G8)∧(type_of% @Qci)∧(type_of% @Qcj)∧(type_of% @Qcg)∧(type_of% @Qch)∧(type_of% @Zu9)∧(type_of% @Zz8)∧(type_of% @Zyu)∧(type_of% @Zu3)∧(type_of% @Qab)∧(type_of% @Qcn)∧(type_of% @List.length_map.{0,0})∧(type_of% @List.length_append.{0})∧(type_of% @List.length_replicate.{0})∧(type_of% @Int.toNat_natCast)∧(type_of% @Bool.not_true)∧(type_of% @Bool.not_false)∧(type_of% @Bool.not_not)∧(type_of% @decide_true)∧(type_of% @decide_false)∧(type_of% @Bool.and_true)∧(type_of% @Bool.true_and)∧(type_of% @Bool.and_false)∧(type_of% @Bool.false_and)∧(type_of% @Bool.or_true)∧(type_of% @Bool.true_or)∧(type_of% @Bool.or_false)∧(type_of% @Bool.false_or)∧(type_of% @List.length_singleton.{0})∧(type_of% @decide_eq_true_eq)∧(type_of% @decide_eq_false_iff_not)∧(type_of% @beq_iff_eq.{0})∧(type_of% @beq_eq_false_iff_ne.{0})∧(type_of% @bne_iff_ne.{0})∧(type_of% @bne_eq_false_iff_eq.{0})∧(type_of% @Bool.not_eq_true')∧(type_of% @Bool.not_eq_false')∧(type_of% @forall_const.{1})∧(type_of% @true_imp_iff)∧(type_of% @false_imp_iff)∧(type_of% @if_true.{1})∧(type_of% @if_false.{1})∧(type_of% @and_self)∧(type_of% @or_self)∧(type_of% @not_true)∧(type_of% @not_false_eq_true)∧(type_of% @List.append_nil.{0})∧(type_of% @D.bool.injEq)∧(type_of% @D.int.injEq)∧(type_of% @D.str.injEq)∧(type_of% @D.list.injEq)∧(type_of% @D.agg.injEq)∧(type_of% @bne_self_eq_false.{0})∧(type_of% @CV.d.injEq)∧(type_of% @CV.own.injEq)∧(type_of% @CV.tup.injEq)∧(type_of% @List.cons.injEq.{0})∧(type_of% @List.toList_toArray.{0})∧(type_of% @Option.some.injEq.{0})∧(type_of% @Prod.mk.injEq.{0,0})∧(type_of% @List.take_succ_cons.{0})∧(type_of% @List.take_zero.{0})∧(type_of% @List.drop_succ_cons.{0})∧(type_of% @List.drop_zero.{0})∧(type_of% @List.getD_nil.{0})∧(type_of% @sU)∧(type_of% @mP)∧(type_of% @mR)∧(type_of% @mO)∧(type_of% @Zaf)∧(type_of% @List.not_mem_nil.{0})∧(type_of% @false_implies)∧(type_of% @implies_true.{1})∧(type_of% @List.mem_cons.{0})∧(type_of% @or_false)∧(type_of% @forall_eq_or_imp.{1})∧(type_of% @forall_eq.{1})∧(type_of% @ne_eq.{1})∧(type_of% @cond_true.{1})∧(type_of% @cond_false.{1})∧(type_of% @Bool.false_eq_true):=⟨@List.length_cons.{0},@List.length_nil.{0},@List.cons_append.{0},@List.nil_append.{0},@and_assoc,@true_and,@and_true,@List.map_cons.{0,0},@List.map_nil.{0,0},@E3,@Bx,@E2,@Bw,@Mu,@Zar,@qF,@zP,@pH,@Oj,@E9,@Oh,@E7,@Om,@Oi,@Ol,@E5,@E6,@O8,@Fz,@O5,@Fx,@O9,@O7,@aQ,@encI_def,@encB_def,@encS_def,@Zu4,@Zva,@Zuv,@nB,@iS,@nK,@nM,@oW,@nN,@oK,@nL,@oV,@I4,@Zal,@Tf,@E8,@Fy,@fI,@Ow,@fH,@Ov,@fF,@I3,@fE,@I2,@Ou,@tD,@Zan,@Vd,@Je,@Jj,@N8,@G8,@Qci,@Qcj,@Qcg,@Qch,@Zu9,@Zz8,@Zyu,@Zu3,@Qab,@Qcn,@List.length_map.{0,0},@List.length_append.{0},@List.length_replicate.{0},@Int.toNat_natCast,@Bool.not_true,@Bool.not_false,@Bool.not_not,@decide_true,@decide_false,@Bool.and_true,@Bool.true_and,@Bool.and_false,@Bool.false_and,@Bool.or_true,@Bool.true_or,@Bool.or_false,@Bool.false_or,@List.length_singleton.{0},@decide_eq_true_eq,@decide_eq_false_iff_not,@beq_iff_eq.{0},@beq_eq_false_iff_ne.{0},@bne_iff_ne.{0},@bne_eq_false_iff_eq.{0},@Bool.not_eq_true',@Bool.not_eq_false',@forall_const.{1},@true_imp_iff,@false_imp_iff,@if_true.{1},@if_false.{1},@and_self,@or_self,@not_true,@not_false_eq_true,@List.append_nil.{0},@D.bool.injEq,@D.int.injEq,@D.str.injEq,@D.list.injEq,@D.agg.injEq,@bne_self_eq_false.{0},@CV.d.injEq,@CV.own.injEq,@CV.tup.injEq,@List.cons.injEq.{0},@List.toList_toArray.{0},@Option.some.injEq.{0},@Prod.mk.injEq.{0,0},@List.take_succ_cons.{0},@List.take_zero.{0},@List.drop_succ_cons.{0},@List.drop_zero.{0},@List.getD_nil.{0},@sU,@mP,@mR,@mO,@Zaf,@List.not_mem_nil.{0},@false_implies,@implies_true.{1},@List.mem_cons.{0},@or_false,@forall_eq_or_imp.{1},@forall_eq.{1},@ne_eq.{1},@cond_true.{1},@cond_false.{1},@Bool.false_eq_true⟩
end Go.Am
