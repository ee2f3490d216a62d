/- Contracts of functions that the law reaches, and plain laws. Conditions: those that each contract states. -/
import Derived.Test.YtpgfllgpliffaaaGreatDoorA3
import Derived.ProofKit
import Derived.OpenShut
import Derived.JoinedCond
import Derived.JoinedOf
import Derived.Carry
import Derived.Deep.Slices
set_option maxHeartbeats 400000
set_option linter.unusedVariables false
set_option linter.unusedSimpArgs false
variable {p:Prop}
namespace Go.Am
open Go.RowKit (Below)
section
variable {P:Program} {C:Ctx}
variable {base:Nat} {pass:Nat→Prop} {F0:Anc} {st:AS} {a:Act} {w:World}
theorem lN {α:Type} {l:List α} {i:Nat} {x d:α} (h:l.getD i d=x) (hi:i<l.length):l.set i x=l:=by
 apply List.ext_getElem?;intro j;rw [List.getElem?_set];by_cases O1:i=j
 ·subst O1;rw [if_pos rfl,if_pos hi];rw [Zg,Zd hi] at h;rw [Zd hi,←h];rfl
 ·rw [if_neg O1]
theorem Bp {ops:List Oper} {j t:Nat} {b:Bool} (h:Jp ops st j=.b t b):∃ g,ops[j]?=some g∧g.dst=some t∧t<st.tmps.length∧st.tmps.getD t .dead=.d (.bool b):=by
 unfold Jp at h;split at h
 ·next g hg =>
  split at h
  ·next t' ht =>
   split at h
   ·next b' hb =>
    injection h with h1 h2
    subst h1;subst h2;refine ⟨g,hg,ht,?_,hb⟩;rcases Nat.lt_or_ge t' st.tmps.length with Qd|Nd
    ·exact Qd
    ·rw [Zg,List.getElem?_eq_none Nd] at hb;simp at hb
   ·cases h
   ·cases h
  ·cases h
 ·cases h
theorem Mt {m:Nat→Nat} {G:Gh} (h:SRg base pass F0 m G st a w) {ops:List Oper} {j t:Nat} {b:Bool} (hg:Jp ops st j=.b t b):yielded ops.toArray a.tmps j=some b:=by
 obtain ⟨g,h1,h2,h3,h4⟩:=Bp hg;have hx:st.tmps[t]?=some (.d (.bool b)):=by
  rw [Zd h3];rw [Zg,Zd h3] at h4;simpa using h4
 obtain ⟨u,hu,hr⟩:=h.tmps.at hx;simp only [RA,R] at hr;subst hr;have hu':a.tmps[t]?=some (.bool b):=by simpa using hu
 simp [yielded,h1,h2,hu']
theorem gI {m:Nat→Nat} {G:Gh} (h:SRg base pass F0 m G st a w) {ops:List Oper} {j:Nat} (hg:Jp ops st j=.und):yielded ops.toArray a.tmps j=none:=by
 unfold Jp at hg;split at hg
 ·next g hj =>
  split at hg
  ·next t ht =>
   split at hg
   ·cases hg
   ·next hb =>
    have Qd:t<st.tmps.length:=by
     rcases Nat.lt_or_ge t st.tmps.length with Qd|Nd
     ·exact Qd
     ·rw [Zg,List.getElem?_eq_none Nd] at hb;simp at hb
    have hx:st.tmps[t]?=some (.d (.tup [])):=by
     rw [Zd Qd];rw [Zg,Zd Qd] at hb;simpa using hb
    obtain ⟨u,hu,hr⟩:=h.tmps.at hx;simp only [RA,R,Rs] at hr;obtain ⟨cs,rfl,rfl⟩:=hr;have hu':a.tmps[t]?=some (.tuple #[]):=by simpa using hu
    simp [yielded,hj,ht,hu']
   ·cases hg
  ·cases hg
 ·cases hg
theorem aD {F:Fix} {G:Gh} {L:Nat→Option Obj}:RA F G L (.d (.tup [])) undef:=by
 simp only [RA,R,Rs];exact ⟨[],rfl,rfl⟩
theorem oQ (K:He P C) {m:Nat→Nat} {G:Gh} (h:SRg base pass F0 m G st a w) {o:Oper} {bc:BCon} {x:bc.X} {rs:List Nat} (hb:Zbb C o st=some (bc,rnAs rs (bc.args x))) (Xr:bc.ok x)
  (Ek:rs.Nodup) (Js:rs.length=(bc.post x).length) (Uf:Zh rs rs (bc.objs x) st.objs) (O2:Zy (rs.drop (bc.objs x).length) st.objs) {N:Act→World→Prop} {Q:Exit→Act→World→Prop}
  (hn:Rq base pass F0 a st.tmps o.dst (bc.rvr rs x) (Xn rs rs (bc.post x) st.objs) N):o.wp P a w N Q:=by
 unfold Zbb at hb;split at hb
 ·next cl Qv =>
  have e:cl.args.map a.eval=(cl.args.toList.map a.eval).toArray:=by cases cl.args;simp
  split at hb
  ·next f hcal =>
   split at hb
   ·next bc' hf =>
    injection hb with hb
    injection hb with oT Dq
    subst oT;have hx:=Vw (C:=C) h.tmps cl.args.toList cl.argTypes.toList;rw [Dq] at hx;obtain ⟨Tk,Ma⟩:=Tg K h hf Xr hx Ek Js Uf O2;refine H6 (st:=st) (args:=(cl.args.toList.map a.eval).toArray) ?_ Ma hn;have:=Tk (cl.args.toList.map a.eval).toArray w;simp only [execOp,Qv,resolve,hcal,Act.eval,Deferred.ofValue];simpa [invoke,e] using this
   ·cases hb
  ·next f hcal =>
   have xS:=Xj (C:=C) (hint:=0) h.tmps (.tmp f);split at hb
   ·next g caps hfv =>
    split at hb
    ·next bc' hf =>
     injection hb with hb
     injection hb with oT Dq
     subst oT;rw [hfv] at xS;simp only [RA,R] at xS;obtain ⟨cs,Zpd,Lg⟩:=xS;have hx:=RAs.append (Vw (C:=C) h.tmps cl.args.toList cl.argTypes.toList) (RAs.of_Rs (G:=G) (L:=lk st.objs) Lg);rw [Dq] at hx;obtain ⟨Tk,Ma⟩:=Tg K h hf Xr hx Ek Js Uf O2;refine H6 (st:=st) (args:=(cl.args.toList.map a.eval++cs).toArray) ?_ Ma hn;have:=Tk (cl.args.toList.map a.eval++cs).toArray w;simp only [execOp,Qv,resolve,hcal,Zpd,Deferred.ofValue];simpa [invoke,e] using this
    ·cases hb
   ·next g caps hfv =>
    split at hb
    ·next bc' hf =>
     injection hb with hb
     injection hb with oT Dq
     subst oT;rw [hfv] at xS;simp only [RA] at xS;obtain ⟨cs,Zpd,Lg⟩:=xS;have hx:=RAs.append (Vw (C:=C) h.tmps cl.args.toList cl.argTypes.toList) Lg;rw [Dq] at hx;obtain ⟨Tk,Ma⟩:=Tg K h hf Xr hx Ek Js Uf O2;refine H6 (st:=st) (args:=(cl.args.toList.map a.eval++cs).toArray) ?_ Ma hn;have:=Tk (cl.args.toList.map a.eval++cs).toArray w;simp only [execOp,Qv,resolve,hcal,Zpd,Deferred.ofValue];simpa [invoke,e] using this
    ·cases hb
   ·cases hb
  ·cases hb
 ·cases hb
theorem Zoe (K:He P C) {m:Nat→Nat} {G:Gh} (h:SRg base pass F0 m G st a w) {o:Oper} {i n s k:Nat} {b:D} {els:List D} (hb:nH C o st=some (i,n,b,s,els,k))
  (hc:n=els.length∧b.isAnyInt∧0≤b.i∧b.i≤els.length∧(k:Int)≤b.i∧W6 i st.objs=true∧i<90000) {N:Act→World→Prop} {Q:Exit→Act→World→Prop}
  (hn:Rq base pass F0 a (Vd i st.tmps) o.dst (.sl i b.i.toNat) (upd st.objs i (.row s (els.take b.i.toNat) k)) N):o.wp P a w N Q:=by
 obtain ⟨c1,c2,c3,c4,c5,c6,c7⟩:=hc;unfold nH at hb;split at hb
 ·next t x hi d Qv hdst =>
  split at hb
  ·split at hb
   ·next e i' n' b' hk hx hhi =>
    split at hb
    ·next s' els' k' hl =>
     split at hb
     ·next hs =>
      simp only [Zb,Zc] at hb;obtain ⟨rfl,rfl,rfl,rfl,rfl,rfl⟩:=hb;have Ry:=Xj (C:=C) (hint:=t) h.tmps x;have Zos:=Xj (C:=C) (hint:=0) h.tmps hi;rw [hx] at Ry;rw [hhi] at Zos;simp only [RA,hl] at Ry Zos;have hv:=Ry.2.2 c1;obtain ⟨q2,hq⟩:=Zos.of_anyInt c2;obtain ⟨dd,hd,Xb⟩:=K.1.kind hk rfl;simp only [TK.is] at Xb;obtain ⟨rfl,he⟩:=Xb;have V2:=Ys (K.1 e he);obtain ⟨A,cp,Zbg,Pj⟩:∃ A cp,G.hd i'=.slice A els'.length cp∧els'.length≤cp:=by
       have X3:=h.objs i' _ hl;simp only [Z8] at X3;rcases X3 with ⟨_,h2,h3,_⟩|⟨bb,cap,cs,ty,_,h2,h3,_⟩
       ·subst h3;exact ⟨none,0,by rw [h2];rfl,Zk _⟩
       ·exact ⟨_,cap,h2,h3⟩
      have Ls:b'.i.toNat≤els'.length:=by omega
      have hr:=Xt (P:=P) (w:=w) (A:=A) (c:=cp) hd V2 (lo:=none) (hi:=some (.int q2 b'.i)) (n:=els'.length) (l:=0) (h:=b'.i.toNat) (.inl ⟨rfl,rfl⟩) (.inr ⟨q2,by rw [Y3 c3]⟩) (Nat.zero_le _) Ls Pj
      have hA:(if cp=0 then A else A.map (·.add (0*C.size e)))=A:=by
       split
       ·rfl
       ·cases A<;>simp [Addr.add]
      have rN:=h.cut hl Ls (by omega) c6 c7 Zbg
      have Js:(els'.take b'.i.toNat).length=b'.i.toNat:=by rw [List.length_take];omega
      unfold Oper.wp;rw [show execOp a.eval o=(do pure (.value (←Instr.sliceAt t (a.eval x) none (some (a.eval hi)) none))) by simp only [execOp,Qv];rfl]
      rw [hv,Zbg,hq];simp only [Sem.run_bind,hr,Result.andThen_ok,Sem.run_pure,Oper.upon];refine hn _ w m _ rN ?_;simp only [RA,Jb,if_true];refine ⟨rfl,by omega,fun _=>?_⟩
      rw [hA];simp
     ·cases hb
    ·cases hb
   ·cases hb
  ·cases hb
 ·cases hb
theorem eY {t e ty:TypeId} {z:Value} (ht:P.underlying t=some (.slice e)) (hv:∀ w,(zeroValue e).run P w=.ok z w) {zc:Value} (hz:z.cells=#[zc]) (h1:zc.oneCell'=true) {b o n c:Nat} (hn:0<n) {cur:Array Value} {tt:TypeId}
  (hg:w.heap[b]?=some (.cells cur tt (0,0))) (hl:o+n≤cur.size) :
  (Builtin.clear_ #[t] ty #[.slice (some ⟨b,o,none⟩) n c]).run P w=.ok (.tuple #[]) (w.setRow b (cur.toList.take o++List.replicate n zc++cur.toList.drop (o+n)).toArray):=by
 have rL:(Builtin.zeroCells z.cells n).toList=List.replicate n zc:=by
  rw [hz];simp [Builtin.zeroCells];apply List.ext_getElem
  ·simp
  ·intro i h1 h2;simp [Nat.mod_one]
 have Uf:=run_storeCells_at P b o tt (List.replicate n zc) 0 cur w hg (by simpa using hl) (by intro v hv';rw [List.eq_of_mem_replicate hv'];exact h1)
 simp only [Nat.add_zero,List.length_replicate] at Uf;obtain ⟨m,rfl⟩:∃ m,n=m+1:=⟨n-1,by omega⟩
 simp [Builtin.clear_,run_underlying ht,hv,rL,Uf]
theorem tL {F:Fix} {d:D} {z zc:Value} (h:R F d z) (hz:z.cells=#[zc]) (h1:zc.oneCell'=true):∀ n,RE F 1 (List.replicate n d) (List.replicate n zc)
 | 0=>by simp [RE]
 | n+1=>by
  rw [List.replicate_succ,List.replicate_succ];simp only [RE];exact ⟨z,_,by rw [hz];rfl,by rw [hz];rfl,by rw [hz];simpa using h1,h,tL h hz h1 n⟩
theorem SRg.nilRow {m:Nat→Nat} {G:Gh} (h:SRg base pass F0 m G st a w) {k s:Nat} (Lf:lk st.objs k=none) :
  Wc G (lk st.objs) ⟨fun j=>if j=k then none else G.γ j,fun j=>if j=k then .slice none 0 0 else G.hd j⟩ (lk (upd st.objs k (.brow s [])))∧SRg base pass F0 m ⟨fun j=>if j=k then none else G.γ j,fun j=>if j=k then .slice none 0 0 else G.hd j⟩ ⟨st.tmps,upd st.objs k (.brow s [])⟩ a w :=
 h.objG k (.brow s []) (w':=w) (m':=m) (Fix.le_refl _) (fun j hj=>by simp [hj]) (fun o ho=>by rw [Lf] at ho;cases ho) (fun _=>by simp only [Z8];exact .inl (by simp))
  (fun _ _ _ _ _ _ _=>⟨rfl,rfl⟩) (fun _ b hb=>by simp at hb) (Frame.refl _ _ _) (fun _ _ _=>rfl) h.new
theorem zR {l r:List AV} (h:mU l=some r):l=.d .nilp::.nils 1::r:=by
 unfold mU at h;split at h
 ·split at h
  ·split at h
   ·next hs=>subst hs;injection h with h;rw [h]
   ·cases h
  ·cases h
 ·cases h
theorem dX {m:Nat→Nat} {G:Gh} (h:SRg base pass F0 m G st a w) {k e:Nat} {x:AV} {v:Value} {c:Prop} {z:AV} {os:Zz} (hx:RA ⟨w,m⟩ G (lk st.objs) x v)
  (hh:Ms C e k x st.objs=some (c,z,os)) (hc:c):Vr P base pass F0 a st.tmps (Instr.box e v) w z os:=by
 unfold Ms at hh;split at hh
 ·next xU hk =>
  split at hh
  ·next r hk6 Zuu =>
   simp only [Zb,Zc] at hh;obtain ⟨rfl,rfl,rfl⟩:=hh;have Zuu:=zR Zuu;obtain ⟨hf,eS⟩:=hc;obtain ⟨g1,g2,g3⟩:=Ut (ag:=true) hx hf;rw [Zuu] at g1;simp only [RAs,RA,R] at g1;obtain ⟨v0,r0,e0,rfl,v1,r1,rfl,rfl,g1⟩:=g1;obtain ⟨N9,h1⟩:=h.nilRow (k:=60000+k) (s:=wH C.cuts) hk6;have Gk:¬ k=60000+k:=by omega
   have hk':lk (upd st.objs (60000+k) (.brow (wH C.cuts) [])) k=none:=by rw [Jb,if_neg Gk];exact hk
   obtain ⟨q1,q2,q3⟩:=SRg.fresh h1 hk' (.box true (.bad e::.sl (60000+k) 0::r)) (.cells v.cells e) undef (fun hg hF=>by
    simp only [Z8];refine ⟨w.heap.size,v.cells,e,by simp,heap_alloc_new w _,?_,g3,h.new _ (Zk _),?_⟩
    ·rw [e0];simp only [RAs,RA];refine ⟨_,_,rfl,rfl,_,_,rfl,⟨rfl,?_⟩,RAs.mono hF hg (RAs.mono (Fix.le_refl _) N9 g1)⟩;rw [Jb,if_neg (by omega),Jb,if_pos rfl]
     exact ⟨Zk _,fun _=>by simp⟩
    ·intro T hT;simp only [List.head?_cons,Zb,AV.bad.injEq] at hT;exact ⟨hT,.inl (by rw [e0];rfl)⟩)
   refine ⟨_,_,m,_,by simp [Instr.box,newVar,newRow];rfl,q3,?_⟩
   simp only [RA,Jb,if_true];exact ⟨rfl,fun _=>⟨_,rfl,rfl⟩⟩
  ·cases hh
 ·cases hh
theorem kG (T:J1 P C.τ) {m:Nat→Nat} {G:Gh} (h:SRg base pass F0 m G st a w) {k e:Nat} {c:Prop} {z:AV} {os:Zz}
  (hh:Ms C e k (C.τ e).zero st.objs=some (c,z,os)) (hc:c):Vr P base pass F0 a st.tmps (Instr.alloc e true (.tuple #[])) w z os:=by
 obtain ⟨b,hb⟩:∃ b,C.ag e=some b:=by
  unfold Ms at hh;split at hh
  ·next xU _=>exact ⟨_,xU⟩
  ·cases hh
 obtain ⟨zv,z1,z2,_,_⟩:=fB (Ctx.ag_some T hb) w;obtain ⟨v,w',m',G',r1,r2,r3⟩:=dX (P:=P) (C:=C) h (z2 ⟨w,m⟩ G (lk st.objs)) hh hc;refine ⟨v,w',m',G',?_,r2,r3⟩;rw [←r1];simp [Instr.alloc,Instr.box,z1]
theorem Zn8 (K:He P C) {m:Nat→Nat} {G:Gh} (h:SRg base pass F0 m G st a w) {o:Oper} {c:Prop} {z:AV} {os:Zz} (hb:F5 C o st=some (c,z,os)) (hc:c)
  {N:Act→World→Prop} {Q:Exit→Act→World→Prop} (hn:Rq base pass F0 a st.tmps o.dst z os N):o.wp P a w N Q:=by
 unfold F5 at hb;split at hb
 ·next t x lo Qv =>
  split at hb
  ·next d hdst =>
   split at hb
   ·split at hb
    ·next e i n y hk hx hlo =>
     split at hb
     ·next s els k hl =>
      split at hb
      ·next hs =>
       simp only [Zb,Zc] at hb;obtain ⟨rfl,rfl,rfl⟩:=hb;obtain ⟨c1,c2,c3,c4⟩:=hc;have Ry:=Xj (C:=C) (hint:=t) h.tmps x;have rM:=Xj (C:=C) (hint:=0) h.tmps lo;rw [hx] at Ry;rw [hlo] at rM;simp only [RA,hl] at Ry rM;have hv:=Ry.2.2 c1;obtain ⟨q2,hq⟩:=rM.of_anyInt c2;obtain ⟨dd,hd,Xb⟩:=K.1.kind hk rfl;simp only [TK.is] at Xb;obtain ⟨rfl,he⟩:=Xb;have V2:=Ys (K.1 e he);have X3:=h.objs i _ hl;simp only [Z8] at X3;rcases X3 with ⟨_,_,h3,_⟩|⟨bb,cap,cs,ty,h1,h2,h3,_⟩
       ·subst h3;simp at c4;omega
       ·have hr:=Xt (P:=P) (w:=w) (A:=some ⟨bb,0,none⟩) (c:=cap) hd V2 (lo:=some (.int q2 y.i)) (hi:=none) (n:=els.length) (l:=y.i.toNat) (h:=els.length) (.inr ⟨q2,by rw [Y3 c3]⟩) (.inl ⟨rfl,rfl⟩) (by omega) (Zk _) h3
        have Gk:¬ cap=y.i.toNat:=by omega
        rw [if_neg Gk] at hr;refine Qy (st:=st) (s:=Instr.sliceAt t (a.eval x) (some (a.eval lo)) none none) (by simp only [execOp,Qv];rfl) (Z4 h (v:=.slice (some ⟨bb,y.i.toNat*s,none⟩) (els.length-y.i.toNat) (cap-y.i.toNat)) ?_ ?_) hn
        ·rw [hv,h2,hq,hr];simp [Hc,hs]
        ·simp only [RA,hl];refine ⟨rfl,by omega,fun _=>⟨bb,cap,h1,by rw [h2,c1],by omega,by rw [c1]⟩⟩
      ·cases hb
     ·cases hb
    ·cases hb
   ·cases hb
  ·cases hb
 ·next t x hi Qv =>
  split at hb
  ·next d hdst =>
   split at hb
   ·split at hb
    ·next e i n y hk hx hhi =>
     split at hb
     ·next s els k hl Yl =>
      split at hb
      ·next hs =>
       simp only [Zb,Zc] at hb;obtain ⟨rfl,rfl,rfl⟩:=hb;obtain ⟨c1,c2,c3,c4,c5,c6⟩:=hc;have Ry:=Xj (C:=C) (hint:=t) h.tmps x;have Zos:=Xj (C:=C) (hint:=0) h.tmps hi;rw [hx] at Ry;rw [hhi] at Zos;simp only [RA,hl] at Ry Zos;have hv:=Ry.2.2 c1;obtain ⟨q2,hq⟩:=Zos.of_anyInt c2;obtain ⟨dd,hd,Xb⟩:=K.1.kind hk rfl;simp only [TK.is] at Xb;obtain ⟨rfl,he⟩:=Xb;have V2:=Ys (K.1 e he);obtain ⟨A,cp,Zbg,Pj⟩:∃ A cp,G.hd i=.slice A els.length cp∧els.length≤cp:=by
        have X3:=h.objs i _ hl;simp only [Z8] at X3;rcases X3 with ⟨_,h2,h3,_⟩|⟨bb,cap,cs,ty,_,h2,h3,_⟩
        ·subst h3;exact ⟨none,0,by rw [h2];rfl,Zk _⟩
        ·exact ⟨_,cap,h2,h3⟩
       have Ls:y.i.toNat≤els.length:=by omega
       have hr:=Xt (P:=P) (w:=w) (A:=A) (c:=cp) hd V2 (lo:=none) (hi:=some (.int q2 y.i)) (n:=els.length) (l:=0) (h:=y.i.toNat) (.inl ⟨rfl,rfl⟩) (.inr ⟨q2,by rw [Y3 c3]⟩) (Nat.zero_le _) Ls Pj
       have hA:(if cp=0 then A else A.map (·.add (0*C.size e)))=A:=by
        split
        ·rfl
        ·cases A<;>simp [Addr.add]
       have Zy4:=h.move hl Yl Ls (by omega) Zbg
       have Js:(els.take y.i.toNat).length=y.i.toNat:=by rw [List.length_take];omega
       unfold Oper.wp;rw [show execOp a.eval o=(do pure (.value (←Instr.sliceAt t (a.eval x) none (some (a.eval hi)) none))) by simp only [execOp,Qv];rfl]
       rw [hv,Zbg,hq];simp only [Sem.run_bind,hr,Result.andThen_ok,Sem.run_pure,Oper.upon];refine hn _ w m _ Zy4 ?_;simp only [RA,Jb,if_true];refine ⟨rfl,by omega,fun _=>?_⟩
       rw [hA];simp
      ·cases hb
     ·cases hb
    ·cases hb
   ·cases hb
  ·cases hb
 ·next cl Qv =>
  split at hb
  ·next hcal =>
   split at hb
   ·next x t hx ht =>
    split at hb
    ·next e i n f hk hxe =>
     split at hb
     ·next s els k hl =>
      split at hb
      ·next hs =>
       obtain ⟨hs,rfl⟩:=hs;simp only [Zb,Zc] at hb;obtain ⟨rfl,rfl,rfl⟩:=hb;obtain ⟨c1,c2⟩:=hc;have e1:=Cu hx;have e2:=Cu ht;have Ry:=Xj (C:=C) (hint:=t) h.tmps x;rw [hxe] at Ry;simp only [RA,hl] at Ry;obtain ⟨bb,cc,g1,g2,g3,hv⟩:=Ry.2.2 c1;obtain ⟨dd,hd,Xb⟩:=K.1.kind hk rfl;simp only [TK.is] at Xb;obtain ⟨rfl,he⟩:=Xb;obtain ⟨ii,zv,i1,i2,i3,i4,i5,i6,i7,i8⟩:=(K.1 e he).info;have Zyi:zv.cells.size=1:=by rw [i7];exact hs.symm
       obtain ⟨zc,rL⟩:∃ zc,zv.cells=#[zc]:=⟨zv.cells[0],by
        apply Array.ext
        ·simpa using Zyi
        ·intro j h1 h2;have:j=0:=by simp at h2;omega
         subst this;rfl⟩
       have Zxg:zc.oneCell'=true:=i8 zc (by rw [rL];simp)
       have Zyh:∀ w,(zeroValue e).run P w=.ok zv w:=by
        intro w;simp [zeroValue,typeInfo,i1,i4]
       have X3:=h.objs i _ hl;simp only [Z8] at X3;rcases X3 with ⟨_,_,h3,_⟩|⟨b',cap,cs,ty,h1,h2,h3,h4,h5,h6,h7,h8,h9⟩
       ·subst h3;simp at c1;omega
       ·rw [g1] at h1;injection h1 with h1
        subst h1;rw [h2] at g2;injection g2 with _ _ g2
        subst g2;simp only [Nat.mul_one] at hv h6 h7 h8;have hr:=eY (P:=P) (w:=w) (ty:=o.type) hd Zyh rL Zxg (b:=bb) (o:=f) (n:=n-f) (c:=cap-f) (by omega) h5 (by omega)
        refine Qy (st:=st) (s:=Builtin.clear_ #[t] o.type #[a.eval x]) (by simp [execOp,Qv,resolve,hcal,e1,e2,invoke,builtin]) ⟨_,_,m,G,by rw [hv];exact hr,?_,?_⟩ hn
        ·refine (h.write hl rfl g1 h5 (fun off ho=>?_) (by simp [Obj.isBox]) (fun s' els' k' he'=>?_) (fun hF hg=>?_)).2.2
         ·rw [h8] at ho;have:off<f:=by omega
          rw [←Array.getElem?_toList,List.append_assoc,List.getElem?_append_left (by simp;omega),List.getElem?_take,if_pos this]
          simp
         ·simp only [Obj.row.injEq] at he';obtain ⟨rfl,rfl,rfl⟩:=he';exact ⟨els,k,rfl,by simp;omega⟩
         ·simp only [Z8];have Js:(els.take f++List.replicate (els.length-f) (C.τ e).zd).length=els.length:=by simp;omega
          have Zps:(cs.toList.take f++List.replicate (n-f) zc++cs.toList.drop (f+(n-f))).length=cs.size:=by simp;omega
          refine .inr ⟨bb,cap,_,ty,g1,by rw [Js];exact h2,by rw [Js];exact h3,h4,setRow_heap w bb cs _ ty (0,0) h5,?_,?_,by simpa using h8,by rw [Js];exact h9⟩
          ·rw [Nat.mul_one,←h6];simpa using Zps
          ·have r1:=(RE.split f (RE.mono hF h7)).1;have r2:=RE.append r1 (tL (F:=⟨w.setRow bb (cs.toList.take f++List.replicate (n-f) zc++cs.toList.drop (f+(n-f))).toArray,m⟩) (i6 _) rL Zxg (els.length-f));rw [Js];have e3:(cs.toList.take f++List.replicate (n-f) zc++cs.toList.drop (f+(n-f))).toArray.toList.take (els.length*1)=(cs.toList.take els.length).take (f*1)++List.replicate (els.length-f) zc:=by
            rw [Nat.mul_one,Nat.mul_one,List.take_take,c1];simp only [];rw [List.take_append_of_le_length (by simp;omega),List.take_of_length_le (by simp;omega)]
            congr 2
            omega
           rw [e3];exact r2
        ·simp only [RA,R,Rs];exact ⟨[],rfl,rfl⟩
      ·cases hb
     ·cases hb
    ·cases hb
   ·cases hb
  ·cases hb
 ·next e Qv =>
  split at hb
  ·next k hd =>
   split at hb
   ·exact Qy (st:=st) (by simp only [execOp,Qv]) (kG K.1 h hb hc) hn
   ·cases hb
  ·cases hb
 ·next e x Qv =>
  split at hb
  ·next k hd =>
   split at hb
   ·exact Qy (st:=st) (s:=Instr.box e (a.eval x)) (by simp only [execOp,Qv]) (dX h (Xj (C:=C) (hint:=e) h.tmps x) hb hc) hn
   ·cases hb
  ·cases hb
 ·cases hb
theorem Zn5 (K:He P C) {m:Nat→Nat} {G:Gh} (h:SRg base pass F0 m G st a w) {o:Oper} {c:Prop} {l:List D} {b:Bool} (hb:mK C o st=some (c,l,b)) (hc:c)
  {N:Act→World→Prop} {Q:Exit→Act→World→Prop} (Qan:l=[]→Rq base pass F0 a st.tmps o.dst (.d (.bool b)) st.objs N) (Qaq:Rq base pass F0 a st.tmps o.dst (.d (.bool (!b))) st.objs N):o.wp P a w N Q:=by
 have key:∀ (op:BinOp) (t:Nat) (ox oy:Operand) (ty:TypeId),(op=.eql∧b=true∨op=.neq∧b=false)→o.op=.binOp op t ox oy ty→Ae C t (st.ev C t ox) (st.ev C t oy) st.objs=some (c,l)→o.wp P a w N Q:=by
  intro op t ox oy ty Zvh Qv lX;have Ry:=Xj (C:=C) (hint:=t) h.tmps ox;have Zor:=Xj (C:=C) (hint:=t) h.tmps oy;obtain ⟨e,A,cc,hk,hv,hvy',Zss⟩:∃ e A cc,(C.τ t).kind=.slice e∧a.eval ox=.slice A l.length cc∧a.eval oy=.slice none 0 0∧(A=none→l=[]):=by
   unfold Ae at lX;split at lX
   ·next e d s hk hx hy =>
    simp only [Zb,Zc] at lX;obtain ⟨rfl,rfl⟩:=lX;rw [hx] at Ry;rw [hy] at Zor;simp only [RA] at Ry Zor;have hl:=Ry.of_list hc;simp only [R] at hl;obtain ⟨A,cc,hv,_,_,hA⟩:=hl;refine ⟨e,A,cc,hk,hv,Zor,fun hz=>?_⟩;apply Classical.byContradiction;intro Gk;obtain ⟨b,off,vs,hz',_⟩:=hA Gk;rw [hz] at hz';cases hz'
   ·next e i n s hk hx hy =>
    split at lX
    ·next s' els k hl =>
     simp only [Zb,Zc] at lX;obtain ⟨rfl,rfl⟩:=lX;rw [hx] at Ry;rw [hy] at Zor;simp only [RA,hl] at Ry Zor;have hv:=Ry.2.2 hc;have X3:=h.objs i _ hl;simp only [Z8] at X3;rcases X3 with ⟨_,h2,h3,_⟩|⟨bb,cap,cs,ty',_,h2,_⟩
     ·subst h3;exact ⟨e,none,0,hk,by rw [hv,h2];rfl,Zor,fun _=>rfl⟩
     ·exact ⟨e,_,cap,hk,by rw [hv,h2],Zor,fun hz=>by cases hz⟩
    ·cases lX
   ·cases lX
  obtain ⟨dd,hd,Xb⟩:=K.1.kind hk rfl;simp only [TK.is] at Xb;obtain ⟨rfl,_⟩:=Xb;have eX:∀ d:Nat,(Op.equalIn (d+1) t (.slice A l.length cc) (.slice none 0 0)).run P w=.ok A.isNone w:=fun d=>by cases A<;>simp [Op.equalIn,run_underlying hd]
  have run1:(Xf .eql t ox oy (a.eval ox) (a.eval oy)).run P w=.ok (.bool A.isNone) w:=by
   rw [hv,hvy'];unfold Xf;simp only [binOp];simp [eqGuard,Op.equal,Op.maxDepth,eX 9999]
  have run2:(Xf .neq t ox oy (a.eval ox) (a.eval oy)).run P w=.ok (.bool (!A.isNone)) w:=by
   rw [hv,hvy'];unfold Xf;simp only [binOp];simp [eqGuard,Op.equal,Op.maxDepth,eX 9999]
  have hnone':A.isNone=true→l=[]:=fun h=>Zss (by cases A with|none=>rfl|some _=>cases h)
  rcases Zvh with ⟨rfl,rfl⟩|⟨rfl,rfl⟩
  ·cases hz:A.isNone with
   | true =>
    rw [hz] at run1;exact Qy (st:=st) (s:=Xf .eql t ox oy (a.eval ox) (a.eval oy)) (by simp only [execOp,Qv,Xf]) (Z4 h run1 (by simp only [RA];exact R.bool)) (Qan (hnone' hz))
   | false =>
    rw [hz] at run1;exact Qy (st:=st) (s:=Xf .eql t ox oy (a.eval ox) (a.eval oy)) (by simp only [execOp,Qv,Xf]) (Z4 h run1 (by simp only [RA];exact R.bool)) Qaq
  ·cases hz:A.isNone with
   | true =>
    rw [hz] at run2;exact Qy (st:=st) (s:=Xf .neq t ox oy (a.eval ox) (a.eval oy)) (by simp only [execOp,Qv,Xf]) (Z4 h run2 (by simp only [RA];exact R.bool)) (Qan (hnone' hz))
   | false =>
    rw [hz] at run2;exact Qy (st:=st) (s:=Xf .neq t ox oy (a.eval ox) (a.eval oy)) (by simp only [execOp,Qv,Xf]) (Z4 h run2 (by simp only [RA];exact R.bool)) Qaq
 unfold mK at hb;split at hb
 ·next t ox oy ty Qv =>
  split at hb
  ·split at hb
   ·split at hb
    ·next c' l' lX =>
     simp only [Zb,Zc] at hb;obtain ⟨rfl,rfl,h3⟩:=hb;exact key .eql t ox oy ty (.inl ⟨rfl,h3.symm⟩) Qv lX
    ·cases hb
   ·cases hb
  ·cases hb
 ·next t ox oy ty Qv =>
  split at hb
  ·split at hb
   ·split at hb
    ·next c' l' lX =>
     simp only [Zb,Zc] at hb;obtain ⟨rfl,rfl,h3⟩:=hb;exact key .neq t ox oy ty (.inr ⟨rfl,h3.symm⟩) Qv lX
    ·cases hb
   ·cases hb
  ·cases hb
 ·cases hb
theorem Vs (K:He P C) {ops:List Oper} {N:AS→Prop} {Q:Exit→Act→World→Prop} (hQ:∀ st a w,SR base pass F0 st a w→N st→Q .normal a w) :
  ∀ (l:List Oper) (st:AS) (a:Act) (w:World),SR base pass F0 st a w→kH C ops l N st→wpList P ops.toArray Q l a w
 | [],st,a,w,h,hn=>by
  simp only [kH] at hn;exact wpList_nil (hQ st a w h hn)
 | o::l,st,a,w,h,hn=>by
  simp only [kH] at hn;have exec:∀ st a w,SR base pass F0 st a w→Ro C o (kH C ops l N) st→o.wp P a w (wpList P ops.toArray Q l) Q:=by
   intro st a w ⟨m,G,h⟩ he;unfold Ro at he;split at he
   ·next bc args hbo =>
    obtain ⟨x,rs,Xr,iR,Ek,Js,Uf,O2,hk⟩:=he;subst iR;refine oQ K h hbo Xr Ek Js Uf O2 (fun v w' m' G' hs' hz=>?_);refine Vs K hQ l _ _ _ ⟨m',G',?_⟩ hk;have:=hs'.putO (t:=o.dst) hz;unfold AS.put;exact this
   ·split at he
    ·next i n b s els k hcu =>
     refine Zoe K h hcu he.1 (fun v w' m' G' hs' hz=>?_);refine Vs K hQ l _ _ _ ⟨m',G',?_⟩ he.2;have:=hs'.putO (t:=o.dst) hz;unfold AS.put;exact this
    ·split at he
     ·next c x os hs =>
      refine Zn8 K h hs he.1 (fun v w' m' G' hs' hz=>?_);refine Vs K hQ l _ _ _ ⟨m',G',?_⟩ he.2;have:=hs'.putO (t:=o.dst) hz;unfold AS.put;exact this
     ·split at he
      ·next c ll b Zty =>
       obtain ⟨Zzg,Zpf,Zzf⟩:=he;refine Zn5 K h Zty Zzg (fun Zcv v w' m' G' hs' hz=>?_) (fun v w' m' G' hs' hz=>?_)
       ·refine Vs K hQ l _ _ _ ⟨m',G',?_⟩ (Zpf Zcv);have:=hs'.putO (t:=o.dst) hz;unfold AS.put;exact this
       ·refine Vs K hQ l _ _ _ ⟨m',G',?_⟩ Zzf;have:=hs'.putO (t:=o.dst) hz;unfold AS.put;exact this
      ·unfold kI at he;split at he
       ·next c x os hs =>
        refine mJ K h hs he.1 (fun v w' m' G' hs' hz=>?_);refine Vs K hQ l _ _ _ ⟨m',G',?_⟩ he.2;have:=hs'.putO (t:=o.dst) hz;unfold AS.put;exact this
       ·exact he.elim
  unfold Ztp at hn;unfold wpList;split at hn
  ·next hg =>
   rw [if_pos (by simp [Region.wanted,hg])]
   exact .inl (exec st a w h hn)
  ·next j want hg =>
   split at hn
   ·next t b N9 =>
    obtain ⟨m,G,hs⟩:=h;have hy:=Mt hs N9;obtain ⟨g,g1,g2,g3,g4⟩:=Bp N9;have W3:({ st with tmps:=st.tmps.set t (.d (.bool b)) }:AS)=st:=by rw [lN g4 g3]
    by_cases hb:b=want
    ·rw [if_pos (by simp [Region.wanted,hg,hy,hb])]
     have:=hn.1 hb;rw [←hb,W3] at this;exact .inl (exec st a w ⟨m,G,hs⟩ this)
    ·rw [if_neg (by simp [Region.wanted,hg,hy,hb])]
     have hb':b=!want:=by cases b<;>cases want<;>simp_all
     have:=hn.2 hb';rw [←hb',W3] at this;refine Vs K hQ l _ _ _ ⟨m,G,?_⟩ this;have hp:=hs.putO (t:=o.dst) (x:=.d (.tup [])) (v:=undef) aD;unfold AS.put;exact hp
   ·next N9 =>
    obtain ⟨m,G,hs⟩:=h;have hy:=gI hs N9;rw [if_neg (by simp [Region.wanted,hg,hy])]
    refine Vs K hQ l _ _ _ ⟨m,G,?_⟩ hn;have hp:=hs.putO (t:=o.dst) (x:=.d (.tup [])) (v:=undef) aD;unfold AS.put;exact hp
   ·exact hn.elim
theorem D2:∀ {es:List Edge} {acc:List Nat} {k:Nat},(Bj es acc).testBit k=true→∃ e∈es,Region.binds .any e=true∧(e.on=k∨(acc.getD e.on 0).testBit k=true)
 | [],acc,k,h=>by simp [Bj] at h
 | e::r,acc,k,h=>by
  simp only [Bj] at h;split at h
  ·next hb =>
   simp only [Nat.testBit_or,Bool.or_eq_true] at h;rcases h with (h|h)|h
   ·rw [Nat.testBit_two_pow] at h;exact ⟨e,by simp,hb,.inl (by simpa using h)⟩
   ·exact ⟨e,by simp,hb,.inr h⟩
   ·obtain ⟨e',h1,h2⟩:=D2 h;exact ⟨e',List.mem_cons_of_mem _ h1,h2⟩
  ·obtain ⟨e',h1,h2⟩:=D2 h;exact ⟨e',List.mem_cons_of_mem _ h1,h2⟩
theorem E4:∀ (r:List Oper) (acc:List Nat),∃ l,E5 r acc=acc++l∧l.length=r.length∧∀ (j:Nat) (o:Oper),r[j]?=some o→l[j]?=some (Bj o.after.toList (acc++l.take j))
 | [],acc=>⟨[],by simp [E5],rfl,by simp⟩
 | o::r,acc=>by
  obtain ⟨l,h1,h2,h3⟩:=E4 r (acc++[Bj o.after.toList acc]);refine ⟨Bj o.after.toList acc::l,by simp [E5,h1],by simp [h2],fun j x hj=>?_⟩
  cases j with
  | zero=>simp only [List.getElem?_cons_zero,Zb] at hj;subst hj;simp
  | succ j =>
   simp only [List.getElem?_cons_succ] at hj ⊢;rw [h3 j x hj];simp
theorem fR {ops:List Oper} {i k:Nat} {o:Oper} (ho:ops[i]?=some o) (h:((Sv ops).getD i 0).testBit k=true) :
  ∃ e∈o.after.toList,Region.binds .any e=true∧(e.on=k∨(e.on<i∧((Sv ops).getD e.on 0).testBit k=true)):=by
 obtain ⟨l,h1,h2,h3⟩:=E4 ops [];have hm:Sv ops=l:=by simpa [Sv] using h1
 have hi:=h3 i o ho;simp only [List.nil_append] at hi;rw [hm,Zg,hi] at h;simp only [Option.getD_some] at h;obtain ⟨e,g1,g2,g3⟩:=D2 h;refine ⟨e,g1,g2,g3.elim (fun h=>.inl h) fun g=>.inr ?_⟩;by_cases Qd:e.on<i
 ·refine ⟨Qd,?_⟩;rw [hm];rw [Zg,List.getElem?_take,if_pos Qd] at g;rw [Zg];exact g
 ·rw [Zg,List.getElem?_take,if_neg Qd] at g;simp at g
def Zav (ops:List Oper) (listed:Array Bool):Prop:=∀ i o,ops[i]?=some o→listed.getD i false=true→∀ e∈o.after.toList,Region.binds .any e=true→listed.getD e.on false=true
theorem rF {ops:List Oper} {listed:Array Bool} (hc:Zav ops listed):∀ (n i:Nat),i≤n→∀ o,ops[i]?=some o→(∀ e∈o.after.toList,Region.binds .any e=true→listed.getD e.on false=true) →
  ∀ k,((Sv ops).getD i 0).testBit k=true→listed.getD k false=true:=by
 intro n
 induction n with
 | zero =>
  intro i hi o ho he k hk;obtain ⟨e,h1,h2,h3⟩:=fR ho hk;rcases h3 with rfl|⟨h3,_⟩
  ·exact he e h1 h2
  ·omega
 | succ n ih =>
  intro i hi o ho he k hk;obtain ⟨e,h1,h2,h3⟩:=fR ho hk;rcases h3 with rfl|⟨h3,h4⟩
  ·exact he e h1 h2
  ·have Qd:i<ops.length:=(List.getElem?_eq_some_iff.1 ho).1;have Zxu:ops[e.on]?=some ops[e.on]:=Zd (by omega)
   exact ih e.on (by omega) _ Zxu (fun e' g1 g2=>hc e.on _ Zxu (he e h1 h2) e' g1 g2) k h4
theorem Bu:∀ {ops:List Oper} {n:Nat},F8 n ops=true→∀ i o,ops[i]?=some o→∀ e∈o.after.toList,Region.binds .any e=true→e.on<n+i
 | [],n,_,i,o,ho=>by simp at ho
 | x::r,n,h,i,o,ho=>by
  simp only [F8,Ze,List.all_eq_true,Bool.or_eq_true,Bool.not_eq_true',decide_eq_true_eq] at h;cases i with
  | zero =>
   simp only [List.getElem?_cons_zero,Zb] at ho;subst ho;intro e he hb;rcases h.1 e he with h1|h1
   ·rw [hb] at h1;cases h1
   ·exact h1
  | succ i =>
   simp only [List.getElem?_cons_succ] at ho;intro e he hb;have:=Bu h.2 i o ho e he hb;omega
theorem Fs {l:Array Bool} {i:Nat} (h:i<l.size):l.getD i true=l.getD i false:=by simp [h]
theorem xA (K:He P C) (hC:C.dp=1) {ops:Array Oper} (hE:F8 0 ops.toList=true) {N:Exit→Act→World→Prop}:∀ (n:Nat) (l:List (Nat×List Nat×Bool)) (listed:Array Bool) (s t:AS) (a:Act) (w:World),l.length=n →
  listed.size=ops.size→(∀ i,i<ops.size→(listed.getD i false=false↔∃ q∈l,q.1=i))→(∀ q∈l,q.1<ops.size)→(l.map (·.1)).Nodup→Zav ops.toList listed→Tr C ops.toList l s t →
  l.Pairwise (fun p q=>tO ops.toList p q∨((Sv ops.toList).getD q.1 0).testBit p.1=true)→SR base pass F0 s a w→(∀ a w,SR base pass F0 t a w→N .normal a w)→wpAny P .any ops N n listed a w:=by
 intro n
 induction n with
 | zero =>
  intro l listed s t a w hl V2 Zaz Qd Ek oS Hg Zu9 hs hN;have:l=[]:=List.eq_nil_of_length_eq_zero hl;subst this;cases Hg;refine ⟨?_,hN a w hs⟩;cases hr:Region.ready .any ops listed with
  | nil=>rfl
  | cons j r =>
   have hj:j∈Region.ready .any ops listed:=by rw [hr];simp
   obtain ⟨h1,o,ho,_⟩:=mem_ready.1 hj;have Cw:j<ops.size:=(Array.getElem?_eq_some_iff.1 ho).1;rw [Fs (by omega)] at h1
   obtain ⟨q,hq,_⟩:=(Zaz j Cw).1 h1;cases hq
 | succ n ih =>
  intro l listed s t a w hl V2 Zaz Qd Ek oS Hg Zu9 hs hN;refine ⟨fun Zcv=>?_,fun i hi=>?_⟩
  ·
   exfalso;have ex:∀ m i,i≤m→i<ops.size→listed.getD i false=false→∃ j,j∈Region.ready .any ops listed:=by
    intro m
    induction m with
    | zero =>
     intro i Zzc L4 hu;refine ⟨i,mem_ready.2 ⟨by rw [Fs (by omega)];exact hu,ops[i],by simp [L4],fun e he hb=>?_⟩⟩
     have:=Bu hE i ops[i] (by simp [L4]) e (by simpa using he) hb
     omega
    | succ m ihm =>
     intro i Zzc L4 hu;by_cases Up:∀ e∈ops[i].after,Region.binds .any e=true→listed.getD e.on false=true
     ·exact ⟨i,mem_ready.2 ⟨by rw [Fs (by omega)];exact hu,ops[i],by simp [L4],Up⟩⟩
     ·have:∃ e,e∈ops[i].after∧Region.binds .any e=true∧listed.getD e.on false=false:=by
       apply Classical.byContradiction;intro Yx;apply Up;intro e he hb;cases hx:listed.getD e.on false with
       | true=>rfl
       | false=>exact absurd ⟨e,he,hb,hx⟩ Yx
      obtain ⟨e,he,hb,hx⟩:=this;have:=Bu hE i ops[i] (by simp [L4]) e (by simpa using he) hb
      exact ihm e.on (by omega) (by omega) hx
   cases l with
   | nil=>simp at hl
   | cons q r =>
    have hq:=Qd q (by simp)
    obtain ⟨j,hj⟩:=ex q.1 q.1 (Zk _) hq ((Zaz q.1 hq).2 ⟨q,by simp,rfl⟩)
    rw [Zcv] at hj;cases hj
  ·obtain ⟨h1,o,ho,Up⟩:=mem_ready.1 hi;have L4:i<ops.size:=(Array.getElem?_eq_some_iff.1 ho).1;have Zpw:ops.toList[i]?=some o:=by simpa using ho
   rw [Fs (by omega)] at h1
   obtain ⟨q,hq,rfl⟩:=(Zaz i L4).1 h1;obtain ⟨l1,l2,rfl⟩:=List.append_of_mem hq;have Zvy:∀ k∈l1,tO ops.toList k q:=by
    intro k hk;rcases (List.pairwise_append.1 Zu9).2.2 k hk q (by simp) with h|h
    ·exact h
    ·exfalso;have:=rF oS q.1 q.1 (Zk _) o Zpw (fun e he hb=>Up e (by simpa using he) hb) k.1 h
     have h2:=(Zaz k.1 (Qd k (by simp [hk]))).2 ⟨k,by simp [hk],rfl⟩
     rw [this] at h2;cases h2
   obtain ⟨s1,t',Uf,htr',W3⟩:=Hg.first hC Zvy;have rest:∀ a w,SR base pass F0 s1 a w→wpAny P .any ops N n (listed.setIfInBounds q.1 true) a w:=by
    intro a w Oy;have hnd':q.1∉(l1++l2).map (·.1):=by
     simp only [List.map_append,List.map_cons] at Ek;have h2:=List.nodup_append.1 Ek;have h3:=List.nodup_cons.1 h2.2.1;simp only [List.map_append,List.mem_append,not_or];exact ⟨fun hx=>h2.2.2 q.1 hx q.1 (by simp) rfl,h3.1⟩
    refine ih (l1++l2) _ s1 t' a w (by simp at hl ⊢;omega) (by simpa using V2) (fun i hi=>?_) (fun p hp=>Qd p (by simp at hp ⊢;rcases hp with hp|hp<;>simp [hp])) ?_ ?_ htr' ?_ Oy (fun a w h=>hN a w (h.same W3.symm))
    ·by_cases Zvx:q.1=i
     ·subst Zvx;have:(listed.setIfInBounds q.1 true).getD q.1 false=true:=by simp [V2,hi]
      rw [this];constructor
      ·intro h;cases h
      ·rintro ⟨p,hp,Zyy⟩;exact absurd (List.mem_map.2 ⟨p,hp,Zyy⟩) hnd'
     ·rw [getD_set_ne false Zvx,Zaz i hi];constructor
      ·rintro ⟨p,hp,rfl⟩;refine ⟨p,?_,rfl⟩;simp only [List.mem_append,Zm] at hp ⊢;rcases hp with hp|rfl|hp
       ·exact .inl hp
       ·exact absurd rfl Zvx
       ·exact .inr hp
      ·rintro ⟨p,hp,rfl⟩;refine ⟨p,?_,rfl⟩;simp only [List.mem_append,Zm] at hp ⊢;rcases hp with hp|hp
       ·exact .inl hp
       ·exact .inr (.inr hp)
    ·simp only [List.map_append,List.map_cons] at Ek ⊢;have h2:=List.nodup_append.1 Ek;have h3:=List.nodup_cons.1 h2.2.1;exact List.nodup_append.2 ⟨h2.1,h3.2,fun x hx y hy=>h2.2.2 x hx y (List.mem_cons_of_mem _ hy)⟩
    ·intro j oj Lr Zxz e he hb;by_cases Zx1:q.1=j
     ·subst Zx1;rw [Zpw] at Lr;injection Lr with Lr
      subst Lr;exact getD_set_true (Up e (by simpa using he) hb)
     ·rw [getD_set_ne false Zx1] at Zxz;exact getD_set_true (oS j oj Lr Zxz e he hb)
    ·have h2:=List.pairwise_append.1 Zu9;have h3:=List.pairwise_cons.1 h2.2.1;exact List.pairwise_append.2 ⟨h2.1,h3.2,fun x hx y hy=>h2.2.2 x hx y (List.mem_cons_of_mem _ hy)⟩
   obtain ⟨o',ho',Rr⟩:=Uf;rw [Zpw] at ho';injection ho' with ho'
   subst ho';unfold wpOp;simp only [ho];obtain ⟨m,G,Zow⟩:=hs;rcases Rr with Rr|⟨hg,_,_,c,x,os,e1,hc,rfl⟩|⟨hg,_,bc,x,rs,⟨b1,b2,b3,b4,b5,b6,b7⟩,_,rfl⟩
   ·cases Mf:o.guard with
    | none=>simp only [Mf] at Rr
    | some jw =>
     obtain ⟨j,want⟩:=jw;simp only [Mf] at Rr;obtain ⟨g1,_,_,rfl⟩:=Rr;have hw:¬ Region.wanted o (yielded ops a.tmps)=true:=by
      cases N9:Jp ops.toList s j with
      | b t1 b =>
       rw [N9] at g1;have hy:=Mt Zow N9;have hy':yielded ops a.tmps j=some b:=by simpa using hy
       simp only [GV.skips] at g1;simp [Region.wanted,Mf,hy',g1]
      | und =>
       have hy:=gI Zow N9;have hy':yielded ops a.tmps j=none:=by simpa using hy
       simp [Region.wanted,Mf,hy']
      | no=>rw [N9] at g1;exact g1.elim
     rw [if_neg hw];refine rest _ _ ⟨m,G,?_⟩;have hp:=Zow.putO (t:=o.dst) (x:=.d (.tup [])) (v:=undef) aD;unfold AS.put;exact hp
   ·have hw:Region.wanted o (yielded ops a.tmps)=true:=by
     cases Mf:o.guard with
     | none=>simp [Region.wanted,Mf]
     | some jw =>
      obtain ⟨j,want⟩:=jw;simp only [Mf] at hg;cases N9:Jp ops.toList s j with
      | b t1 b =>
       rw [N9] at hg;simp only [GV.runs] at hg;subst hg;have hy:=Mt Zow N9;have hy':yielded ops a.tmps j=some b:=by simpa using hy
       simp [Region.wanted,Mf,hy']
      | und=>rw [N9] at hg;exact hg.elim
      | no=>rw [N9] at hg;exact hg.elim
    rw [if_pos hw];refine .inl (mJ K Zow e1 hc (fun v w' m' G' hs' hz=>rest _ _ ⟨m',G',?_⟩));have:=hs'.putO (t:=o.dst) hz;unfold AS.put;exact this
   ·have hw:Region.wanted o (yielded ops a.tmps)=true:=by
     cases Mf:o.guard with
     | none=>simp [Region.wanted,Mf]
     | some jw =>
      obtain ⟨j,want⟩:=jw;simp only [Mf] at hg;cases N9:Jp ops.toList s j with
      | b t1 b =>
       rw [N9] at hg;simp only [GV.runs] at hg;subst hg;have hy:=Mt Zow N9;have hy':yielded ops a.tmps j=some b:=by simpa using hy
       simp [Region.wanted,Mf,hy']
      | und=>rw [N9] at hg;exact hg.elim
      | no=>rw [N9] at hg;exact hg.elim
    rw [if_pos hw];refine .inl (oQ K Zow b1 b2 b3 b4 b6 b7 (fun v w' m' G' hs' hz=>rest _ _ ⟨m',G',?_⟩));have:=hs'.putO (t:=o.dst) hz;unfold AS.put;exact this
theorem cA {ms:List Nat}:∀ {acc:List (Nat×List Nat×Bool)},sS ms acc=true→acc.Pairwise (fun q p=>(∀ k,k∈p.2.1→k∉q.2.1)∨(p.2.2=true∧q.2.2=true)∨(ms.getD q.1 0).testBit p.1=true)
 | [],_=>List.Pairwise.nil
 | (i,fi,ri)::r,h=>by
  simp only [sS,Ze,List.all_eq_true,Bool.or_eq_true] at h;refine List.pairwise_cons.2 ⟨fun p hp=>?_,cA h.2⟩;rcases h.1 p hp with (h1|h1)|h1
  ·exact .inr (.inr h1)
  ·refine .inl fun k hk eT=>?_;have:=h1 k eT;simp [hk] at this
  ·exact .inr (.inl ⟨h1.2,h1.1⟩)
theorem It {rs0:List Nat}:∀ {ks:List Nat} {l:List Obj} {o:Zz},Zh rs0 ks l o→l.length≤ks.length
 | _,[],_,_=>by simp
 | [],_::_,_,h=>by simp [Zh] at h
 | k::ks,x::l,o,h=>by
  simp only [Zh] at h;have:=It h.2;simp only [Zf];omega
theorem G8 {ops:List Oper} {Kp:AS→Prop}:∀ (r:List Oper) (i:Nat) (acc:List (Nat×List Nat×Bool)) (s:AS),(∀ j,r[j]?=ops[i+j]?)→Yc C ops i r acc Kp s →
  ∃ l t acc',Tr C ops l s t∧Zn4 ops acc'=true∧Kp t∧l.map (·.1)=List.range' i r.length ∧
   (∃ d,acc'=d++acc∧d.reverse.Sublist l∧∀ q∈l,q∉d→q.2.1=[]∧q.2.2=true)
 | [],i,acc,s,_,h=>by
  simp only [Yc] at h;exact ⟨[],s,acc,.nil s,h.1,h.2,rfl,[],rfl,List.Sublist.refl _,by simp⟩
 | o::r,i,acc,s,hr,h=>by
  have ho:ops[i]?=some o:=by have:=hr 0;simpa using this.symm
  have hr':∀ j,r[j]?=ops[i+1+j]?:=fun j=>by have:=hr (j+1);simpa [Nat.add_assoc,Nat.add_comm 1] using this
  have exec:∀ s,Lb C o (fun fp ro=>Yc C ops (i+1) r ((i,fp,ro)::acc) Kp) s→(match o.guard with
    | none=>True
    | some (j,want)=>(Jp ops s j).runs want)→∃ l t acc',Tr C ops l s t∧Zn4 ops acc'=true∧Kp t∧l.map (·.1)=List.range' i (o::r).length ∧
   (∃ d,acc'=d++acc∧d.reverse.Sublist l∧∀ q∈l,q∉d→q.2.1=[]∧q.2.2=true):=by
   intro s h hg;unfold Lb at h;split at h
   ·next bc args hbo =>
    obtain ⟨x,rs,h1,rfl,h3,h4,h5,h6,h7⟩:=h;obtain ⟨l,t,acc',k1,k2,k3,k4,d,k5,k6,k7⟩:=G8 r (i+1) _ _ hr' h7;refine ⟨(i,rs.map (· % 4096),false)::l,t,acc',.cons ⟨o,ho,.inr (.inr ⟨hg,rfl,bc,x,rs,⟨hbo,h1,h3,h4,It h5,h5,h6⟩,rfl,rfl⟩)⟩ k1,k2,k3,by simp [k4,List.range'],d++[(i,rs.map (· % 4096),false)],by simp [k5],by simpa using k6,fun q hq tS=>?_⟩
    simp only [List.mem_append,Qo,not_or] at tS;rcases Zm.1 hq with rfl|hq
    ·exact absurd rfl tS.2
    ·exact k7 q hq tS.1
   ·split at h
    ·next c x os hs =>
     obtain ⟨l,t,acc',k1,k2,k3,k4,d,k5,k6,k7⟩:=G8 r (i+1) _ _ hr' h.2;refine ⟨(i,G7 C o s,M4 o.op)::l,t,acc',.cons ⟨o,ho,.inr (.inl ⟨hg,rfl,rfl,c,x,os,hs,h.1,rfl⟩)⟩ k1,k2,k3,by simp [k4,List.range'],d++[(i,G7 C o s,M4 o.op)],by simp [k5],by simpa using k6,fun q hq tS=>?_⟩
     simp only [List.mem_append,Qo,not_or] at tS;rcases Zm.1 hq with rfl|hq
     ·exact absurd rfl tS.2
     ·exact k7 q hq tS.1
    ·exact h.elim
  simp only [Yc] at h;split at h
  ·next hg=>exact exec s h (by simp only [hg])
  ·next j want hg =>
   split at h
   ·next t b N9 =>
    obtain ⟨g,g1,g2,g3,g4⟩:=Bp N9;have W3:({ s with tmps:=s.tmps.set t (.d (.bool b)) }:AS)=s:=by rw [lN g4 g3]
    by_cases hb:b=want
    ·have:=h.1 hb;rw [←hb,W3] at this;exact exec s this (by simp only [hg,N9,GV.runs];exact hb)
    ·have hb':b=!want:=by cases b<;>cases want<;>simp_all
     have:=h.2 hb';rw [←hb',W3] at this;obtain ⟨l,t',acc',k1,k2,k3,k4,d,k5,k6,k7⟩:=G8 r (i+1) _ _ hr' this;refine ⟨(i,[],true)::l,t',acc',.cons ⟨o,ho,.inl ?_⟩ k1,k2,k3,by simp [k4,List.range'],d,k5,k6.cons _,fun q hq tS=>?_⟩
     ·simp only [hg,N9];exact ⟨hb,by simp⟩
     ·rcases Zm.1 hq with rfl|hq
      ·exact ⟨rfl,rfl⟩
      ·exact k7 q hq tS
   ·next N9 =>
    obtain ⟨l,t',acc',k1,k2,k3,k4,d,k5,k6,k7⟩:=G8 r (i+1) _ _ hr' h;refine ⟨(i,[],true)::l,t',acc',.cons ⟨o,ho,.inl ?_⟩ k1,k2,k3,by simp [k4,List.range'],d,k5,k6.cons _,fun q hq tS=>?_⟩
    ·simp only [hg,N9];exact ⟨trivial,by simp⟩
    ·rcases Zm.1 hq with rfl|hq
     ·exact ⟨rfl,rfl⟩
     ·exact k7 q hq tS
   ·exact h.elim
theorem jJ {ops:List Oper} (h:jY ops=true) {i k:Nat} {x y:Oper} (hk:ops[k]?=some x) (hi:ops[i]?=some y) (Qd:k<i):((Sv ops).getD i 0).testBit k=true∨Nl ops x y=true:=by
 simp only [jY,List.all_eq_true,List.mem_range,Bool.or_eq_true] at h;have:=h i (List.getElem?_eq_some_iff.1 hi).1 k Qd;rw [hk,hi] at this;exact this
theorem rX (K:He P C) (hC:C.dp=1) {ops:Array Oper} {N:AS→Prop} {Q:Exit→Act→World→Prop} (hQ:∀ st a w,SR base pass F0 st a w→N st→Q .normal a w) {s:AS} (h:SR base pass F0 s a w)
  (hn:Yc C ops.toList 0 ops.toList [] N s):wpAny P .any ops Q ops.size (Array.replicate ops.size false) a w:=by
 obtain ⟨l,t,d,k1,k2,k3,k4,d',k5,k6,k7⟩:=G8 ops.toList 0 [] s (fun j=>by simp) hn
 simp only [List.append_nil] at k5;subst k5;simp only [Zn4,Ze] at k2;obtain ⟨⟨e1,e2⟩,e3⟩:=k2;have Js:l.length=ops.size:=by have:=congrArg List.length k4;simpa using this
 have Me:∀ i,(∃ q∈l,q.1=i)↔i<ops.size:=by
  intro i;have:i∈l.map (·.1)↔i<ops.size:=by rw [k4];simp
  rw [←this,List.mem_map]
 have Ek:(l.map (·.1)).Nodup:=by rw [k4,←List.range_eq_range'];exact List.nodup_range
 refine xA K hC e1 ops.size l _ s t a w Js (by simp) (fun i hi=>?_) (fun q hq=>(Me q.1).1 ⟨q,hq,rfl⟩) Ek (fun i o ho hl=>?_) k1 ?_ h (fun a w hs=>hQ t a w hs k3)
 ·simp [hi,Me i]
 ·rcases Nat.lt_or_ge i ops.size with Qd|Nd
  ·simp [Qd] at hl
  ·simp [Nat.not_lt.2 Nd] at hl
 ·
  have Zsq:l.Pairwise (fun p q=>p.1<q.1):=by
   have:(l.map (·.1)).Pairwise (·<·):=by rw [k4,←List.range_eq_range'];exact List.pairwise_lt_range
   exact List.pairwise_map.1 this
  have oP:=cA e3;have hd:d.reverse.Pairwise (fun p q=>(∀ k,k∈p.2.1→k∉q.2.1)∨(p.2.2=true∧q.2.2=true)∨((Sv ops.toList).getD q.1 0).testBit p.1=true):=List.pairwise_reverse.2 oP;have Up:∀ p∈l,∀ q∈l,p.1<q.1→(∀ k,k∈p.2.1→k∉q.2.1)∨(p.2.2=true∧q.2.2=true)∨((Sv ops.toList).getD q.1 0).testBit p.1=true:=by
   intro p hp q hq Qd;by_cases Zxs:p∈d
   ·by_cases tS:q∈d
    ·
     have hs:d.reverse.Pairwise (fun p q=>p.1<q.1):=Zsq.sublist k6;have both:∀ {R:Nat×List Nat×Bool→Nat×List Nat×Bool→Prop} {L:List (Nat×List Nat×Bool)},L.Pairwise R→L.Pairwise (fun p q=>p.1<q.1)→∀ p∈L,∀ q∈L,p.1<q.1→R p q:=by
      intro R L
      induction L with
      | nil=>intro _ _ p hp;cases hp
      | cons x L ihL =>
       intro h1 h2 p hp q hq Qd;rw [List.pairwise_cons] at h1 h2;rcases Zm.1 hp with Zxq|hp'
       ·rcases Zm.1 hq with Zu8|hq'
        ·subst Zxq;subst Zu8;omega
        ·subst Zxq;exact h1.1 q hq'
       ·rcases Zm.1 hq with Zu8|hq'
        ·subst Zu8;have:=h2.1 p hp';omega
        ·exact ihL h1.2 h2.2 p hp' q hq' Qd
     exact both hd hs p (by simpa using Zxs) q (by simpa using tS) Qd
    ·obtain ⟨q1,_⟩:=k7 q hq tS;exact .inl fun k _ hk=>by rw [q1] at hk;cases hk
   ·obtain ⟨q1,_⟩:=k7 p hp Zxs;exact .inl fun k hk=>by rw [q1] at hk;cases hk
  refine Zsq.imp_of_mem fun {p q} hp hq Qd=>?_;have tT:=(Me p.1).1 ⟨p,hp,rfl⟩;have Ztw:=(Me q.1).1 ⟨q,hq,rfl⟩;rcases jJ e2 (k:=p.1) (i:=q.1) (x:=ops[p.1]) (y:=ops[q.1]) (by simp [tT]) (by simp [Ztw]) Qd with hb|Ztc
  ·exact .inr hb
  ·rcases Up p hp q hq Qd with h1|h1|h1
   ·refine .inl ⟨fun x y hx hy=>?_,.inl h1⟩;have hx':ops[p.1]=x:=by simpa [tT] using hx
    have hy':ops[q.1]=y:=by simpa [Ztw] using hy
    rw [←hx',←hy'];exact Ztc
   ·refine .inl ⟨fun x y hx hy=>?_,.inr h1⟩;have hx':ops[p.1]=x:=by simpa [tT] using hx
    have hy':ops[q.1]=y:=by simpa [Ztw] using hy
    rw [←hx',←hy'];exact Ztc
   ·exact .inr h1
theorem SR.drew (h:SR base pass F0 st a w):SR base pass F0 st a { w with drawn:=w.drawn+1 }:=by
 obtain ⟨m,G,h⟩:=h;exact ⟨m,G,h.drew⟩
def Zad:AExit→Exit
 | .normal=>.normal
 | .exit id=>.exit id
 | .ret=>.ret
theorem iH:∀ {ks:List Nat} {st st':AS} {m:Nat→Nat} {G:Gh},SRg base pass F0 m G st a w→Zsb ks st st'→∃ m' G',SRg base pass F0 m' G' st' a w
 | [],st,st',m,G,h,hw=>⟨m,_,h.weak hw⟩
 | k::ks,st,st',m,G,h,hw=>by
  simp only [Zsb] at hw;cases hp:pur 60 (st.tmps.getD k .dead) st.objs with
  | none=>rw [hp] at hw;exact hw.elim
  | some p =>
   obtain ⟨c,y,os⟩:=p;rw [hp] at hw;simp only at hw;obtain ⟨hc,hw⟩:=hw;have hk:k<st.tmps.length:=by
    refine Nat.lt_of_not_le fun hk=>?_;rw [Zg,List.getElem?_eq_none hk,Option.getD_none] at hp;simp [pur] at hp
   have hx:st.tmps[k]?=some (st.tmps.getD k .dead):=by
    rw [Zg,Zd hk,Option.getD_some]
   obtain ⟨v,hv,hr⟩:=RAs.at h.tmps hx;obtain ⟨m',h',_,_,hy⟩:=K7 h hp hc hr;refine iH (m:=m') (G:=G) ?_ hw;have ht:RAs ⟨w,m'⟩ G (lk os) (st.tmps.set k (.d y)) (a.tmps.toList.set k v):=RAs.set h'.tmps (by simpa only [RA] using hy)
   have pQ:a.tmps.toList.set k v=a.tmps.toList:=by
    have hl:k<a.tmps.toList.length:=by
     refine Nat.lt_of_not_le fun hn=>?_;rw [List.getElem?_eq_none hn] at hv;cases hv
    rw [Zd hl] at hv;injection hv with hv
    rw [←hv,List.set_getElem_self]
   rw [pQ] at ht;exact ⟨h'.defers,ht,h'.objs,h'.apart,h'.mine,h'.frame,h'.old,h'.new,h'.small,h'.lent⟩
theorem Ux (K:He P C):∀ (c:Code) {N:AExit→AS→Prop} {Q:Exit→Act→World→Prop} {st:AS} {a:Act} {w:World},
  (∀ e st a w,SR base pass F0 st a w→N e st→Q (Zad e) a w)→SR base pass F0 st a w→V4 C c N st→c.wp P Q a w
 | .skip,N,Q,st,a,w,hQ,h,hn=>wp_skip (hQ .normal st a w h hn)
 | .region id ops false,N,Q,st,a,w,hQ,h,hn=>by
  simp only [V4] at hn;refine wp_region_list ?_;have:=Vs (P:=P) K (Q:=Q) (hQ .normal) ops.toList st a w h hn;simpa using this
 | .region id ops true,N,Q,st,a,w,hQ,h,hn=>by
  simp only [V4] at hn;refine wp_region_any K.2.2.1 (rX (C:=C.one) ⟨K.1,K.2.1,K.2.2.1,K.2.2.2⟩ rfl (hQ .normal) h.drew hn)
 | .seq x y,N,Q,st,a,w,hQ,h,hn=>by
  simp only [V4] at hn;refine wp_seq (Ux K x ?_ h hn);intro e st a w hs he;cases e with
  | normal=>exact Ux K y hQ hs he
  | exit id=>exact hQ (.exit id) st a w hs he
  | ret=>exact hQ .ret st a w hs he
 | .cond c x y,N,Q,st,a,w,hQ,h,hn=>by
  simp only [V4] at hn;split at hn
  ·next b hb =>
   obtain ⟨m,G,hs⟩:=h;have hr:=Xj (C:=C) (hint:=0) hs.tmps c;rw [hb] at hr;simp only [RA] at hr;have hv:=hr.of_bool hn.1;exact wp_cond_split hv (fun ht=>Ux K x hQ ⟨m,G,hs⟩ (hn.2.1 ht)) (fun hf=>Ux K y hQ ⟨m,G,hs⟩ (hn.2.2 hf))
  ·exact hn.elim
 | .block id c,N,Q,st,a,w,hQ,h,hn=>by
  simp only [V4] at hn;refine wp_block (Ux K c ?_ h hn);intro e st a w hs he;cases e with
  | normal=>exact hQ .normal st a w hs he
  | exit id' =>
   simp only [dC] at he;simp only [Zad,Exit.inBlock];split
   ·next hid=>rw [if_pos hid] at he;exact hQ .normal st a w hs he
   ·next hid=>rw [if_neg hid] at he;exact hQ (.exit id') st a w hs he
  | ret=>exact hQ .ret st a w hs he
 | .loop c,N,Q,st,a,w,hQ,h,hn=>by
  simp only [V4] at hn;obtain ⟨α,inv,ok,μ,rel,hrel,⟨x0,Zuy,Zvk⟩,Zox⟩:=hn;obtain ⟨m,G,hs⟩:=h;obtain ⟨ks,Zuy⟩:=Zuy;obtain ⟨m,G,hs⟩:=iH hs Zuy;refine wp_loop_ghost (fun n a w=>∃ x,ok x∧μ x=n∧SR base pass F0 (inv x) a w) (μ x0) ⟨x0,Zvk,rfl,m,G,hs⟩ ?_;rintro n a w ⟨x,Xr,rfl,Zyr⟩;refine Ux K c ?_ Zyr (Zox x Xr);intro e st a w hs he;cases e with
  | normal =>
   obtain ⟨x',hw',hok',Qd⟩:=he;obtain ⟨m',G',hs'⟩:=hs;obtain ⟨m2,G2,eQ⟩:=hs'.back (hrel _ _ hw');exact ⟨μ x',Qd,x',hok',rfl,m2,G2,eQ⟩
  | exit id=>exact hQ (.exit id) st a w hs he
  | ret=>exact hQ .ret st a w hs he
 | .exit id,N,Q,st,a,w,hQ,h,hn=>wp_exit (hQ (.exit id) st a w h hn)
 | .ret,N,Q,st,a,w,hQ,h,hn=>wp_ret (hQ .ret st a w h hn)
 | .rangeFunc ..,_,_,_,_,_,_,_,hn=>by simp [V4] at hn
 | .scope _,_,_,_,_,_,_,_,hn=>by simp [V4] at hn
 | .label _,_,_,_,_,_,_,_,hn=>by simp [V4] at hn
 | .goto _,_,_,_,_,_,_,_,hn=>by simp [V4] at hn
 | .refuse _,_,_,_,_,_,_,_,hn=>by simp [V4] at hn
end
def fE (C:Ctx) (st:AS):ResultVar→Option (Prop×AV)
 | .tmp t=>some (True,st.tmps.getD t .dead)
 | .cell t T=>match De C T (st.tmps.getD t .dead) st.objs with
  | some (c,x,_)=>some (c,x)
  | none=>none
def Bh (C:Ctx) (st:AS):List ResultVar→Option (Prop×List AV)
 | []=>some (True,[])
 | r::rs=>match fE C st r,Bh C st rs with
  | some (c,x),some (c',l)=>some (c∧c',x::l)
  | _,_=>none
def lU (C:Ctx) (rs:List ResultVar) (outs:List Bool) (r:CV) (st:AS):Prop:=match Bh C st rs with
 | some (c,xs)=>match X8 C outs xs st.objs with
  | some (c',Jj,_)=>c∧c'∧match Jj with
   | [x]=>x=r
   | l=>CV.tup l=r
  | none=>False
 | none=>False
def Zcm (C:Ctx) (rs:List ResultVar) (outs:List Bool) (r:CV):AExit→AS→Prop
 | .exit _,_=>False
 | _,st=>lU C rs outs r st
def Xp:Nat→List CV→List AV×Zz
 | _,[]=>([],[])
 | k,.d x::r=>(.d x::(Xp (k+1) r).1,(Xp (k+1) r).2)
 | k,.own s l::r=>(.sl k l.length::(Xp (k+1) r).1,(k,.row s l 0)::(Xp (k+1) r).2)
 | k,.tup _::r=>(.dead::(Xp (k+1) r).1,(Xp (k+1) r).2)
def Yp:Nat→List AV
 | 0=>[]
 | n+1=>.dead::Yp n
def Cs (n:Nat) (Jj:List CV):AS:=⟨(Xp 80000 Jj).1++Yp (n-Jj.length),(Xp 80000 Jj).2⟩
theorem O3:∀ {o:Zz} {k:Nat} {x:Obj},lk o k=none→upd o k x=o++[(k,x)]
 | [],_,_,_=>rfl
 | (j,p)::r,k,x,h=>by
  simp only [lk] at h;by_cases Zsx:k=j
  ·rw [if_pos Zsx] at h;cases h
  ·rw [if_neg Zsx] at h;simp only [upd,if_neg Zsx,List.cons_append,O3 h]
theorem Tf {base:Nat} {pass:Nat→Prop} {F0:Anc} {m:Nat→Nat} {w:World}:∀ {Jj:List CV} {vs:List Value} {k:Nat} {os:Zz} {G:Gh},SRg base pass F0 m G ⟨[],os⟩ ⟨#[],[]⟩ w→Wn ⟨w,m⟩ Jj vs→(Qf Jj vs).Nodup →
  (∀ b∈Qf Jj vs,(base≤b∨pass b)∧∀ i oi,lk os i=some oi→oi.owns=true→G.γ i≠some b)→(∀ j,k≤j→lk os j=none) →
  ∃ G',Wc G (lk os) G' (lk (os++(Xp k Jj).2))∧SRg base pass F0 m G' ⟨[],os++(Xp k Jj).2⟩ ⟨#[],[]⟩ w∧RAs ⟨w,m⟩ G' (lk (os++(Xp k Jj).2)) (Xp k Jj).1 vs
 | [],vs,k,os,G,h,hc,_,_,_=>by
  simp only [Wn] at hc;subst hc;simp only [Xp,List.append_nil];exact ⟨G,Wc.refl _ _,h,by simp [RAs]⟩
 | .tup l::Jj,vs,k,os,G,h,hc,_,_,_=>by
  simp only [Wn,eP] at hc;obtain ⟨_,_,_,hf,_⟩:=hc;exact hf.elim
 | .d x::Jj,vs,k,os,G,h,hc,hn,hb,hk=>by
  simp only [Wn,eP] at hc;obtain ⟨v,r,rfl,hx,dG⟩:=hc;obtain ⟨G',q1,q2,q3⟩:=Tf (k:=k+1) h dG (by simpa [Qf] using hn) (fun b V3=>hb b (by simpa [Qf] using V3)) (fun j hj=>hk j (by omega))
  simp only [Xp];refine ⟨G',q1,q2,?_⟩;simp only [RAs,RA];exact ⟨v,r,rfl,hx,q3⟩
 | .own s l::Jj,vs,k,os,G,h,hc,hn,hb,hk=>by
  simp only [Wn,eP] at hc;obtain ⟨v,r,rfl,hx,dG⟩:=hc;have Ei:Qf (.own s l::Jj) (v::r)=v.ownBlock.toList++Qf Jj r:=rfl;rw [Ei] at hn hb;obtain ⟨n1,n2,n3⟩:=List.nodup_append.1 hn;have Lf:=hk k (Zk _);obtain ⟨G1,q1,q2,q3,q4,q5⟩:=h.adopt Lf hx (fun b V3=>hb b (List.mem_append_left _ (by simp [V3])))
  rw [O3 Lf] at q1 q2 q3;obtain ⟨G',p1,p2,p3⟩:=Tf (k:=k+1) (os:=os++[(k,.row s l 0)]) q2 dG n2 (fun b V3=>by
   refine ⟨(hb b (List.mem_append_right _ V3)).1,fun i oi hi ho hg=>?_⟩;rw [←O3 Lf,Jb] at hi;by_cases Zo8:i=k
   ·subst Zo8;exact n3 b (by simp [q5 b hg]) b V3 rfl
   ·rw [if_neg Zo8] at hi;rw [q4 i Zo8] at hg;exact (hb b (List.mem_append_right _ V3)).2 i oi hi ho hg) (fun j hj=>by
   rw [←O3 Lf,Jb,if_neg (by omega)]
   exact hk j (by omega))
  simp only [Xp];simp only [List.append_assoc,List.singleton_append] at p1 p2 p3;refine ⟨G',?_,p2,?_⟩
  ·exact Wc.trans q1 p1
  ·simp only [RAs];exact ⟨v,r,rfl,RA.mono (Fix.le_refl _) p1 q3,p3⟩
theorem Wn.length {F:Fix}:∀ {l:List CV} {vs:List Value},Wn F l vs→vs.length=l.length
 | [],_,h=>by simp only [Wn] at h;simp [h]
 | _::l,_,h=>by
  simp only [Wn] at h;obtain ⟨v,r,rfl,_,h3⟩:=h;simp [Wn.length h3]
theorem S9 {F:Fix} {G:Gh} {L:Nat→Option Obj}:∀ n,RAs F G L (Yp n) (List.replicate n undef)
 | 0=>by simp [Yp,RAs]
 | n+1=>by simp only [Yp,List.replicate_succ,RAs,RA];exact ⟨undef,_,rfl,trivial,S9 n⟩
def jB (a:Act):ResultVar→Sem Value
 | .tmp t=>pure (a.tmps.getD t undef)
 | .cell t T=>do loadVar T (←asAddr (a.tmps.getD t undef))
theorem pF {P:Program} {w:World} {T:TypeId} {v v':Value} (h:(Instr.loadAt T v).run P w=.ok v' w):(do loadVar T (←asAddr v):Sem Value).run P w=.ok v' w:=by
 cases v with
 | pointer a =>
  cases a with
  | none=>simp [Instr.loadAt,Instr.sureAddr] at h
  | some a=>simpa [Instr.loadAt,Instr.sureAddr,asAddr] using h
 | _=>simp [Instr.loadAt,Instr.sureAddr] at h
section
variable {P:Program} {C:Ctx} {base:Nat} {pass:Nat→Prop} {F0:Anc} {m:Nat→Nat} {G:Gh} {st:AS} {a:Act} {w:World}
theorem mQ (T:J1 P C.τ) (h:SRg base pass F0 m G st a w) {r:ResultVar} {c:Prop} {x:AV}
  (hr:fE C st r=some (c,x)) (hc:c):∃ v,(jB a r).run P w=.ok v w∧RA ⟨w,m⟩ G (lk st.objs) x v:=by
 cases r with
 | tmp t =>
  simp only [fE,Zb,Zc] at hr;obtain ⟨rfl,rfl⟩:=hr;exact ⟨_,rfl,Xj (C:=C) (hint:=0) h.tmps (.tmp t)⟩
 | cell t T' =>
  simp only [fE] at hr;split at hr
  ·next c1 y os hl =>
   simp only [Zb,Zc] at hr;obtain ⟨rfl,rfl⟩:=hr;have hp:=Xj (C:=C) (hint:=0) h.tmps (.tmp t);obtain ⟨_,v,r1,r2⟩:=sB (P:=P) T h hp hl hc;exact ⟨v,pF r1,r2⟩
  ·cases hr
theorem Bg (T:J1 P C.τ) (h:SRg base pass F0 m G st a w):∀ {rs:List ResultVar} {c:Prop} {xs:List AV},Bh C st rs=some (c,xs)→c →
  ∃ vs,(rs.mapM (jB a)).run P w=.ok vs w∧RAs ⟨w,m⟩ G (lk st.objs) xs vs
 | [],c,xs,hr,hc=>by
  simp only [Bh,Zb,Zc] at hr;obtain ⟨rfl,rfl⟩:=hr;exact ⟨[],by simp,by simp [RAs]⟩
 | r::rs,c,xs,hr,hc=>by
  simp only [Bh] at hr;split at hr
  ·next c1 x c2 l h1 h2 =>
   simp only [Zb,Zc] at hr;obtain ⟨rfl,rfl⟩:=hr;obtain ⟨v,e1,e2⟩:=mQ T h h1 hc.1;obtain ⟨vs,g1,g2⟩:=Bg T h h2 hc.2;refine ⟨v::vs,by simp [List.mapM_cons,e1,g1],?_⟩
   simp only [RAs];exact ⟨v,vs,rfl,e2,g2⟩
  ·cases hr
def bJ:List Value→Value
 | [v]=>v
 | vs=>.tuple vs.toArray
theorem Iw {fn:Func} {vs:List Value} (h:(fn.results.toList.mapM (jB a)).run P w=.ok vs w):(results fn a.tmps).run P w=.ok (bJ vs) w:=by
 have e:results fn a.tmps=(do
   let us ←List.toArray <$> fn.results.toList.mapM (jB a)
   pure (if h:us.size=1 then us[0] else .tuple us)):=by
  unfold results
  congr 1
  rw [Array.mapM_eq_mapM_toList];rfl
 rw [e];simp only [Sem.run_bind,Sem.run_map,h,Result.andThen_ok,Sem.run_pure]
 match vs with
 | []=>simp [bJ]
 | [v]=>simp [bJ]
 | _::_::_=>simp [bJ]
theorem Zac (K:He P C) {f:FuncId} {fn:Func} {c:Code} {con:Con} (hf:P.funcs[f]?=some fn) (hb:fn.body=some c) (rs:List ResultVar) (xF:fn.results.toList=rs) (nt:Nat) (Rt:fn.ntmps=nt)
  (h:∀ Jj,con.pre Jj→V4 C c (Zcm C rs con.outs (con.fn Jj)) (Cs nt Jj)):Zas P f con:=by
 intro m w Jj vs Zo kR Ek Yl;subst Rt;subst xF;refine calls_of_wp hf hb ?_;have Qd:∀ (l:List CV) (us:List Value),Wn ⟨w,m⟩ l us→∀ b∈Qf l us,b<w.heap.size:=by
  intro l
  induction l with
  | nil=>intro us hu b hb;simp [Qf] at hb
  | cons x l ih =>
   intro us hu b hb;simp only [Wn] at hu;obtain ⟨u,r,rfl,oU,Zop⟩:=hu;have Ei:Qf (x::l) (u::r)=Qf [x] [u]++Qf l r:=by cases x<;>simp [Qf]
   rw [Ei] at hb;rcases List.mem_append.1 hb with hb|hb
   ·cases x with
    | own s els =>
     simp [Qf] at hb;exact (dE.lt oU hb).1
    | _=>simp [Qf] at hb
   ·exact ih r Zop b hb
 have h0:SRg w.heap.size (·∈Qf Jj vs) ⟨⟨w,m⟩,⟨fun _=>none,fun _=>undef⟩,fun _=>none⟩ m ⟨fun _=>none,fun _=>undef⟩ ⟨[],[]⟩ ⟨#[],[]⟩ w :=
  ⟨rfl,by simp [RAs],fun i o hi=>by simp [lk] at hi,fun i j oi oj b hi=>by simp [lk] at hi,fun i o b hi=>by simp [lk] at hi,Frame.refl _ _ _,fun _ _ _=>rfl,Yl,Zk _,fun i o hi=>by cases hi⟩
 obtain ⟨G,q1,q2,q3⟩:=Tf (k:=80000) (os:=[]) h0 kR Ek (fun b hb=>⟨.inr hb,fun i oi hi=>by simp [lk] at hi⟩) (fun _ _=>rfl)
 simp only [List.nil_append] at q1 q2 q3;have Js:=Wn.length kR;have hs:SRg w.heap.size (·∈Qf Jj vs) ⟨⟨w,m⟩,⟨fun _=>none,fun _=>undef⟩,fun _=>none⟩ m G (Cs fn.ntmps Jj) { tmps:=vs.toArray++Array.replicate (fn.ntmps-vs.toArray.size) undef,defers:=[] } w:=by
  refine ⟨rfl,?_,q2.objs,q2.apart,q2.mine,q2.frame,q2.old,q2.new,q2.small,q2.lent⟩;have:=RAs.append q3 (S9 (F:=⟨w,m⟩) (G:=G) (L:=lk (Xp 80000 Jj).2) (fn.ntmps-Jj.length));simpa [Cs,Js] using this
 have fin:∀ (st:AS) (a:Act) (w':World),SR w.heap.size (·∈Qf Jj vs) ⟨⟨w,m⟩,⟨fun _=>none,fun _=>undef⟩,fun _=>none⟩ st a w'→lU C fn.results.toList con.outs (con.fn Jj) st →
   a.defers=[]∧∃ v,(results fn a.tmps).run P w'=.ok v w'∧∃ u m',Ending.returned v=.returned u∧Frame w.heap.size (·∈Qf Jj vs) w w'∧(∀ b,b<w.heap.size→b∉Qf Jj vs→m' b=m b) ∧
    (∀ b,w'.heap.size≤b→m' b=0)∧oC ⟨w',m'⟩ w.heap.size (·∈Qf Jj vs) (con.fn Jj) u:=by
  intro st a w' ⟨m1,G1,Oy⟩ Ti;unfold lU at Ti;split at Ti
  ·next c1 xs Zso =>
   split at Ti
   ·next c2 cvs2 os Em =>
    obtain ⟨A0,kS,eU⟩:=Ti;obtain ⟨us,e1,e2⟩:=Bg K.1 Oy Zso A0;obtain ⟨m2,k1,k2,k3,k4,k5⟩:=Fk Oy Em kS e2;refine ⟨Oy.defers,_,Iw e1,_,m2,rfl,k1.frame,fun b hb Ls=>k1.old b hb Ls,k1.new,?_⟩;split at eU
    ·next x =>
     simp only [Wn] at k3;obtain ⟨v,r,rfl,hx,rfl⟩:=k3;rw [←eU];cases x with
     | tup l=>simp [eP] at hx
     | d x =>
      simp only [oC];exact ⟨⟨v,[],rfl,hx,rfl⟩,fun b hb=>(k5 b hb).1⟩
     | own s l =>
      simp only [oC];exact ⟨⟨v,[],rfl,hx,rfl⟩,fun b hb=>(k5 b hb).1⟩
    ·next Gk =>
     rw [←eU];simp only [oC];refine ⟨us,?_,k3,k4,fun b hb=>(k5 b hb).1⟩
     match us,Wn.length k3 with
     | [u],hl =>
      match cvs2,hl with
      | [x],_=>exact absurd rfl (Gk x)
     | [],_=>rfl
     | _::_::_,_=>rfl
   ·exact Ti.elim
  ·exact Ti.elim
 refine Ux K c ?_ ⟨m,G,hs⟩ (h Jj Zo);intro e st a w' lQ Wy;cases e with
 | normal=>exact fin st a w' lQ Wy
 | ret=>exact fin st a w' lQ Wy
 | exit id=>exact Wy.elim
def fI:List D→D
 | [d]=>d
 | l=>.tup l
def Rk (n:Nat) (qs:List Nat):Prop:=∀ j,j<n→qs[j]?=some (90000+j)
def yI (C:Ctx) (rs:List ResultVar) (n:Nat) (res:D) (post:List Obj) (st:AS):Prop:=match Bh C st rs with
 | some (c,xs)=>match purs C.dp xs st.objs with
  | some (c',ds,os)=>c∧c'∧fI ds=res∧∃ qs:List Nat,qs.Nodup∧qs.length=post.length∧Rk n qs∧Zh qs qs post os
  | none=>False
 | none=>False
def V9 (C:Ctx) (rs:List ResultVar) (n:Nat) (res:D) (post:List Obj):AExit→AS→Prop
 | .exit _,_=>False
 | _,st=>yI C rs n res post st
def yH (C:Ctx) (rs:List ResultVar) (n j:Nat) (post:List Obj) (st:AS):Prop:=match Bh C st rs with
 | some (c,[.mpr k])=>c∧∃ qs:List Nat,qs.Nodup∧qs.length=post.length∧Rk n qs∧Zh qs qs post st.objs∧qs[j]?=some k
 | _=>False
def Zau (C:Ctx) (rs:List ResultVar) (n j:Nat) (post:List Obj):AExit→AS→Prop
 | .exit _,_=>False
 | _,st=>yH C rs n j post st
theorem Zbr {F:Fix} {ds:List D} {us:List Value} (h:Rs F ds us):R F (fI ds) (bJ us):=by
 match ds,us,h with
 | [],us,h =>
  simp only [Rs] at h;subst h;simp only [fI,bJ,R,Rs];exact ⟨[],rfl,rfl⟩
 | [d],us,h =>
  simp only [Rs] at h;obtain ⟨v,r,rfl,h2,rfl⟩:=h;exact h2
 | d::e::l,us,h =>
  have h':=h;simp only [Rs] at h;obtain ⟨v,r,rfl,h2,v',r',rfl,h3,h4⟩:=h;simp only [fI,bJ,R];exact ⟨_,rfl,h'⟩
theorem wZ (K:He P C) {f:FuncId} {fn:Func} {c:Code} {bc:BCon} (hf:P.funcs[f]?=some fn) (hb:fn.body=some c) (rs:List ResultVar) (xF:fn.results.toList=rs) (nt:Nat) (Rt:fn.ntmps=nt)
  (h:∀ x,bc.ok x→Xg (bc.args x) (bc.objs x)∧Zx (bc.objs x)∧Xg [] (bc.post x)∧(bc.objs x).length≤(bc.post x).length ∧
   V4 C c (V9 C rs (bc.objs x).length (bc.res x) (bc.post x)) ⟨bc.args x++Yp (nt-(bc.args x).length),Zq (bc.objs x)⟩) (dM:∀ x,bc.out x=none:=by intro _;rfl):rH P f bc:=by
 intro x Xr;obtain ⟨h1,h2,h3,h4,h5⟩:=h x Xr;refine ⟨h1,h2,h3,h4,fun m w G vs lQ=>?_⟩;subst Rt;subst xF;refine calls_of_wp hf hb ?_;have Js:=RAs.length (by simpa using lQ.tmps:RAs ⟨w,m⟩ G (lk (Zq (bc.objs x))) (bc.args x) vs)
 have hs:SRg w.heap.size (U5 G (bc.objs x)) ⟨⟨w,m⟩,G,lk (Zq (bc.objs x))⟩ m G ⟨bc.args x++Yp (fn.ntmps-(bc.args x).length),Zq (bc.objs x)⟩
   { tmps:=vs.toArray++Array.replicate (fn.ntmps-vs.toArray.size) undef,defers:=[] } w:=by
  refine ⟨rfl,?_,lQ.objs,lQ.apart,lQ.mine,lQ.frame,lQ.old,lQ.new,lQ.small,lQ.lent⟩;have:=RAs.append (by simpa using lQ.tmps:RAs ⟨w,m⟩ G (lk (Zq (bc.objs x))) (bc.args x) vs) (S9 (F:=⟨w,m⟩) (G:=G) (L:=lk (Zq (bc.objs x))) (fn.ntmps-(bc.args x).length))
  simpa [Js] using this
 have fin:∀ (st:AS) (a:Act) (w':World),SR w.heap.size (U5 G (bc.objs x)) ⟨⟨w,m⟩,G,lk (Zq (bc.objs x))⟩ st a w'→yI C fn.results.toList (bc.objs x).length (bc.res x) (bc.post x) st →
   a.defers=[]∧∃ v,(results fn a.tmps).run P w'=.ok v w'∧∃ u m' G',Ending.returned v=.returned u∧RA ⟨w',m'⟩ G' (lk (Zq (bc.post x))) (bc.rv x) u ∧
    SRg w.heap.size (U5 G (bc.objs x)) ⟨⟨w,m⟩,G,lk (Zq (bc.objs x))⟩ m' G' ⟨[],Zq (bc.post x)⟩ ⟨#[],[]⟩ w':=by
  intro st a w' ⟨m1,Gf,Oy⟩ Ti;unfold yI at Ti;split at Ti
  ·next c1 xs Zso =>
   split at Ti
   ·next c2 ds os hpu =>
    obtain ⟨A0,kS,Zvd,qs,Ek,Ztw,Zpk,Uf⟩:=Ti;obtain ⟨us,e1,e2⟩:=Bg K.1 Oy Zso A0;obtain ⟨m2,k1,_,k3⟩:=purs_sound' Oy hpu kS e2;have Zcy:∀ {j j' k:Nat},qs[j]?=some k→qs[j']?=some k→j=j':=by
     intro j j' k h1 h2;obtain ⟨hj,e1⟩:=List.getElem?_eq_some_iff.1 h1;obtain ⟨hj',e2⟩:=List.getElem?_eq_some_iff.1 h2;have hp:=List.pairwise_iff_getElem.1 Ek;rcases Nat.lt_trichotomy j j' with Qd|eX|Zpa
     ·exact absurd (e1.trans e2.symm) (hp j j' hj hj' Qd)
     ·exact eX
     ·exact absurd (e2.trans e1.symm) (hp j' j hj' hj Zpa)
    let G':Gh:=⟨fun i=>Gf.γ (rk qs i),fun i=>Gf.hd (rk qs i)⟩
    have al:Alike qs (bc.post x) G' Gf (lk os):=⟨fun i o hi=>by
     obtain ⟨j,rfl,hj⟩:=Xv hi;obtain ⟨k,hk,eZ⟩:=Wd Uf hj;rw [Nq hk];exact eZ,fun i o hi=>⟨rfl,rfl⟩⟩
    refine ⟨Oy.defers,_,Iw e1,_,m2,G',rfl,by unfold BCon.rv;rw [dM x];simp only [RA];rw [←Zvd];exact Zbr k3,?_⟩
    constructor
    ·rfl
    ·simp [RAs]
    ·intro i o hi;obtain ⟨j,rfl,hj⟩:=Xv hi;exact (bQ al hi (P9 h3.2 hj)).2 (k1.objs _ _ (al.obj _ _ hi))
    ·intro i i' o o' b hi hi' ho ho' hb hb';have e:=k1.apart _ _ _ _ b (al.obj _ _ hi) (al.obj _ _ hi') (by rw [Y8];exact ho) (by rw [Y8];exact ho') hb hb'
     obtain ⟨j,rfl,hj⟩:=Xv hi;obtain ⟨j',rfl,hj'⟩:=Xv hi';obtain ⟨k,hk,_⟩:=Wd Uf hj;obtain ⟨k',hk',_⟩:=Wd Uf hj';rw [Nq hk,Nq hk'] at e;subst e;rw [Zcy hk hk']
    ·intro i o b hi ho hb;exact k1.mine _ _ b (al.obj _ _ hi) (by rw [Y8];exact ho) hb
    ·exact k1.frame
    ·exact k1.old
    ·exact k1.new
    ·exact k1.small
    ·intro i o hi;obtain ⟨Nd,o',ho',hw⟩:=k1.lent i o hi;obtain ⟨j,rfl,hj⟩:=Xv hi;have Zs0:j<(bc.objs x).length:=(List.getElem?_eq_some_iff.1 hj).1;have Zvv:j<(bc.post x).length:=by omega
     have hp:=Zd (l:=bc.post x) Zvv;obtain ⟨k,hk,eZ⟩:=Wd Uf hp;rw [Zpk j Zs0] at hk;injection hk with hk
     subst hk;simp only at ho';rw [eZ] at ho';injection ho' with ho'
     subst ho';have eg:G'.γ (90000+j)=Gf.γ (90000+j):=by show Gf.γ (rk qs (90000+j))=_;rw [Nq (Zpk j Zs0)]
     have eh:G'.hd (90000+j)=Gf.hd (90000+j):=by show Gf.hd (rk qs (90000+j))=_;rw [Nq (Zpk j Zs0)]
     refine ⟨Nd,_,Yu hp,fun hb=>?_,fun s els' k' he=>?_,fun t l' he=>?_⟩;rotate_left 2
     ·obtain ⟨l,f1,f2,f3⟩:=hw.2.2 t l' (bZ.2 he);refine ⟨l,f1,f2,fun eX=>?_⟩;obtain ⟨q1,q2⟩:=f3 eX;exact ⟨eg.trans q1,eh.trans q2⟩
     ·obtain ⟨w1,w2⟩:=hw.1 (by rw [H7];exact hb)
      exact ⟨w1,eg.trans w2⟩
     ·obtain ⟨els,k0,f1,f2,f3⟩:=hw.2.1 s els' k' (jA.2 he);refine ⟨els,k0,f1,f2,fun eX=>?_⟩;obtain ⟨q1,q2⟩:=f3 eX;exact ⟨eg.trans q1,eh.trans q2⟩
   ·exact Ti.elim
  ·exact Ti.elim
 refine Ux K c ?_ ⟨m,G,hs⟩ h5;intro e st a w' lQ Wy;cases e with
 | normal=>exact fin st a w' lQ Wy
 | ret=>exact fin st a w' lQ Wy
 | exit id=>exact Wy.elim
end
mutual
def zD:D→Value→Bool
 | .int k n,.int k' n'=>k==k'&&n==n'
 | .bool b,.bool b'=>b==b'
 | .str s,.string b=>s==b.data.toList
 | .nilf,.nilFunc=>true
 | .nilp,.pointer none=>true
 | .nilm,.map none=>true
 | .list _ l,.slice none 0 0=>l.isEmpty
 | .agg l,.agg cs=>zDs l cs.toList&&cs.toList.all (·.oneCell')
 | _,_=>false
def zDs:List D→List Value→Bool
 | [],[]=>true
 | x::l,v::vs=>zD x v&&zDs l vs
 | _,_=>false
end
mutual
def zA:AV→Value→Bool
 | .d x,v=>zD x v
 | .nils _,.slice none 0 0=>true
 | .agg l,.agg cs=>zAs l cs.toList&&cs.toList.all (·.oneCell')
 | _,_=>false
def zAs:List AV→List Value→Bool
 | [],[]=>true
 | x::l,v::vs=>zA x v&&zAs l vs
 | _,_=>false
end
mutual
theorem zD_sound:∀ {x:D} {v:Value},zD x v=true→∀ F,R F x v
 | .int k n,v,h,F=>by
  cases v<;>simp only [zD,Zl,Ze,Zi] at h;simp only [R];rw [h.1,h.2]
 | .bool b,v,h,F=>by
  cases v<;>simp only [zD,Zl,Zi] at h;simp only [R];rw [h]
 | .str s,v,h,F=>by
  cases v<;>simp only [zD,Zl,Zi] at h;simp only [R];rw [h]
 | .nilf,v,h,F=>by
  cases v<;>simp only [zD,Zl] at h;simp only [R]
 | .nilm,v,h,F=>by
  cases v with
  | map a=>cases a<;>simp only [zD,Zl] at h;simp only [R]
  | _=>simp only [zD,Zl] at h
 | .nilp,v,h,F=>by
  cases v with
  | pointer a=>cases a<;>simp only [zD,Zl] at h;simp only [R]
  | _=>simp only [zD,Zl] at h
 | .list s l,v,h,F=>by
  cases v with
  | slice A n c =>
   cases A with
   | some A=>simp only [zD,Zl] at h
   | none =>
    cases n with
    | succ n=>simp only [zD,Zl] at h
    | zero =>
     cases c with
     | succ c=>simp only [zD,Zl] at h
     | zero =>
      simp only [zD,List.isEmpty_iff] at h;subst h;simp only [R];exact ⟨none,0,rfl,by simp,by simp [maxLen],by simp⟩
  | _=>simp only [zD,Zl] at h
 | .agg l,v,h,F=>by
  cases v with
  | agg cs =>
   simp only [zD,Ze,List.all_eq_true] at h;simp only [R];exact ⟨cs.toList,by simp,zDs_sound h.1 F,h.2⟩
  | _=>simp only [zD,Zl] at h
 | .tup l,v,h,F=>by cases v<;>simp only [zD,Zl] at h
 | .ptr s x,v,h,F=>by cases v<;>simp only [zD,Zl] at h
 | .clo f l,v,h,F=>by cases v<;>simp only [zD,Zl] at h
theorem zDs_sound:∀ {l:List D} {vs:List Value},zDs l vs=true→∀ F,Rs F l vs
 | [],vs,h,F=>by
  cases vs with
  | nil=>simp only [Rs]
  | cons=>simp only [zDs,Zl] at h
 | x::l,vs,h,F=>by
  cases vs with
  | nil=>simp only [zDs,Zl] at h
  | cons v vs =>
   simp only [zDs,Ze] at h;simp only [Rs];exact ⟨v,vs,rfl,zD_sound h.1 F,zDs_sound h.2 F⟩
end
mutual
theorem zA_sound:∀ {x:AV} {v:Value},zA x v=true→∀ F G L,RA F G L x v
 | .d x,v,h,F,G,L=>by
  simp only [zA] at h;simp only [RA];exact zD_sound h F
 | .nils s,v,h,F,G,L=>by
  cases v with
  | slice A n c =>
   cases A with
   | some A=>simp only [zA,Zl] at h
   | none =>
    cases n with
    | succ n=>simp only [zA,Zl] at h
    | zero =>
     cases c with
     | succ c=>simp only [zA,Zl] at h
     | zero=>simp only [RA]
  | _=>simp only [zA,Zl] at h
 | .agg l,v,h,F,G,L=>by
  cases v with
  | agg cs =>
   simp only [zA,Ze,List.all_eq_true] at h;simp only [RA];exact ⟨cs.toList,by simp,zAs_sound h.1 F G L,h.2⟩
  | _=>simp only [zA,Zl] at h
 | .ref ..,v,h,F,G,L=>by cases v<;>simp only [zA,Zl] at h
 | .rref ..,v,h,F,G,L=>by cases v<;>simp only [zA,Zl] at h
 | .sl ..,v,h,F,G,L=>by cases v<;>simp only [zA,Zl] at h
 | .sb ..,v,h,F,G,L=>by cases v<;>simp only [zA,Zl] at h
 | .mpr ..,v,h,F,G,L=>by cases v<;>simp only [zA,Zl] at h
 | .tup ..,v,h,F,G,L=>by cases v<;>simp only [zA,Zl] at h
 | .clo ..,v,h,F,G,L=>by cases v<;>simp only [zA,Zl] at h
 | .dead,v,h,F,G,L=>by cases v<;>simp only [zA,Zl] at h
theorem zAs_sound:∀ {l:List AV} {vs:List Value},zAs l vs=true→∀ F G L,RAs F G L l vs
 | [],vs,h,F,G,L=>by
  cases vs with
  | nil=>simp only [RAs]
  | cons=>simp only [zAs,Zl] at h
 | x::l,vs,h,F,G,L=>by
  cases vs with
  | nil=>simp only [zAs,Zl] at h
  | cons v vs =>
   simp only [zAs,Ze] at h;simp only [RAs];exact ⟨v,vs,rfl,zA_sound h.1 F G L,zAs_sound h.2 F G L⟩
end
def T4 (P:Program):List Field→List (Nat×Nat)→Bool
 | [],[]=>true
 | f::l,p::r=>f.offset==p.1&&((P.info? f.type).map (·.size)==some p.2)&&decide (0<p.2)&&(p.2 != 1||(match P.underlying f.type with|some d=>To d|none=>false))&&T4 P l r
 | _,_=>false
theorem Dj {P:Program}:∀ {l:List Field} {r:List (Nat×Nat)},T4 P l r=true→r.length=l.length∧∀ (j:Nat) (f:Field) (p:Nat×Nat),l[j]?=some f→r[j]?=some p →
  f.offset=p.1∧(P.info? f.type).map (·.size)=some p.2∧0<p.2∧(p.2=1→∃ d',P.underlying f.type=some d'∧To d'=true)
 | [],[],_=>⟨rfl,fun j f p h=>by simp at h⟩
 | [],_::_,h=>by simp [T4] at h
 | _::_,[],h=>by simp [T4] at h
 | f::l,p::r,h=>by
  simp only [T4,Ze,Zi,decide_eq_true_eq,Bool.or_eq_true,bne_iff_ne] at h;obtain ⟨⟨⟨⟨h1,h2⟩,h3⟩,h4⟩,h5⟩:=h;obtain ⟨g1,g2⟩:=Dj h5;refine ⟨by simp [g1],fun j f' p' hj hp=>?_⟩
  cases j with
  | zero =>
   simp only [List.getElem?_cons_zero,Zb] at hj hp;subst hj;subst hp;refine ⟨h1,h2,h3,fun he=>?_⟩;rcases h4 with h4|h4
   ·exact absurd he h4
   ·split at h4
    ·next d hd=>exact ⟨d,hd,h4⟩
    ·cases h4
  | succ j =>
   simp only [List.getElem?_cons_succ] at hj hp;exact g2 j f' p' hj hp
def zG (P:Program) (τ:Nat→TI):TK→TypeDesc→Bool
 | .int k,.int k'=>k==k'
 | .bool,.bool=>true
 | .str,.string=>true
 | .slice e,.slice e'=>e==e'&&(τ e).kind.ag.isSome
 | .struct fs,.struct fields=>T4 P fields.toList fs
 | .array n e,.array n' e'=>n==n'&&e==e'&&(τ e).kind.ag==some false
 | .ptr e,.pointer e'=>e==e'
 | .map k e,.map k' e'=>k==k'&&e==e'
 | .func,.func ..=>true
 | _,_=>false
theorem mS {P:Program} {τ:Nat→TI} {k:TK} {d:TypeDesc} (h:zG P τ k d=true):k.is P τ d:=by
 cases k<;>cases d<;>simp only [zG,Zl,Zi,Ze] at h<;>simp only [TK.is]
 case int.int=>rw [h]
 case slice.slice=>exact ⟨by rw [h.1],h.2⟩
 case struct.struct fs fields =>
  obtain ⟨g1,g2⟩:=Dj h;exact ⟨fields,rfl,by simpa using g1,fun j f p hj hp=>g2 j f p (by simpa using hj) hp⟩
 case array.array=>exact ⟨by rw [h.1.1,h.1.2],h.2⟩
 case ptr.pointer=>rw [h]
 case map.map=>rw [h.1,h.2]
 case func.func a b c=>exact ⟨a,b,c,rfl⟩
def SK.sameB:SK→TypeDesc→Bool
 | .int k,.int k'=>k==k'
 | .bool,.bool=>true
 | .str,.string=>true
 | _,_=>false
def iZ (P : Program) : Nat → List Field → List SK → Bool
  | _, [], [] => true
  | j, f :: fs, k :: ks => (f.name != "_") && f.offset == j && (match P.underlying f.type with
    | some d => k.sameB d
    | none => false) && iZ P (j + 1) fs ks
  | _, _, _ => false
def Zt9 (P:Program) (t:Nat):List SK→Bool
 | []=>true
 | ks=>(match P.underlying t with
  | some (.struct _)=>true
  | _=>false)&&!P.stoodInHeld t&&!P.eqGuardType P.depth t&&iZ P 0 (P.fieldsOf t).toList ks
theorem I7 {P:Program}:∀ {j:Nat} {fs:List Field} {ks:List SK},iZ P j fs ks=true→Zcb P j fs ks
 | _,[],[],_=>trivial
 | _,[],_::_,h=>by simp [iZ] at h
 | _,_::_,[],h=>by simp [iZ] at h
 | j,f::fs,k::ks,h=>by
  simp only [iZ,Ze,bne_iff_ne,Zi] at h;obtain ⟨⟨⟨h1,h2⟩,h3⟩,h4⟩:=h;refine ⟨h1,h2,?_,I7 h4⟩;split at h3
  ·next d hd =>
   rw [hd];cases k<;>cases d<;>simp only [SK.sameB,Zl,Zi] at h3<;>first|rfl|(subst h3;rfl)
  ·cases h3
theorem wC {P:Program} {t:Nat} {ks:List SK} (h:Zt9 P t ks=true) (hk:ks≠[]):Zoo P t ks:=by
 cases ks with
 | nil=>exact absurd rfl hk
 | cons k ks =>
  simp only [Zt9,Ze,Bool.not_eq_true'] at h;obtain ⟨⟨⟨h1,h2⟩,h3⟩,h4⟩:=h;refine ⟨?_,h2,h3,I7 h4⟩;unfold Program.fieldsOf;split at h1
  ·next fs he=>simp [he]
  ·cases h1
def Zt6 (P:Program) (τ:Nat→TI) (t:Nat) (ti:TI):Bool:=match P.underlying t,P.info? t with
 | some d,some i=>zG P τ ti.kind d&&i.size==ti.size&&i.bytes==ti.bytes&&decide (0<ti.size)&&Zt9 P t ti.eqk&&(match i.zero with
  | some z=>zA ti.zero z&&zD ti.zd z&&z.cells.size==ti.size&&z.cells.toList.all (·.oneCell')
  | none=>false)
 | _,_=>false
theorem uW {P:Program} {τ:Nat→TI} {t:Nat} (h:Zt6 P τ t (τ t)=true):TyOk P τ t:=by
 unfold Zt6 at h;split at h
 ·next d i hd hi =>
  simp only [Ze,Zi,decide_eq_true_eq] at h;obtain ⟨⟨⟨⟨⟨h1,h2⟩,h3⟩,h4⟩,hq⟩,h5⟩:=h;split at h5
  ·next z hz =>
   simp only [Ze,Zi,List.all_eq_true] at h5;obtain ⟨⟨⟨g1,g2⟩,g3⟩,g4⟩:=h5;exact ⟨⟨d,hd,mS h1⟩,⟨i,z,hi,h2,h3,hz,zA_sound g1,zD_sound g2,g3,g4⟩,h4,wC hq⟩
  ·cases h5
 ·cases h
def Zna:List (Nat×TI)→Nat→TI
 | [],_=>⟨.other,0,0,.dead,.nilp,[]⟩
 | (j,x)::r,i=>if i=j then x else Zna r i
theorem sC:∀ {tt:List (Nat×TI)} {t:Nat},(Zna tt t).kind.ag.isSome=true→(t,Zna tt t)∈tt
 | [],t,h=>by simp [Zna,TK.ag] at h
 | (j,x)::r,t,h=>by
  simp only [Zna] at h ⊢;by_cases Zxn:t=j
  ·subst Zxn;simp
  ·rw [if_neg Zxn] at h ⊢;exact List.mem_cons_of_mem _ (sC h)
theorem yB {P:Program} {tt:List (Nat×TI)} (h:tt.all (fun p=>Zt6 P (Zna tt) p.1 p.2)=true):J1 P (Zna tt):=by
 intro t ht;exact uW (List.all_eq_true.1 h _ (sC ht))
theorem Xc {P : Program} {f : FuncId} {fn : Func} (hf : P.funcs[f]? = some fn) (h1 : (fn.name == "runtime.NumGoroutine") = false) (h2 : fn.body.isNone = false) : Ph P f := by
  intro args w
  have h1' : ¬ fn.name = "runtime.NumGoroutine" := by simpa using h1
  have h2' : ¬ fn.body = none := by
    intro h
    rw [h] at h2
    simp at h2
  simp [callFunc, hf, h1', h2']
class Enc (α:Type) where
 enc:α→D
 dec:D→α
 dec_enc:∀ a,dec (enc a)=a
open Enc (enc dec)
def Tu (α:Type) [Enc α] (x:D):Prop:=x=enc (dec x:α)
theorem Xi {α:Type} [Enc α] (a:α):Tu α (enc a):=by unfold Tu;rw [Enc.dec_enc]
instance encInt:Enc Int:=⟨.int .i64,D.i,fun _=>rfl⟩
instance encBool:Enc Bool:=⟨.bool,D.b,fun _=>rfl⟩
instance encStr:Enc (List UInt8):=⟨.str,D.s,fun _=>rfl⟩
class Sz (α:Type) where
 sz:Nat
instance szInt:Sz Int:=⟨1⟩
instance szBool:Sz Bool:=⟨1⟩
instance szStr:Sz (List UInt8):=⟨1⟩
structure Sl (α:Type) where
 l:List α
instance encSl {α:Type} [Enc α] [Sz α]:Enc (Sl α):=⟨fun a=>.list (Sz.sz α) (a.l.map enc),fun x=>⟨x.l.map dec⟩,fun a=>by
 show Sl.mk ((a.l.map enc).map dec)=a;rw [List.map_map];have:(dec∘enc:α→α)=id:=funext fun x=>Enc.dec_enc x;rw [this,List.map_id]⟩
instance szSl {α:Type}:Sz (Sl α):=⟨1⟩
section
variable {k k':IntKind} {n:Int} {s s':Nat} {l:List D} {b:Bool} {x:D} {bs:List UInt8} {f:Nat}
theorem sN:D.i (.int k n)=n:=rfl
theorem kA:D.b (.bool b)=b:=rfl
theorem sX:D.s (.str bs)=bs:=rfl
theorem jH:D.l (.list s l)=l:=rfl
theorem Tt:D.isInt k (.int k' n)=(k'=k):=rfl
theorem Mo:D.isBool (.bool b)=True:=rfl
theorem Ts:D.isStr (.str bs)=True:=rfl
theorem Mn:D.isList s (.list s' l)=(s'=s):=rfl
theorem Hs:D.isAnyInt (.int k n)=True:=rfl
theorem Fz:D.fits s (.int k n)=(s=1):=rfl
theorem T3:D.fits s (.bool b)=(s=1):=rfl
theorem Fx:D.fits s (.str bs)=(s=1):=rfl
theorem T1:D.fits s (.list s' l)=(s=1):=rfl
theorem F4:D.fits s (.agg l)=(l.length=s):=rfl
theorem Fy:D.fits s (.ptr s' x)=(s=1):=rfl
theorem F3:D.fits s (.clo s' l)=(s=1):=rfl
theorem Tz:D.fits s .nilp=(s=1):=rfl
theorem T0:D.fits s .nilf=(s=1):=rfl
theorem nB {ks vs:List D}:D.fits s (.map ks vs)=(s=1):=rfl
theorem gT:D.fits s .nilm=(s=1):=rfl
theorem nO {ks vs:List D}:D.cell (.map ks vs) f=.map ks vs:=rfl
theorem Rh:D.cell (.int k n) f=.int k n:=rfl
theorem Cq:D.cell (.bool b) f=.bool b:=rfl
theorem Re:D.cell (.str bs) f=.str bs:=rfl
theorem Co:D.cell (.list s l) f=.list s l:=rfl
theorem Ri:D.cell (.clo s l) f=.clo s l:=rfl
theorem Rg:D.cell (.ptr s x) f=.ptr s x:=rfl
theorem Rj:D.cell (.agg l) f=l.getD f .nilp:=rfl
theorem Znc {n:Int}:D.i (enc n)=n:=rfl
theorem Znh {n:Bool}:D.b (enc n)=n:=rfl
theorem Zm3 {n:List UInt8}:D.s (enc n)=n:=rfl
theorem gG {n:Int}:D.isInt k (enc n)=(.i64=k):=rfl
theorem cJ {n:Bool}:D.isBool (enc n)=True:=rfl
theorem gE {n:List UInt8}:D.isStr (enc n)=True:=rfl
theorem hZ {n:Int}:D.fits s (enc n)=(s=1):=rfl
theorem iC {n:Int}:D.cell (enc n) f=enc n:=rfl
theorem hD {n:Bool}:D.fits s (enc n)=(s=1):=rfl
theorem iD {n:Bool}:D.cell (enc n) f=enc n:=rfl
theorem gU {n:List UInt8}:D.fits s (enc n)=(s=1):=rfl
theorem iB {n:List UInt8}:D.cell (enc n) f=enc n:=rfl
theorem Fj {n:Int}:D.isAnyInt (enc n)=True:=rfl
section
variable {α:Type} [Enc α] [Sz α] {a:Sl α}
theorem sG:D.l (enc a)=a.l.map enc:=rfl
theorem Bm:D.isList s (enc a)=(Sz.sz α=s):=rfl
theorem T2:D.fits s (enc a)=(s=1):=rfl
theorem Cp:D.cell (enc a) f=enc a:=rfl
end
theorem aQ:(dec (.int k n):Int)=n:=rfl
theorem Rb:(dec (.bool b):Bool)=b:=rfl
theorem O9:(dec (.str bs):List UInt8)=bs:=rfl
theorem Ra {α:Type} [Enc α] (a:α):(dec (enc a):α)=a:=Enc.dec_enc a
theorem O7:Tu Int (.int .i64 n)=True:=eq_true rfl
theorem Fi:Tu Bool (.bool b)=True:=eq_true rfl
theorem O6:Tu (List UInt8) (.str bs)=True:=eq_true rfl
theorem Fh {α:Type} [Enc α] (a:α):Tu α (enc a)=True:=eq_true (Xi a)
section
variable {α:Type} [Enc α] [Sz α]
theorem F9:(dec (.list s l):Sl α)=⟨l.map dec⟩:=rfl
theorem mT:Tu (Sl α) (.list s l)=(s=Sz.sz α∧∀ y∈l,Tu α y):=by
 apply propext;unfold Tu;constructor
 ·intro h;have h':D.list s l=D.list (Sz.sz α) ((l.map (dec:D→α)).map enc):=h;injection h' with h1 h2
  refine ⟨h1,fun y hy=>?_⟩;rw [List.map_map] at h2;have h3:l.map id=l.map ((enc:α→D)∘dec):=by rw [List.map_id];exact h2
  exact List.map_inj_left.1 h3 y hy
 ·rintro ⟨rfl,h⟩;show D.list (Sz.sz α) l=D.list (Sz.sz α) ((l.map (dec:D→α)).map enc);rw [List.map_map]
  congr 1
  conv=>lhs;rw [←List.map_id l]
  exact List.map_congr_left fun y hy=>h y hy
end
end
theorem sH {α:Type} [Enc α] {l:List α}:(∀ y∈l.map enc,Tu α y)=True:=eq_true (by
 intro y hy;obtain ⟨a,_,rfl⟩:=List.mem_map.1 hy;exact Xi a)
theorem Wv {α:Type} [Enc α] {l:List α}:(l.map enc).map (dec:D→α)=l:=by
 rw [List.map_map];have:(dec∘enc:α→α)=id:=funext fun x=>Enc.dec_enc x;rw [this,List.map_id]
theorem Xs {a b:Int}:(Jw a b=true)=(a<b):=by simp [Jw]
theorem Jl {a b:Int}:(Jw a b=false)=(b≤a):=by simp [Jw]
theorem Pt {a b:Int}:(Ju a b=true)=(a≤b):=by simp [Ju]
theorem Vu {a b:Int}:(Ju a b=false)=(b<a):=by simp [Ju]
theorem Ztk:Sz.sz Int=1:=rfl
theorem Ztl:Sz.sz Bool=1:=rfl
theorem Zti:Sz.sz (List UInt8)=1:=rfl
theorem Ztj {α:Type}:Sz.sz (Sl α)=1:=rfl
theorem Zng {b b':Bool}:(D.bool b=enc b')=(b=b'):=propext ⟨fun h=>by have h':D.bool b=D.bool b':=h;injection h',fun h=>by rw [h];rfl⟩
theorem Zrg {b b':Int}:(D.int .i64 b=enc b')=(b=b'):=propext ⟨fun h=>by have h':D.int .i64 b=D.int .i64 b':=h;injection h',fun h=>by rw [h];rfl⟩
theorem Zp3 {b b':List UInt8}:(D.str b=enc b')=(b=b'):=propext ⟨fun h=>by have h':D.str b=D.str b':=h;injection h',fun h=>by rw [h];rfl⟩
theorem Znb {α:Type} [Enc α] [Sz α] {s:Nat} {l:List D} {a:Sl α}:(D.list s l=enc a)=(s=Sz.sz α∧l=a.l.map enc):=propext ⟨fun h=>by have h':D.list s l=D.list (Sz.sz α) (a.l.map enc):=h;injection h' with h1 h2;exact ⟨h1,h2⟩,fun h=>by rw [h.1,h.2];rfl⟩
theorem Zrk {α:Type} [Enc α] {a b:α}:(enc a=enc b)=(a=b):=propext ⟨fun h=>by rw [←Enc.dec_enc a,h,Enc.dec_enc],fun h=>by rw [h]⟩
theorem Ztq {α:Type} {a b:List α}:(Sl.mk a=Sl.mk b)=(a=b):=propext ⟨fun h=>by injection h,fun h=>by rw [h]⟩
@[simp] theorem encI_def {n:Int}:(enc n:D)=.int .i64 n:=rfl
@[simp] theorem encB_def {n:Bool}:(enc n:D)=.bool n:=rfl
@[simp] theorem encS_def {n:List UInt8}:(enc n:D)=.str n:=rfl
theorem P4 {α:Type} {l:List α} {p:α→Bool} (d:α) (h:∀ j,j<l.length→p (l.getD j d)=true):l.all p=true:=by
 rw [List.all_eq_true];intro x hx;obtain ⟨j,hj,rfl⟩:=List.getElem_of_mem hx;have:=h j hj;simpa [hj] using this
theorem Rn {α:Type} {l:List α} {p:α→Bool} (d:α) (j:Nat) (hj:j<l.length) (h:p (l.getD j d)=false):l.all p=false:=by
 cases hc:l.all p with
 | false=>rfl
 | true =>
  rw [List.all_eq_true] at hc;have:=hc (l.getD j d) (by simp [hj])
  rw [h] at this;cases this
theorem Zof {α:Type} {l:List α} {p:α→Bool} (d:α) (j:Nat) (hj:j<l.length) (h:p (l.getD j d)=true):l.any p=true:=by
 rw [List.any_eq_true];exact ⟨l.getD j d,by simp [hj],h⟩
theorem Zck {α:Type} {l:List α} {p:α→Bool} (d:α) (h:∀ j,j<l.length→p (l.getD j d)=false):l.any p=false:=by
 cases hc:l.any p with
 | false=>rfl
 | true =>
  rw [List.any_eq_true] at hc;obtain ⟨x,hx,hp⟩:=hc;obtain ⟨j,hj,rfl⟩:=List.getElem_of_mem hx;have:=h j hj;simp [hj,hp] at this
theorem Zob {α:Type} {f:α→D} {l:List α} {i:Nat} (d:α) (h:i<l.length):el (l.map f) i=f (l.getD i d):=by
 simp [el,h]
theorem Qn {n:Int}:eD .i64 n↔-9223372036854775808≤n∧n≤9223372036854775807:=by
 unfold eD;constructor<;>intro h<;>simpa [IntKind.min,IntKind.max,IntKind.bits,IntKind.signed] using h
def Xd {A B:Type} [Enc A] [Enc B] (p:A→Prop) (f:A→B):Con:=⟨[false],[false],fun c=>match c with
 | [.d x]=>Tu A x∧p (dec x)
 | _=>False,fun c=>match c with
 | [.d x]=>.d (enc (f (dec x)))
 | _=>.d .nilp⟩
theorem Kv:type_of% @Xd.eq_def:=@Xd.eq_def
def Vy {A B R:Type} [Enc A] [Enc B] [Enc R] (p:A→B→Prop) (f:A→B→R):Con:=⟨[false,false],[false],fun c=>match c with
 | [.d x,.d y]=>Tu A x∧Tu B y∧p (dec x) (dec y)
 | _=>False,fun c=>match c with
 | [.d x,.d y]=>.d (enc (f (dec x) (dec y)))
 | _=>.d .nilp⟩
def kJ {A B C R:Type} [Enc A] [Enc B] [Enc C] [Enc R] (p:A→B→C→Prop) (f:A→B→C→R):Con:=⟨[false,false,false],[false],fun c=>match c with
 | [.d x,.d y,.d z]=>Tu A x∧Tu B y∧Tu C z∧p (dec x) (dec y) (dec z)
 | _=>False,fun c=>match c with
 | [.d x,.d y,.d z]=>.d (enc (f (dec x) (dec y) (dec z)))
 | _=>.d .nilp⟩
def Znf {A B R S:Type} [Enc A] [Enc B] [Enc R] [Enc S] (p:A→B→Prop) (f:A→B→R×S):Con:=⟨[false,false],[false,false],fun c=>match c with
 | [.d x,.d y]=>Tu A x∧Tu B y∧p (dec x) (dec y)
 | _=>False,fun c=>match c with
 | [.d x,.d y]=>.tup [.d (enc (f (dec x) (dec y)).1),.d (enc (f (dec x) (dec y)).2)]
 | _=>.d .nilp⟩
def Zne {A B C R S:Type} [Enc A] [Enc B] [Enc C] [Enc R] [Enc S] (p:A→B→C→Prop) (f:A→B→C→R×S):Con:=⟨[false,false,false],[false,false],fun c=>match c with
 | [.d x,.d y,.d z]=>Tu A x∧Tu B y∧Tu C z∧p (dec x) (dec y) (dec z)
 | _=>False,fun c=>match c with
 | [.d x,.d y,.d z]=>.tup [.d (enc (f (dec x) (dec y) (dec z)).1),.d (enc (f (dec x) (dec y) (dec z)).2)]
 | _=>.d .nilp⟩
def Pd {R:Type} [Enc R] (r:R):Con:=⟨[],[false],fun c=>match c with
 | []=>True
 | _=>False,fun _=>.d (enc r)⟩
theorem Ky:type_of% @Pd.eq_def:=@Pd.eq_def
theorem Qp {A B:Type} [Enc A] [Enc B] {p:A→Prop} {f:A→B} {c:List CV} (h:(Xd p f).pre c):∃ a,c=[.d (enc a)]∧p a:=by
 unfold Xd at h;simp only at h;split at h
 ·next x=>exact ⟨dec x,by rw [←h.1],h.2⟩
 ·exact h.elim
theorem Jd {A B R:Type} [Enc A] [Enc B] [Enc R] {p:A→B→Prop} {f:A→B→R} {c:List CV} (h:(Vy p f).pre c):∃ a b,c=[.d (enc a),.d (enc b)]∧p a b:=by
 unfold Vy at h;simp only at h;split at h
 ·next x y=>exact ⟨dec x,dec y,by rw [←h.1,←h.2.1],h.2.2⟩
 ·exact h.elim
theorem Te {A B C R:Type} [Enc A] [Enc B] [Enc C] [Enc R] {p:A→B→C→Prop} {f:A→B→C→R} {c:List CV} (h:(kJ p f).pre c):∃ a b d,c=[.d (enc a),.d (enc b),.d (enc d)]∧p a b d:=by
 unfold kJ at h;simp only at h;split at h
 ·next x y z=>exact ⟨dec x,dec y,dec z,by rw [←h.1,←h.2.1,←h.2.2.1],h.2.2.2⟩
 ·exact h.elim
theorem cN {R:Type} [Enc R] {r:R} {c:List CV} (h:(Pd r).pre c):c=[]:=by
 unfold Pd at h;simp only at h;split at h
 ·rfl
 ·exact h.elim
def Zby:List (Nat×Con)→Nat→Option Con
 | [],_=>none
 | (j,x)::r,i=>if i=j then some x else Zby r i
def Jc (P:Program) (p:Nat×Con):Prop:=Ph P p.1∧Zas P p.1 p.2
def Zbz:List (Nat×BCon)→Nat→Option BCon
 | [],_=>none
 | (j,x)::r,i=>if i=j then some x else Zbz r i
def Wm (P:Program) (p:Nat×BCon):Prop:=Ph P p.1∧rH P p.1 p.2
theorem Zai {P:Program} {τ:Nat→TI} {l:List (Nat×Con)} {n:Nat} (hT:J1 P τ) (hm:P.follows .mixedOrders=true) (h:∀ p∈l,Jc P p) {lb:List (Nat×BCon)} (hb:∀ p∈lb,Wm P p:=by simp) {cu:List Nat} {wr:Bool}:He P ⟨τ,Zby l,n,Zbz lb,cu,wr⟩:=by
 refine ⟨hT,fun f con hf=>?_,hm,fun f bc hf=>?_⟩
 case refine_2 =>
  have:∀ (l:List (Nat×BCon)),Zbz l f=some bc→(f,bc)∈l:=by
   intro l
   induction l with
   | nil=>intro h;simp [Zbz] at h
   | cons p r ih =>
    intro h;obtain ⟨j,x⟩:=p;simp only [Zbz] at h;by_cases Zpc:f=j
    ·rw [if_pos Zpc] at h;injection h with h
     subst h;subst Zpc;simp
    ·rw [if_neg Zpc] at h;exact List.mem_cons_of_mem _ (ih h)
  exact hb _ (this lb hf)
 have:∀ (l:List (Nat×Con)),Zby l f=some con→(f,con)∈l:=by
  intro l
  induction l with
  | nil=>intro h;simp [Zby] at h
  | cons p r ih =>
   intro h;obtain ⟨j,x⟩:=p;simp only [Zby] at h;by_cases Zpc:f=j
   ·rw [if_pos Zpc] at h;injection h with h
    subst h;subst Zpc;simp
   ·rw [if_neg Zpc] at h;exact List.mem_cons_of_mem _ (ih h)
 exact h _ (this l hf)
def Y2:List AV→List Nat→List AV
 | l,[]=>l
 | l,i::r=>Y2 (l.set i .dead) r
def Wu:List AV→List (Nat×AV)→List AV
 | l,[]=>l
 | l,(i,x)::r=>Wu (l.set i x) r
def Uz:Zz→List (Nat×Obj)→Zz
 | o,[]=>o
 | o,(i,x)::r=>Uz (upd o i x) r
def Pf (st:AS) (kills:List Nat) (vals:List (Nat×AV)) (objs:List (Nat×Obj)):AS:=⟨Wu (Y2 st.tmps kills) vals,Uz st.objs objs⟩
structure Shut (p:Prop):Prop where
 out:p
theorem rU {p:Prop}:Shut p=p:=propext ⟨fun h=>h.out,fun h=>⟨h⟩⟩
theorem Z1 {C:Ctx} {c:Code} {Q:AExit→AS→Prop} {st:AS} (kills:List Nat) {α:Type} (vals:α→List (Nat×AV)) (objs:α→List (Nat×Obj)) (ok:α→Prop) (μ:α→Nat) (a0:α) (h0:ok a0)
  (hw:Wk st (Pf st kills (vals a0) (objs a0))) (h:∀ a,ok a→Shut (V4 C c (Od (fun s'=>∃ a',Wk s' (Pf st kills (vals a') (objs a'))∧ok a'∧μ a'<μ a) Q) (Pf st kills (vals a) (objs a)))):Zaq C c Q st :=
 ⟨α,fun a=>Pf st kills (vals a) (objs a),ok,μ,Wk,fun _ _ h=>.inl h,⟨a0,⟨[],hw⟩,h0⟩,fun a ha=>(h a ha).out⟩
theorem Yb (t:List AV) (o:Zz) (kills:List Nat) (vals:List (Nat×AV)) (objs:List (Nat×Obj)):Pf ⟨t,o⟩ kills vals objs=⟨Wu (Y2 t kills) vals,Uz o objs⟩:=rfl
theorem Z5 (a b:Nat):(a<b∧Jw (a:Int) (b:Int)=true)∨(b≤a∧Jw (a:Int) (b:Int)=false):=by
 rcases Nat.lt_or_ge a b with h|h
 ·exact .inl ⟨h,by rw [Xs];omega⟩
 ·exact .inr ⟨h,by rw [Jl];omega⟩
theorem Xy (a b:Int):(a<b∧Jw a b=true)∨(b≤a∧Jw a b=false):=by
 rcases Int.lt_or_le a b with h|h
 ·exact .inl ⟨h,by rw [Xs];exact h⟩
 ·exact .inr ⟨h,by rw [Jl];exact h⟩
theorem Vv (a b:Int):(a≤b∧Ju a b=true)∨(b<a∧Ju a b=false):=by
 rcases Int.lt_or_le b a with h|h
 ·exact .inr ⟨h,by rw [Vu];exact h⟩
 ·exact .inl ⟨h,by rw [Pt];exact h⟩
section
theorem mF {α:Type} [Enc α] {l:List α} {x:α}:l.map (enc:α→D)++[enc x]=(l++[x]).map enc:=by simp
theorem fT {l:List Int} {x:Int}:l.map (enc:Int→D)++[.int .i64 x]=(l++[x]).map enc:=by simp
theorem fU {l:List Bool} {x:Bool}:l.map (enc:Bool→D)++[.bool x]=(l++[x]).map enc:=by simp
theorem fS {l:List (List UInt8)} {x:List UInt8}:l.map (enc:List UInt8→D)++[.str x]=(l++[x]).map enc:=by simp
theorem sK {α:Type} [Enc α] {l r:List α}:l.map (enc:α→D)++r.map enc=(l++r).map enc:=by simp
end
def K2 (W:World):Fix:=⟨W,fun b=>match W.heap[b]? with
 | some (.cells cs _ _)=>cs.size
 | _=>0⟩
theorem gS (W:World) (b:Nat) (h:W.heap.size≤b):(K2 W).m b=0:=by
 unfold K2;simp only;rw [Array.getElem?_eq_none h]
theorem qS {W:World} {b off:Nat} {u:Value} (h:W.cell? ⟨b,off,none⟩=some u):off+1≤(K2 W).m b:=by
 unfold K2;unfold World.cell? at h;simp only at h ⊢;split at h
 ·next c _ _ he =>
  simp only [he];simp only [Option.isSome_none,Zl,if_false] at h;have:=(Array.getElem?_eq_some_iff.1 h).1;omega
 ·cases h
def Value.noAgg:Value→Bool
 | .agg _=>false
 | _=>true
theorem I9 {v:Value} (h:Value.noAgg v=true):v.cells=#[v]:=by
 cases v<;>first|rfl|simp [Value.noAgg] at h
def Zat (P:Program) (t s:Nat) (ag:Bool) (p:D→Prop):Prop :=
 ∀ (H:Type) (enc:TypeId×Value→H) (W:World) (base fuel:Nat) (cs:List Value) (d:DataW H) (ps:List MemPlace),DataW.trod enc P W base (fun _=>true) true fuel t cs=some (d,ps) →
  ∃ x v,p x∧(ag=true→v=.agg cs.toArray)∧(ag=false→cs=[v]∧Value.noAgg v=true)∧cs.length=s∧(∀ u∈cs,u.oneCell'=true)∧R (K2 W) x v
theorem Zat.mono {P:Program} {t s:Nat} {ag:Bool} {p q:D→Prop} (h:Zat P t s ag p) (hpq:∀ x,p x→q x):Zat P t s ag q:=by
 intro H enc W base fuel cs d ps ht;obtain ⟨x,v,h1,h2⟩:=h _ enc W base fuel cs d ps ht;exact ⟨x,v,hpq x h1,h2⟩
theorem yA {P:Program} {t fuel:Nat} {k:IntKind} {H:Type} {enc:TypeId×Value→H} {W:World} {base:Nat} {cs:List Value} {x:DataW H×List MemPlace} (ht:P.underlying t=some (.int k))
  (h:DataW.trod enc P W base (fun _=>true) true fuel t cs=some x):∃ n,cs=[.int k n]∧(Lit.int k n).wf=true:=by
 cases fuel with
 | zero=>simp [DataW.trod] at h
 | succ fuel =>
  unfold DataW.trod at h;simp only [ht] at h;split at h<;>first|(exfalso;simp_all;done)|skip
  all_goals rename_i e
  all_goals injection e with e
  all_goals injection e with e
  all_goals subst e
  all_goals split at h
  all_goals first|(next hk=>exact ⟨_,by rw [hk.1],hk.2⟩)|cases h
theorem yK {P:Program} {t fuel:Nat} {H:Type} {enc:TypeId×Value→H} {W:World} {base:Nat} {cs:List Value} {x:DataW H×List MemPlace} (ht:P.underlying t=some .string)
  (h:DataW.trod enc P W base (fun _=>true) true fuel t cs=some x):∃ s:ByteArray,cs=[.string s]∧s.size≤maxLen:=by
 cases fuel with
 | zero=>simp [DataW.trod] at h
 | succ fuel =>
  unfold DataW.trod at h;simp only [ht] at h;split at h<;>first|(exfalso;simp_all;done)|skip
  all_goals split at h
  all_goals first|(next hk=>exact ⟨_,rfl,hk⟩)|cases h
theorem Zn1 {P:Program} {t:Nat} {k:IntKind} (ht:P.underlying t=some (.int k)):Zat P t 1 false (fun x=>∃ n,x=.int k n∧(Lit.int k n).wf=true):=by
 intro H enc W base fuel cs d ps h;obtain ⟨n,rfl,hw⟩:=yA ht h;exact ⟨.int k n,.int k n,⟨n,rfl,hw⟩,by simp,fun _=>⟨rfl,rfl⟩,rfl,by simp [Value.oneCell'],by simp [R]⟩
theorem Zn0 {P:Program} {t:Nat} (ht:P.underlying t=some .string):Zat P t 1 false (fun x=>∃ s,x=.str s∧s.length≤maxLen):=by
 intro H enc W base fuel cs d ps h;obtain ⟨s,rfl,hw⟩:=yK ht h;have e:s.data.toList.length=s.size:=by rw [Array.length_toList];rfl
 exact ⟨.str s.data.toList,.string s,⟨_,rfl,by omega⟩,by simp,fun _=>⟨rfl,rfl⟩,rfl,by simp [Value.oneCell'],by simp [R]⟩
theorem yN {P:Program} {t e s:Nat} {ag:Bool} {p:D→Prop} (ht:P.underlying t=some (.slice e)) (hs:P.cellsOf e=s) (Ax:0<s) (he:Zat P e s ag p) :
  Zat P t 1 false (fun x=>∃ l,x=.list s l∧l.length≤maxLen∧∀ y∈l,p y):=by
 intro H enc W base fuel cs d ps h;rcases Go.Deep.open_slice ht h with ⟨rfl,hx⟩|⟨a,len,cap,m,n,D',Pl,rfl,hb,hl,hm,aW,hx,xH⟩
 ·refine ⟨.list s [],.slice none 0 0,⟨[],rfl,by simp [maxLen],by simp⟩,by simp,fun _=>⟨rfl,rfl⟩,rfl,by simp [Value.oneCell'],?_⟩
  simp only [R];exact ⟨none,0,rfl,by simp,by simp [maxLen],by simp⟩
 ·rw [hs] at xH;have hm':len≤m:=by rw [aW];simp only [if_true];exact hl
  have key:∀ k,k≤len→∃ (xs:List D) (vs:List Value),xs.length=k∧(∀ y∈xs,p y)∧RE (K2 W) s xs vs∧∀ j,j<k*s→W.cell? ⟨a.block,a.off+j,none⟩=vs[j]?:=by
   intro k
   induction k with
   | zero=>intro _;exact ⟨[],[],rfl,by simp,by simp [RE],by simp⟩
   | succ k ih =>
    intro hk;obtain ⟨xs,vs,h1,h2,h3,h4⟩:=ih (by omega)
    obtain ⟨cs',g1,g2⟩:=xH k (by omega)
    obtain ⟨x,v,q1,q2,q3,q4,q5,q6⟩:=he _ enc W base n cs' _ _ g2;obtain ⟨_,g4,g5⟩:=World.cells?_some g1;have Zu0:v.cells.toList=cs':=by
     cases ag with
     | true=>rw [q2 rfl];rfl
     | false =>
      obtain ⟨q3a,q3b⟩:=q3 rfl;rw [I9 q3b,q3a]
    refine ⟨xs++[x],vs++cs',by simp [h1],?_,?_,?_⟩
    ·intro y hy;rcases List.mem_append.1 hy with hy|hy
     ·exact h2 y hy
     ·rw [Qo] at hy;subst hy;exact q1
    ·rw [←Zu0];refine RE.append h3 (RE.one q6 ?_ ?_)
     ·rw [←Array.length_toList,Zu0];exact q4
     ·rw [Zu0];exact q5
    ·intro j hj;have rM:vs.length=k*s:=by rw [RE.length h3,h1]
     rcases Nat.lt_or_ge j (k*s) with Qd|Nd
     ·rw [h4 j Qd,List.getElem?_append_left (by omega)]
     ·rw [List.getElem?_append_right (by omega),rM]
      have Zvu:j-k*s<s:=by
       rw [Nat.add_mul] at hj;omega
      rw [←g5 (j-k*s) Zvu]
      congr 1
      unfold Addr.add;by_cases Lf:k*s=0
      ·rw [if_pos Lf];by_cases Zo7:j-k*s=0
       ·rw [if_pos Zo7];have pZ:a.spot=none:=by
         have h0:=g5 0 Ax;have Gk:cs'[0]?=some cs'[0]:=by simp
         rw [Gk] at h0;unfold Addr.add at h0;rw [if_pos rfl] at h0;simp only [Lf,if_true] at h0;unfold World.cell? at h0;split at h0
         ·cases hh:a.spot with
          | none=>rfl
          | some z=>simp [hh] at h0
         ·cases h0
        have:j=0:=by omega
        subst this;rw [←pZ];rfl
       ·rw [if_neg Zo7];simp only [Addr.mk.injEq,true_and,and_true];omega
      ·rw [if_neg Lf];by_cases Zo7:j-k*s=0
       ·rw [if_pos Zo7];simp only [Addr.mk.injEq,true_and,and_true];omega
       ·rw [if_neg Zo7];simp only [Addr.mk.injEq,true_and,and_true];omega
  obtain ⟨xs,vs,h1,h2,h3,h4⟩:=key len (Zk _);refine ⟨.list s xs,.slice (some a) len cap,⟨xs,rfl,by omega,h2⟩,by simp,fun _=>⟨rfl,rfl⟩,rfl,by simp [Value.oneCell'],?_⟩
  simp only [R];refine ⟨some a,cap,by rw [h1],by omega,hm,fun Gk=>?_⟩
  have Js:0<len:=by
   rw [←h1];exact List.length_pos_iff.2 Gk
  have rM:vs.length=len*s:=by rw [RE.length h3,h1]
  have pZ:a.spot=none:=by
   obtain ⟨cs',g1,_⟩:=xH 0 (by omega)
   obtain ⟨_,g4,g5⟩:=World.cells?_some g1;have h0:=g5 0 Ax;have Gk:cs'[0]?=some cs'[0]:=by simp
   rw [Gk] at h0;unfold Addr.add at h0;simp only [Nat.zero_mul,if_true] at h0;unfold World.cell? at h0;split at h0
   ·cases hh:a.spot with
    | none=>rfl
    | some z=>simp [hh] at h0
   ·cases h0
  refine ⟨a.block,a.off,vs,by cases a;simp at pZ;subst pZ;rfl,h3,?_,fun j u hj=>?_⟩
  ·have Zxr:0<len*s:=Nat.mul_pos Js Ax;have Znm:=h4 (len*s-1) (by omega)
   have kO:len*s-1<vs.length:=by omega
   rw [Zd kO] at Znm;have:=qS Znm;omega
  ·have Cw:=(List.getElem?_eq_some_iff.1 hj).1;have:=h4 j (by omega)
   rw [hj] at this;exact this
def xE:List (D→Prop)→List D→Prop
 | [],[]=>True
 | p::ps,x::xs=>p x∧xE ps xs
 | _,_=>False
def Zok (P:Program):Nat→List Field→List (D→Prop)→Prop
 | _,[],[]=>True
 | k,f::fs,p::ps=>f.offset=k∧P.cellsOf f.type=1∧Zat P f.type 1 false p∧Zok P (k+1) fs ps
 | _,_,_=>False
theorem fG {P:Program} {H:Type} {enc:TypeId×Value→H} {W:World} {base fuel:Nat} {cs:List Value}:∀ {fs:List Field} {k:Nat} {ps:List (D→Prop)} {xs:List (DataW H×List MemPlace)},Zok P k fs ps→k+fs.length≤cs.length →
  (fs.mapM fun f=>DataW.trod enc P W base (fun _=>true) true fuel f.type ((cs.drop f.offset).take (P.cellsOf f.type)))=some xs →
  ∃ ds,xE ps ds∧Rs (K2 W) ds ((cs.drop k).take fs.length)∧∀ u∈(cs.drop k).take fs.length,u.oneCell'=true
 | [],k,[],xs,_,_,_=>⟨[],by simp [xE],by simp [Rs],by simp⟩
 | [],_,_::_,_,h,_,_=>h.elim
 | _::_,_,[],_,h,_,_=>h.elim
 | f::fs,k,p::ps,xs,h,hl,hm=>by
  obtain ⟨h1,h2,h3,h4⟩:=h;simp only [List.mapM_cons,Option.bind_eq_bind,Option.bind_eq_some_iff] at hm;obtain ⟨y,hy,ys,Zpt,_⟩:=hm;simp only [Zf] at hl;obtain ⟨ds,g1,g2,g3⟩:=fG h4 (by omega) Zpt
  rw [h1,h2] at hy;obtain ⟨d,q⟩:=y;obtain ⟨x,v,q1,_,q3,q4,q5,q6⟩:=h3 _ enc W base fuel _ _ _ hy;obtain ⟨q3a,q3b⟩:=q3 rfl;have e:(cs.drop k).take (fs.length+1)=v::(cs.drop (k+1)).take fs.length:=by
   have hk:k<cs.length:=by omega
   rw [List.drop_eq_getElem_cons hk] at q3a ⊢;simp only [List.take_succ_cons,List.take_zero,List.cons.injEq] at q3a ⊢;exact ⟨q3a.1,trivial⟩
  rw [Zf,e];refine ⟨x::ds,⟨q1,g1⟩,?_,?_⟩
  ·simp only [Rs];exact ⟨v,_,rfl,q6,g2⟩
  ·intro u hu;rcases Zm.1 hu with rfl|hu
   ·exact q5 u (by rw [q3a];simp)
   ·exact g3 u hu
theorem fF {P:Program} {t s:Nat} {fs:Array Field} {ps:List (D→Prop)} (ht:P.underlying t=some (.struct fs)) (hs:P.cellsOf t=s) (hl:fs.toList.length=s) (hf:Zok P 0 fs.toList ps) :
  Zat P t s true (fun x=>∃ ds,x=.agg ds∧xE ps ds):=by
 intro H enc W base fuel cs d qs h;cases fuel with
 | zero=>simp [DataW.trod] at h
 | succ fuel =>
  unfold DataW.trod at h;simp only [ht] at h;rw [hs] at h;by_cases hc:cs.length=s
  ·rw [if_pos hc] at h;rw [Option.map_eq_some_iff] at h;obtain ⟨xs,hx,_⟩:=h;obtain ⟨ds,g1,g2,g3⟩:=fG (cs:=cs) hf (by omega) hx
   rw [List.drop_zero,hl,←hc,List.take_length] at g2 g3;refine ⟨.agg ds,.agg cs.toArray,⟨ds,rfl,g1⟩,fun _=>rfl,by simp,hc,g3,?_⟩
   simp only [R];exact ⟨cs,rfl,g2,g3⟩
  ·rw [if_neg hc] at h;cases h
theorem V8 {P:Program} {H:Type} {enc:TypeId×Value→H} {W:World} {base b2 t s:Nat} {p:D→Prop} {v:Value} {d:DataW H} {ps:List MemPlace} (h:Zat P t s false p) (hns:∀ fs,P.underlying t≠some (.struct fs)) (lX:∀ n e,P.underlying t≠some (.array n e))
  (Y7:Value.okWide P W .any base t v) (hr:DataW.Trod enc P W b2 (fun _=>true) true t v d ps):∃ x,p x∧R (K2 W) x v:=by
 obtain ⟨fuel,hr⟩:=hr;obtain ⟨x,u,h1,_,h3,_,_,h6⟩:=h _ enc W b2 fuel _ _ _ hr;obtain ⟨Zwh,Qah⟩:=h3 rfl;have hv:Value.noAgg v=true:=by
  cases v with
  | agg cs =>
   unfold Value.okWide at Y7;exfalso;split at Y7
   ·next fs he=>exact hns _ he
   ·next n e he=>exact lX _ _ he
   ·unfold Cell.okWide at Y7;split at Y7<;>try simp_all
    unfold Cell.ok at Y7;split at Y7<;>simp_all
  | _=>rfl
 rw [I9 hv] at Zwh;simp only [List.cons.injEq,and_true] at Zwh;subst Zwh;exact ⟨x,h1,h6⟩
theorem Eh {F:Fix}:∀ {l:List D} {vs:List Value},Rs F l vs→Wn F (l.map .d) vs
 | [],_,h=>by simp only [Rs] at h;simpa [Wn] using h
 | x::l,vs,h=>by
  simp only [Rs] at h;obtain ⟨v,r,rfl,h2,h3⟩:=h;simp only [List.map_cons,Wn,eP];exact ⟨v,r,rfl,h2,Eh h3⟩
theorem Pp:∀ (l:List D) (vs:List Value),Qf (l.map .d) vs=[]
 | [],[]=>rfl
 | [],_::_=>rfl
 | _::l,[]=>rfl
 | x::l,v::vs=>by
  simp only [List.map_cons,Qf];exact Pp l vs
theorem eH {P:Program} {f:FuncId} {con:Con} (hg:Jc P (f,con)) (W:World) (xs:List D) (args:Array Value) (hR:Rs (K2 W) xs args.toList) (Zo:con.pre (xs.map .d)) (dR:con.fn (xs.map .d)=.d (.bool true)) :
  Calls P f args W fun e W'=>e=.returned (.bool true)∧Below W.heap.size W W':=by
 have h:=hg.2 (K2 W).m W (xs.map .d) args.toList Zo (Eh hR) (by rw [Pp];exact List.nodup_nil) (gS W)
 rw [show args.toList.toArray=args by simp] at h
 refine h.mono ?_;rintro e W' ⟨v,m',rfl,O2,_,_,dL⟩
 change oC _ _ _ (con.fn (xs.map .d)) v at dL
 rw [dR] at dL;simp only [oC,Wn,eP,R] at dL;obtain ⟨⟨v1,r,Zay,rfl,rfl⟩,_⟩:=dL;injection Zay with Zay _
 subst Zay;refine ⟨rfl,O2.os,O2.tape,O2.output,O2.size,fun k hk=>O2.block k hk ?_⟩;rw [Pp];simp
open Go.ChangeShapes Go.WideShapes Go.ChangeAt Go.RowKit
theorem C1 {H:Type} {enc:TypeId×Value→H} {P:Program} (hl:laidOutB P=true) {W W':World} (hb:Below W.heap.size W W'):∀ {ts:List TypeId} {vs:List Value} {ds:List (DataW H)} {ps:List MemPlace},(∀ t∈ts,P.readableRec t=true∧t<P.types.size) →
  DataW.TrodAll enc P W 0 (fun _=>true) true ts vs ds ps→(∀ x∈ps,x.block<W.heap.size)→∀ sp:Nat→Bool,(∀ x∈ps,sp x.block=true)→DataW.TrodAll enc P W' 0 sp true ts vs ds ps
 | [],vs,ds,ps,_,h,_,_,_=>by
  obtain ⟨rfl,rfl,rfl⟩:=trodAll_nil h;exact trodAll_mk0
 | t::ts,vs,ds,ps,hr,h,Qd,sp,pZ=>by
  obtain ⟨v,vs',d,ds',p,q,rfl,rfl,rfl,h1,h2⟩:=trodAll_cons h;refine trodAll_cons_mk ?_ (C1 hl hb (fun t ht=>hr t (List.mem_cons_of_mem _ ht)) h2 (fun x hx=>Qd x (List.mem_append_right _ hx)) sp (fun x hx=>pZ x (List.mem_append_right _ hx)));obtain ⟨r1,r2⟩:=hr t (by simp)
  exact WideElems.Trod_stays hl r1 r2 h1 (fun x hx=>hb.same (Qd x (List.mem_append_left _ hx))) (fun x hx=>pZ x (List.mem_append_left _ hx))
theorem Et {H:Type} {enc:TypeId×Value→H} {P:Program} {W:World} {base:Nat} {spare:Nat→Bool} {held:Bool}:∀ {ts:List TypeId} {vs:List Value} {ds:List (DataW H)} {ps:List MemPlace},DataW.TrodAll enc P W base spare held ts vs ds ps→ds.length=ts.length
 | [],vs,ds,ps,h=>by
  obtain ⟨rfl,rfl,rfl⟩:=trodAll_nil h;rfl
 | t::ts,vs,ds,ps,h=>by
  obtain ⟨v,vs',d,ds',p,q,rfl,rfl,rfl,h1,h2⟩:=trodAll_cons h;simp [Et h2]
theorem U7 {P:Program} {f:FuncId} {fn:Func} {con:Con} {s:ChangeSpec} {tb:TypeId} (hg:Jc P (f,con)) (hv:s.vars=[]) (hl:laidOutB P=true)
  (hr:∀ t∈fn.params.toList,P.readableRec t=true∧t<P.types.size) (dL:fn.resultTypes=#[tb]) (htb:P.underlying tb=some .bool)
  (hspec:∀ (H:Type) (ds:List (DataW H)),ds.length=fn.params.toList.length→s.fn H ds={ results:=[.lit (.bool true)],args:=ds })
  {H:Type} (enc:TypeId×Value→H) (W:World) (args:Array Value) (ds gs:List (DataW H)) (before:List MemPlace)
  (tR:∀ ps,DataW.TrodAll enc P W 0 (fun _=>true) true fn.params.toList args.toList ds ps→∃ xs:List D,Rs (K2 W) xs args.toList∧con.pre (xs.map .d)∧con.fn (xs.map .d)=.d (.bool true))
  (hW:DataW.Whole enc P fn.params.toList s.vars false W args.toList ds gs before) :
  Calls P f args W fun e W'=>∃ v,e=.returned v∧s.post enc P fn false true false false W args v W':=by
 have hW':=hW;obtain ⟨p,q,hA,hV,rfl,Zzd,Ek⟩:=hW;rw [hv] at hV;obtain ⟨rfl,rfl⟩:=trodVars_none hV;obtain ⟨xs,hR,Zo,dR⟩:=tR p hA;have Js:=(Et hA);refine (eH hg W xs args hR Zo dR).mono ?_;rintro e W' ⟨rfl,hb⟩;have Qd:∀ x∈p,x.block<W.heap.size:=fun x hx=>hW'.lt x (by simpa using hx)
 have pZ:=hspec H (ds++[]) (by simpa using Js)
 rw [List.append_nil] at pZ;refine ⟨_,rfl,ds,[],p++[],[],p,[],hW',?_,?_,?_,hb.frame _,fun h=>by cases h⟩
 ·rw [List.append_nil,pZ,dL];exact trodAll_cons_mk (shut_bool htb _) trodAll_mk0
 ·rw [List.append_nil,pZ];exact C1 hl hb hr hA Qd _ (fun x hx=>by simpa using Qd x hx)
 ·rw [List.append_nil,pZ,hv];rfl
section
def Zbc (P:Program) (t s:Nat) (ag:Bool) (α:Type) [Enc α] (ok:α→Prop):Prop:=Zat P t s ag fun x=>∃ a:α,x=enc a∧ok a
theorem Tn {P:Program} {t:Nat} (ht:P.underlying t=some (.int .i64)):Zbc P t 1 false Int (fun a=>eD .i64 a):=(Zn1 ht).mono fun x h=>by
 obtain ⟨n,rfl,hw⟩:=h;refine ⟨n,rfl,?_⟩;show eD .i64 n;rw [Qn];have h:=hw;simp [Lit.wf,IntKind.min,IntKind.max,IntKind.signed,IntKind.bits] at h;omega
theorem Ew {P:Program} {t:Nat} (ht:P.underlying t=some .string):Zbc P t 1 false (List UInt8) (fun a=>a.length≤maxLen):=(Zn0 ht).mono fun x h=>by
 obtain ⟨s,rfl,hs⟩:=h;exact ⟨s,rfl,hs⟩
theorem mM {α:Type} [Enc α] {ok:α→Prop}:∀ {l:List D},(∀ y∈l,∃ a:α,y=enc a∧ok a)→∃ r:List α,l=r.map enc∧∀ a∈r,ok a
 | [],_=>⟨[],rfl,by simp⟩
 | y::l,h=>by
  obtain ⟨a,rfl,ha⟩:=h y (by simp)
  obtain ⟨r,rfl,hr⟩:=mM (l:=l) fun z hz=>h z (List.mem_cons_of_mem _ hz);exact ⟨a::r,rfl,by
   intro b hb;rcases Zm.1 hb with rfl|hb
   ·exact ha
   ·exact hr b hb⟩
theorem yM {P:Program} {t e s:Nat} {ag:Bool} {α:Type} [Enc α] [Sz α] {ok:α→Prop} (ht:P.underlying t=some (.slice e)) (hs:P.cellsOf e=s) (hz:Sz.sz α=s) (Ax:0<s) (he:Zbc P e s ag α ok) :
  Zbc P t 1 false (Sl α) (fun a=>a.l.length≤maxLen∧∀ y∈a.l,ok y):=(yN ht hs Ax he).mono fun x h=>by
 obtain ⟨l,rfl,hl,hy⟩:=h;obtain ⟨r,rfl,hr⟩:=mM hy;rw [Qq] at hl;refine ⟨⟨r⟩,?_,hl,hr⟩;show D.list s (r.map enc)=D.list (Sz.sz α) (r.map enc);rw [hz]
end
def Ya:Nat→List AV→List AV
 | 0,_=>[]
 | n+1,[]=>.dead::Ya n []
 | n+1,x::l=>x::Ya n l
theorem Uq:∀ (n:Nat) (l:List AV),(Ya n l).length=n
 | 0,_=>rfl
 | n+1,[]=>by simp [Ya,Uq n]
 | n+1,x::l=>by simp [Ya,Uq n]
theorem Dy:∀ (n:Nat) (l:List AV) (t:Nat),t<n→(Ya n l).getD t .dead=l.getD t .dead
 | 0,_,t,h=>by omega
 | n+1,[],0,_=>by simp [Ya]
 | n+1,[],t+1,h=>by
  have:=Dy n [] t (by omega)
  simpa [Ya] using this
 | n+1,x::l,0,_=>by simp [Ya]
 | n+1,x::l,t+1,h=>by
  have:=Dy n l t (by omega)
  simpa [Ya] using this
def Km:Nat→AV→List AV→List AV
 | 0,x,[]=>[x]
 | n+1,x,[]=>.dead::Km n x []
 | 0,x,_::l=>x::l
 | n+1,x,y::l=>y::Km n x l
theorem Ab:∀ (n:Nat) (l:List AV) (t:Nat) (x:AV),t<n→(Ya n l).set t x=Ya n (Km t x l)
 | 0,_,t,_,h=>by omega
 | n+1,[],0,x,_=>by simp [Ya,Km]
 | n+1,[],t+1,x,h=>by
  have:=Ab n [] t x (by omega)
  simpa [Ya,Km] using this
 | n+1,y::l,0,x,_=>by simp [Ya,Km]
 | n+1,y::l,t+1,x,h=>by
  have:=Ab n l t x (by omega)
  simpa [Ya,Km] using this
def fl:List (List AV)→List AV→List AV
 | [],r=>r
 | c::cs,r=>Ya 16 c++fl cs r
def Ap:List (List AV)→List AV→Nat→Nat→AV
 | [],r,a,b=>r.getD (16*a+b) .dead
 | c::_,_,0,b=>c.getD b .dead
 | _::cs,r,a+1,b=>Ap cs r a b
theorem sP:∀ (cs:List (List AV)) (r:List AV) (a b:Nat),b<16→(fl cs r).getD (16*a+b) .dead=Ap cs r a b
 | [],r,a,b,_=>rfl
 | c::cs,r,0,b,hb=>by
  simp only [fl,Ap,Nat.mul_zero,Nat.zero_add];rw [Zg,List.getElem?_append_left (by rw [Uq];exact hb),←Zg]
  exact Dy 16 c b hb
 | c::cs,r,a+1,b,hb=>by
  simp only [fl,Ap];rw [Zg,List.getElem?_append_right (by rw [Uq];omega),←Zg,Uq,show 16*(a+1)+b-16=16*a+b by omega]
  exact sP cs r a b hb
theorem Ft (cs:List (List AV)) (r:List AV) (t:Nat):(fl cs r).getD t .dead=Ap cs r (t / 16) (t % 16):=by
 rw [←sP cs r (t / 16) (t % 16) (Nat.mod_lt _ (by omega)),Nat.div_add_mod]
def uL:List (List AV)→List AV→Nat→Nat→AV→List AV
 | [],r,a,b,x=>r.set (16*a+b) x
 | c::cs,r,0,b,x=>fl (Km b x c::cs) r
 | c::cs,r,a+1,b,x=>Ya 16 c++uL cs r a b x
theorem sQ:∀ (cs:List (List AV)) (r:List AV) (a b:Nat) (x:AV),b<16→(fl cs r).set (16*a+b) x=uL cs r a b x
 | [],r,a,b,x,_=>rfl
 | c::cs,r,0,b,x,hb=>by
  simp only [fl,uL,Nat.mul_zero,Nat.zero_add];rw [List.set_append_left _ _ (by rw [Uq];exact hb),Ab 16 c b x hb]
 | c::cs,r,a+1,b,x,hb=>by
  simp only [fl,uL];rw [List.set_append_right _ _ (by rw [Uq];omega),Uq,show 16*(a+1)+b-16=16*a+b by omega,sQ cs r a b x hb]
def Yz:List (List AV)→List AV→Nat→Nat→AV→List (List AV)×List AV
 | [],r,a,b,x=>([],r.set (16*a+b) x)
 | c::cs,r,0,b,x=>(Km b x c::cs,r)
 | c::cs,r,a+1,b,x=>(c::(Yz cs r a b x).1,(Yz cs r a b x).2)
theorem sZ:∀ (cs:List (List AV)) (r:List AV) (a b:Nat) (x:AV),uL cs r a b x=fl (Yz cs r a b x).1 (Yz cs r a b x).2
 | [],r,a,b,x=>rfl
 | c::cs,r,0,b,x=>rfl
 | c::cs,r,a+1,b,x=>by
  simp only [uL,Yz,fl];rw [sZ cs r a b x]
theorem K6 (cs:List (List AV)) (r:List AV) (t:Nat) (x:AV):(fl cs r).set t x=fl (Yz cs r (t / 16) (t % 16) x).1 (Yz cs r (t / 16) (t % 16) x).2:=by
 rw [←sZ,←sQ cs r (t / 16) (t % 16) x (Nat.mod_lt _ (by omega)),Nat.div_add_mod]
theorem gK (i:Nat):∀ (a b:List AV),Vd i (a++b)=Vd i a++Vd i b
 | [],_=>rfl
 | x::a,b=>by simp [Vd,gK i a b]
theorem Aj (i:Nat):∀ (n:Nat) (l:List AV),Vd i (Ya n l)=Ya n (Vd i l)
 | 0,_=>rfl
 | n+1,[]=>by
  have:=Aj i n [];simp only [Vd] at this;simp [Ya,Vd,AV.off,this]
 | n+1,x::l=>by simp [Ya,Vd,Aj i n l]
def bP (i:Nat):List (List AV)→List (List AV)
 | []=>[]
 | c::cs=>Vd i c::bP i cs
theorem bO (i:Nat):∀ (cs:List (List AV)) (r:List AV),Vd i (fl cs r)=fl (bP i cs) (Vd i r)
 | [],_=>rfl
 | c::cs,r=>by simp only [fl,bP,gK,Aj,bO i cs r]
theorem rO {o1 o2:Zz}:∀ {a a' b b':List AV},Ds o1 o2 a a'→Ds o1 o2 b b'→Ds o1 o2 (a++b) (a'++b')
 | [],[],_,_,_,h=>h
 | [],_::_,_,_,h,_=>h.elim
 | _::_,[],_,_,h,_=>h.elim
 | x::a,y::a',b,b',h,h'=>⟨h.1,rO h.2 h'⟩
theorem iS {o1 o2:Zz}:∀ {n:Nat} {a a':List AV},Ds o1 o2 a a'→Ds o1 o2 (Ya n a) (Ya n a')
 | 0,_,_,_=>trivial
 | n+1,[],[],_=>⟨by simp [dU],iS (a:=[]) (a':=[]) trivial⟩
 | n+1,[],_::_,h=>h.elim
 | n+1,_::_,[],h=>h.elim
 | n+1,x::a,y::a',h=>⟨h.1,iS h.2⟩
def iU (o1 o2:Zz):List (List AV)→List (List AV)→Prop
 | [],[]=>True
 | c::cs,d::ds=>Ds o1 o2 c d∧iU o1 o2 cs ds
 | _,_=>False
theorem yX {o1 o2:Zz}:∀ {cs ds:List (List AV)} {r r':List AV},iU o1 o2 cs ds→Ds o1 o2 r r'→Ds o1 o2 (fl cs r) (fl ds r')
 | [],[],_,_,_,h=>h
 | [],_::_,_,_,h,_=>h.elim
 | _::_,[],_,_,h,_=>h.elim
 | c::cs,d::ds,r,r',h,h'=>rO (iS h.1) (yX h.2 h')
theorem Wk.of_fl {cs ds:List (List AV)} {r r':List AV} {o o':Zz} (h:iU o o' cs ds∧Ds o o' r r'∧iT o o' o'∧lK o' o):Wk ⟨fl cs r,o⟩ ⟨fl ds r',o'⟩ :=
 ⟨yX h.1 h.2.1,h.2.2.1,h.2.2.2⟩
theorem I5 {o:Zz}:∀ {a b:List AV},keptAll o a→keptAll o b→keptAll o (a++b)
 | [],_,_,h=>h
 | _::_,_,h,h'=>⟨h.1,I5 h.2 h'⟩
theorem Sx {o:Zz}:∀ {n:Nat} {a:List AV},keptAll o a→keptAll o (Ya n a)
 | 0,_,_=>trivial
 | n+1,[],_=>⟨by simp only [AV.kept],Sx (a:=[]) trivial⟩
 | n+1,_::_,h=>⟨h.1,Sx h.2⟩
def jI (o:Zz):List (List AV)→Prop
 | []=>True
 | c::cs=>keptAll o c∧jI o cs
theorem D6 {o:Zz}:∀ {cs:List (List AV)} {r:List AV},jI o cs∧keptAll o r→keptAll o (fl cs r)
 | [],_,h=>h.2
 | _::_,_,h=>I5 (Sx h.1.1) (D6 ⟨h.1.2,h.2⟩)
def wS:Nat→List AV→List (List AV)×List AV
 | 0,l=>([],l)
 | n+1,l=>(l.take 16::(wS n (l.drop 16)).1,(wS n (l.drop 16)).2)
theorem bX:∀ (n:Nat) (l:List AV),l.length=n→Ya n l=l
 | 0,[],_=>rfl
 | 0,_::_,h=>by simp at h
 | n+1,[],h=>by simp at h
 | n+1,x::l,h=>by simp only [Ya,bX n l (by simpa using h)]
theorem Zaj:∀ (n:Nat) (l:List AV),16*n≤l.length→fl (wS n l).1 (wS n l).2=l
 | 0,l,_=>rfl
 | n+1,l,h=>by
  simp only [wS,fl];rw [bX 16 (l.take 16) (by rw [List.length_take];omega),Zaj n (l.drop 16) (by rw [List.length_drop];omega),List.take_append_drop]
theorem Zci {C:Ctx} {c:Code} {Q:AExit→AS→Prop} {t:List AV} {o:Zz} (n:Nat) (hn:16*n≤t.length) (h:Shut (V4 C c Q ⟨fl (wS n t).1 (wS n t).2,o⟩)):V4 C c Q ⟨t,o⟩:=by
 have:=h.out;rw [Zaj n t hn] at this;exact this
theorem yC {α:Type} {l:List α} {i:Nat} {x d:α} (h:l.getD i d=x) (hx:x≠d):l.set i x=l:=by
 apply List.ext_getElem?;intro j;rw [List.getElem?_set];by_cases O1:i=j
 ·subst O1;rw [if_pos rfl];by_cases hi:i<l.length
  ·rw [if_pos hi];rw [Zg,Zd hi] at h;rw [Zd hi,←h];rfl
  ·rw [Zg,List.getElem?_eq_none (by omega)] at h
   exact absurd h.symm hx
 ·rw [if_neg O1]
theorem aR (C:Ctx) (t:Nat) (x y:Code) (Q:AExit→AS→Prop) (T:List AV) (o:Zz):V4 C (.cond (.tmp t) x y) Q ⟨T,o⟩=(match T.getD t .dead with
  | .d (.bool b)=>(b=true→V4 C x Q ⟨T.set t (.d (.bool true)),o⟩)∧(b=false→V4 C y Q ⟨T.set t (.d (.bool false)),o⟩)
  | _=>False):=by
 rw [oV];simp only [AS.ev];generalize hz:T.getD t .dead=z;cases z with
 | d x =>
  cases x with
  | bool b =>
   simp only [D.isBool,D.b,true_and,Zto];have h:=yC hz (by simp)
   cases b with
   | true=>simp only [h];simp
   | false=>simp only [h];simp
  | _=>simp [D.isBool]
 | _=>rfl
theorem aS (C:Ctx) (b:Bool) (x y:Code) (Q:AExit→AS→Prop) (T:List AV) (o:Zz):V4 C (.cond (.const (.bool b)) x y) Q ⟨T,o⟩=((b=true→V4 C x Q ⟨T,o⟩)∧(b=false→V4 C y Q ⟨T,o⟩)):=by
 rw [oV];simp only [AS.ev,Ud,Pb,D.isBool,D.b,true_and,Zto]
theorem Zqh (b want:Bool) (P Q:Prop):Ztn b want P Q=(match want with
  | true=>(b=true→P)∧(b=false→Q)
  | false=>(b=false→P)∧(b=true→Q)):=by
 cases b<;>cases want<;>simp [Ztn]
theorem Zwu (C:Ctx) (ops:List Oper) (o:Oper) (K:AS→Prop) (st:AS):Ztp C ops o K st=(match o.guard with
 | none=>Ro C o K st
 | some (j,want)=>match Jp ops st j with
  | .b t b=>(match want with
   | true=>(b=true→Ro C o K ⟨st.tmps.set t (.d (.bool true)),st.objs⟩)∧(b=false→K (AS.put ⟨st.tmps.set t (.d (.bool false)),st.objs⟩ o.dst (.d (.tup [])) st.objs))
   | false=>(b=false→Ro C o K ⟨st.tmps.set t (.d (.bool false)),st.objs⟩)∧(b=true→K (AS.put ⟨st.tmps.set t (.d (.bool true)),st.objs⟩ o.dst (.d (.tup [])) st.objs)))
  | .und=>K (AS.put st o.dst (.d (.tup [])) st.objs)
  | .no=>False):=by
 unfold Ztp;cases o.guard with
 | none=>rfl
 | some p =>
  obtain ⟨j,want⟩:=p;simp only;cases Jp ops st j with
  | b t b =>
   simp only [Zqh];cases want<;>rfl
  | und=>rfl
  | no=>rfl
theorem aP (C:Ctx) (ops:List Oper) (i:Nat) (acc:List (Nat×List Nat×Bool)) (K:AS→Prop) (st:AS):Yc C ops i [] acc K st=(Zn4 ops acc=true∧K st):=rfl
theorem Iv (C:Ctx) (ops:List Oper) (i:Nat) (o:Oper) (r:List Oper) (acc:List (Nat×List Nat×Bool)) (K:AS→Prop) (st:AS):Yc C ops i (o::r) acc K st=(match o.guard with
  | none=>Lb C o (fun fp ro=>Yc C ops (i+1) r ((i,fp,ro)::acc) K) st
  | some (j,want)=>match Jp ops st j with
   | .b t b=>(match want with
    | true=>(b=true→Lb C o (fun fp ro=>Yc C ops (i+1) r ((i,fp,ro)::acc) K) ⟨st.tmps.set t (.d (.bool true)),st.objs⟩) ∧
      (b=false→Yc C ops (i+1) r acc K (AS.put ⟨st.tmps.set t (.d (.bool false)),st.objs⟩ o.dst (.d (.tup [])) st.objs))
    | false=>(b=false→Lb C o (fun fp ro=>Yc C ops (i+1) r ((i,fp,ro)::acc) K) ⟨st.tmps.set t (.d (.bool false)),st.objs⟩) ∧
      (b=true→Yc C ops (i+1) r acc K (AS.put ⟨st.tmps.set t (.d (.bool true)),st.objs⟩ o.dst (.d (.tup [])) st.objs)))
   | .und=>Yc C ops (i+1) r acc K (AS.put st o.dst (.d (.tup [])) st.objs)
   | .no=>False):=by
 rw [Yc];cases o.guard with
 | none=>rfl
 | some p =>
  obtain ⟨j,want⟩:=p;simp only;cases Jp ops st j with
  | b t b =>
   simp only [Zqh];cases want<;>rfl
  | und=>rfl
  | no=>rfl
section
variable (a:Option Tmp) (b:Op) (c:TypeId) (d:String) (e:Array Edge) (f:Option (Nat×Bool))
theorem Zwy:(Oper.mk a b c d e f).dst=a:=rfl
theorem Zwx:(Oper.mk a b c d e f).op=b:=rfl
theorem Zww:(Oper.mk a b c d e f).type=c:=rfl
theorem Zwv:(Oper.mk a b c d e f).guard=f:=rfl
end
section
variable (a:TK) (b c:Nat) (d:AV) (e:D) (f:List SK)
theorem Zwp:(TI.mk a b c d e f).kind=a:=rfl
theorem Zwo:(TI.mk a b c d e f).size=b:=rfl
theorem Zwn:(TI.mk a b c d e f).bytes=c:=rfl
theorem Zwm:(TI.mk a b c d e f).zero=d:=rfl
theorem Zwl:(TI.mk a b c d e f).zd=e:=rfl
theorem Zwk:(TI.mk a b c d e f).eqk=f:=rfl
end
section
variable (a:Nat→TI) (b:Nat→Option Con) (c:Nat) (d:Nat→Option BCon) (e:List Nat) (f:Bool)
theorem Zw8:(Ctx.mk a b c d e f).τ=a:=rfl
theorem Zw7:(Ctx.mk a b c d e f).Γ=b:=rfl
theorem Zw6:(Ctx.mk a b c d e f).dp=c:=rfl
theorem Zw5:(Ctx.mk a b c d e f).Δ=d:=rfl
theorem Zw4:(Ctx.mk a b c d e f).cuts=e:=rfl
theorem Zw3:(Ctx.mk a b c d e f).wr=f:=rfl
end
theorem Zxb (a:List AV) (b:Zz):(AS.mk a b).tmps=a:=rfl
theorem Zxa (a:List AV) (b:Zz):(AS.mk a b).objs=b:=rfl
theorem Zwt {α β:Type} (a:α) (b:β):(a,b).1=a:=rfl
theorem Zws {α β:Type} (a:α) (b:β):(a,b).2=b:=rfl
theorem Zw2 (a b:List Bool) (p:List CV→Prop) (f:List CV→CV):(Con.mk a b p f).modes=a:=rfl
theorem Zw1 (a b:List Bool) (p:List CV→Prop) (f:List CV→CV):(Con.mk a b p f).outs=b:=rfl
theorem Zw0 (a b:List Bool) (p:List CV→Prop) (f:List CV→CV) (x:List CV):(Con.mk a b p f).pre x=p x:=rfl
theorem Zwz (a b:List Bool) (p:List CV→Prop) (f:List CV→CV) (x:List CV):(Con.mk a b p f).fn x=f x:=rfl
theorem Zwr {α:Type} (l:List α):l.toArray.toList=l:=rfl
theorem yD {α β:Type} (f:α→β) (x:α) (l:List α):(x::l).map f=f x::l.map f:=rfl
theorem sJ {α β:Type} (f:α→β):([]:List α).map f=[]:=rfl
theorem Zm5 {α:Type} (x:α) (l:List α):(x::l).length=l.length+1:=rfl
theorem Zm4 {α:Type}:([]:List α).length=0:=rfl
theorem Zm7 {α:Type} (x:α) (l:List α):(x::l)[0]?=some x:=rfl
theorem Zm6 {α:Type} (x:α) (l:List α) (n:Nat):(x::l)[n+1]?=l[n]?:=rfl
theorem yE {α:Type} (a b:α):cond true a b=a:=rfl
theorem yF {α:Type} (a b:α):cond false a b=b:=rfl
theorem Zra (s:Nat) (k:IntKind) (n:Int):AV.cells false s (.d (.int k n))=[.d (.int k n)]:=rfl
theorem Zq9 (s:Nat) (b:Bool):AV.cells false s (.d (.bool b))=[.d (.bool b)]:=rfl
theorem Zq8 (s:Nat) (b:List UInt8):AV.cells false s (.d (.str b))=[.d (.str b)]:=rfl
theorem Zq7 (s:Nat):AV.cells false s (.d .nilf)=[.d .nilf]:=rfl
theorem Zq6 (s:Nat):AV.cells false s (.d .nilp)=[.d .nilp]:=rfl
theorem Zq5 (s m:Nat) (l:List D):AV.cells false s (.d (.list m l))=[.d (.list m l)]:=rfl
theorem Zq4 (s m:Nat) (x:D):AV.cells false s (.d (.ptr m x))=[.d (.ptr m x)]:=rfl
theorem Zq3 (s f:Nat) (l:List D):AV.cells false s (.d (.clo f l))=[.d (.clo f l)]:=rfl
theorem Zq2 {α:Type} [Enc α] [Sz α] (s:Nat) (a:Sl α):AV.cells false s (.d (enc a))=[.d (enc a)]:=rfl
theorem Zq1 (ag:Bool) (s i f:Nat):AV.cells ag s (.ref i f)=[.ref i f]:=rfl
theorem Zq0 (ag:Bool) (s i n e f:Nat):AV.cells ag s (.rref i n e f)=[.rref i n e f]:=rfl
theorem Zqz (ag:Bool) (s i n:Nat):AV.cells ag s (.sl i n)=[.sl i n]:=rfl
theorem Zqv (ag:Bool) (s i n f:Nat):AV.cells ag s (.sb i n f)=[.sb i n f]:=rfl
theorem Zqu (ag:Bool) (s i:Nat):AV.cells ag s (.mpr i)=[.mpr i]:=rfl
theorem Zqt (s:Nat) (ks vs:List D):AV.cells false s (.d (.map ks vs))=[.d (.map ks vs)]:=rfl
theorem Zqs (s:Nat):AV.cells false s (.d .nilm)=[.d .nilm]:=rfl
theorem Zqy (ag:Bool) (s f:Nat) (l:List AV):AV.cells ag s (.clo f l)=[.clo f l]:=rfl
theorem Zqx (ag:Bool) (s m:Nat):AV.cells ag s (.nils m)=[.nils m]:=rfl
theorem Zqw (ag:Bool) (s:Nat):AV.cells ag s .dead=[.dead]:=rfl
theorem Zqk (i:Decidable True):@decide True i=true:=by simp
theorem Zm8 (i:Decidable False):@decide False i=false:=by simp
theorem Zqr (C:Ctx) (h:Nat) (k:IntKind) (n:Int):Ud C h (.int k n)=.d (.int k n):=rfl
theorem Zqq (C:Ctx) (h:Nat) (b:Bool):Ud C h (.bool b)=.d (.bool b):=rfl
theorem Zqp (C:Ctx) (h:Nat) (b:ByteArray):Ud C h (.string b)=.d (.str b.data.toList):=rfl
theorem Zqo (C:Ctx) (h:Nat):Ud C h .nilFunc=.d .nilf:=rfl
theorem Zqn (C:Ctx) (h:Nat):Ud C h (.pointer none)=.d .nilp:=rfl
theorem Zqm (C:Ctx) (h:Nat):Ud C h (.slice none 0 0)=.nils (C.esize h):=rfl
theorem Zql (C:Ctx) (h:Nat):Ud C h (.map none)=.d .nilm:=rfl
theorem Zw9 (l:Array UInt8):(ByteArray.mk l).data=l:=rfl
theorem dB {bc:BCon} {args:List AV} {dst:Option Tmp} {K:List Nat→AS→Prop} {st:AS} (x:bc.X) (rs:List Nat) (h1:bc.ok x) (h2:rnAs rs (bc.args x)=args) (h3:rs.Nodup) (h4:rs.length=(bc.post x).length)
  (h5:Zh rs rs (bc.objs x) st.objs) (h6:Zy (rs.drop (bc.objs x).length) st.objs) (h7:Shut (K (rs.map (· % 4096)) (AS.put st dst (.d (bc.res x)) (Xn rs rs (bc.post x) st.objs)))) (h0:bc.out x=none:=by rfl):tI bc args dst K st :=
 ⟨x,rs,h1,h2,h3,h4,h5,h6,by unfold BCon.rvr;rw [h0];exact h7.out⟩
theorem Br {P:Program} {f:Nat} {bc:BCon} (h:Ph P f) (hv:∀ x,¬ bc.ok x):Wm P (f,bc):=⟨h,fun x hx=>absurd hx (hv x)⟩
theorem Z6 {bc:BCon} {args:List AV} {dst:Option Tmp} {K:AS→Prop} {st:AS} (x:bc.X) (rs:List Nat) (h1:bc.ok x) (h2:rnAs rs (bc.args x)=args) (h3:rs.Nodup) (h4:rs.length=(bc.post x).length)
  (h5:Zh rs rs (bc.objs x) st.objs) (h6:Zy (rs.drop (bc.objs x).length) st.objs) (h7:Shut (K (AS.put st dst (.d (bc.res x)) (Xn rs rs (bc.post x) st.objs)))) (h0:bc.out x=none:=by rfl):Zar bc args dst K st :=
 ⟨x,rs,h1,h2,h3,h4,h5,h6,by unfold BCon.rvr;rw [h0];exact h7.out⟩
theorem Zqg:((0:Nat):Int)=0:=rfl
theorem Zqf:((1:Nat):Int)=1:=rfl
theorem Zqj (x:D) (l:List D):el (x::l) 0=x:=rfl
theorem Zqi (x:D) (l:List D) (n:Nat):el (x::l) (n+1)=el l n:=rfl
theorem Zqe:((2:Nat):Int)=2:=rfl
theorem Zqd:((3:Nat):Int)=3:=rfl
theorem Zqc:((4:Nat):Int)=4:=rfl
theorem Zp6:Int.toNat 1=1:=rfl
theorem Zp5:Int.toNat 2=2:=rfl
theorem Zp4:Int.toNat 3=3:=rfl
theorem Zqb (k:IntKind) (n:Int) (f:Nat) (y:D):D.setCell (.int k n) f y=y:=rfl
theorem Zqa (b:Bool) (f:Nat) (y:D):D.setCell (.bool b) f y=y:=rfl
theorem Zp9 (b:List UInt8) (f:Nat) (y:D):D.setCell (.str b) f y=y:=rfl
theorem Zp8 (m:Nat) (l:List D) (f:Nat) (y:D):D.setCell (.list m l) f y=y:=rfl
theorem Zp7 {α:Type} [Enc α] [Sz α] (a:Sl α) (f:Nat) (y:D):D.setCell (enc a) f y=y:=rfl
theorem Zwq {α:Type} (l:List α):(Sl.mk l).l=l:=rfl
theorem fL (k:Nat):(NatCast.natCast k:Int)=Int.ofNat k:=rfl
theorem Z9 {α:Type} [Enc α] {l:List α} {i:Nat} (d:α) (h:i<l.length):el (l.map enc) i=enc (l.getD i d):=Zob d h
theorem Zmz:type_of% @Cs.eq_def:=@Cs.eq_def
theorem Zmy:type_of% @Ro.eq_def:=@Ro.eq_def
theorem Zmx:type_of% @Va.eq_def:=@Va.eq_def
theorem Zmw:type_of% @Jp.eq_def:=@Jp.eq_def
theorem Zmv:type_of% @AS.put.eq_def:=@AS.put.eq_def
theorem Zmu:type_of% @Od.eq_def:=@Od.eq_def
theorem Zmt:type_of% @dC.eq_def:=@dC.eq_def
theorem Zms:type_of% @Ctx.one.eq_def:=@Ctx.one.eq_def
theorem Zmr:type_of% @G7.eq_def:=@G7.eq_def
theorem Zmq:type_of% @Qt.eq_def:=@Qt.eq_def
theorem Zmp:type_of% @jD.eq_def:=@jD.eq_def
theorem Zmo:type_of% @Pq.eq_def:=@Pq.eq_def
theorem Zmn:type_of% @M4.eq_def:=@M4.eq_def
theorem Zmm:type_of% @Ctx.esize.eq_def:=@Ctx.esize.eq_def
theorem Zml:type_of% @Ctx.size.eq_def:=@Ctx.size.eq_def
theorem Zmk:type_of% @Ctx.ag.eq_def:=@Ctx.ag.eq_def
theorem Zmj:type_of% @TK.ag.eq_def:=@TK.ag.eq_def
theorem Zmi:type_of% @Ctx.elemT.eq_def:=@Ctx.elemT.eq_def
theorem Zmh:type_of% @Ctx.fieldAt.eq_def:=@Ctx.fieldAt.eq_def
theorem Zmg:type_of% @sO.eq_def:=@sO.eq_def
theorem Zmf:type_of% @Bo.eq_def:=@Bo.eq_def
theorem Zme:type_of% @De.eq_def:=@De.eq_def
theorem Zmd:type_of% @D8.eq_def:=@D8.eq_def
theorem Zmc:type_of% @Vh.eq_def:=@Vh.eq_def
theorem Zmb:type_of% @S0.eq_def:=@S0.eq_def
theorem Zma:type_of% @Vg.eq_def:=@Vg.eq_def
theorem Zl9:type_of% @Sy.eq_def:=@Sy.eq_def
theorem Zl8:type_of% @D9.eq_def:=@D9.eq_def
theorem Zl7:type_of% @Vi.eq_def:=@Vi.eq_def
theorem Zl6:type_of% @Ea.eq_def:=@Ea.eq_def
theorem Zl5:type_of% @Um.eq_def:=@Um.eq_def
theorem Zl4:type_of% @Y5.eq_def:=@Y5.eq_def
theorem Zl3:type_of% @Bn.eq_def:=@Bn.eq_def
theorem Zl2:type_of% @nZ.eq_def:=@nZ.eq_def
theorem Zl1:type_of% @qE.eq_def:=@qE.eq_def
theorem Zl0:type_of% @qF.eq_def:=@qF.eq_def
theorem Zlz:type_of% @Df.eq_def:=@Df.eq_def
theorem Zly:type_of% @G6.eq_def:=@G6.eq_def
theorem Zlx:type_of% @Fm.eq_def:=@Fm.eq_def
theorem Zlw:type_of% @cK.eq_def:=@cK.eq_def
theorem Zlv:type_of% @An.eq_def:=@An.eq_def
theorem Zlu:type_of% @Zpr.eq_def:=@Zpr.eq_def
theorem Zlt:type_of% @Xu.eq_def:=@Xu.eq_def
theorem Zls:type_of% @Ez.eq_def:=@Ez.eq_def
theorem Zlr:type_of% @K8.eq_def:=@K8.eq_def
theorem Zlq:type_of% @fO.eq_def:=@fO.eq_def
theorem Zlp:type_of% @I1.eq_def:=@I1.eq_def
theorem Zlo:type_of% @mD.eq_def:=@mD.eq_def
theorem Zln:type_of% @tQ.eq_def:=@tQ.eq_def
theorem Zlm:type_of% @Nk.eq_def:=@Nk.eq_def
theorem Zll:type_of% @AV.fits.eq_def:=@AV.fits.eq_def
theorem Zlk:type_of% @Obj.isBox.eq_def:=@Obj.isBox.eq_def
theorem Zlj:type_of% @lU.eq_def:=@lU.eq_def
theorem Zli:type_of% @fE.eq_def:=@fE.eq_def
theorem Zlh:type_of% @Zcm.eq_def:=@Zcm.eq_def
theorem Zlg:type_of% @kI.eq_def:=@kI.eq_def
theorem Zlf:type_of% @Lb.eq_def:=@Lb.eq_def
theorem Zle:type_of% @Zbb.eq_def:=@Zbb.eq_def
theorem Zld:type_of% @J7.eq_def:=@J7.eq_def
theorem Zlc:type_of% @rk.eq_def:=@rk.eq_def
theorem Zlb:type_of% @V9.eq_def:=@V9.eq_def
theorem Zla:type_of% @yI.eq_def:=@yI.eq_def
theorem Zk9:type_of% @fI.eq_def:=@fI.eq_def
theorem Zk8:type_of% @aI.eq_def:=@aI.eq_def
theorem Zk7:type_of% @SK.is.eq_def:=@SK.is.eq_def
theorem Zk6:type_of% @eL.eq_def:=@eL.eq_def
theorem Zk5:type_of% @nH.eq_def:=@nH.eq_def
theorem Zk4:type_of% @AS.ev.eq_def:=@AS.ev.eq_def
theorem Zk3:type_of% @Zq.eq_def:=@Zq.eq_def
theorem Zk2:type_of% @kH.eq_def:=@kH.eq_def
theorem Zk1:type_of% @keysAll.eq_def:=@keysAll.eq_def
theorem Zk0:type_of% @AV.keys.eq_def:=@AV.keys.eq_def
theorem Zkz:type_of% @Ww.eq_def:=@Ww.eq_def
theorem Zky:type_of% @X8.eq_def:=@X8.eq_def
theorem Zkx:type_of% @Ui.eq_def:=@Ui.eq_def
theorem Zkw:type_of% @eI.eq_def:=@eI.eq_def
theorem Zkv:type_of% @Y9.eq_def:=@Y9.eq_def
theorem Zku:type_of% @Oc.eq_def:=@Oc.eq_def
theorem Zkt:type_of% @M3.eq_def:=@M3.eq_def
theorem Zks:type_of% @Pg.eq_def:=@Pg.eq_def
theorem Zkr:type_of% @Rw.eq_def:=@Rw.eq_def
theorem Zkq:type_of% @Xw.eq_def:=@Xw.eq_def
theorem Zkp:type_of% @lk.eq_def:=@lk.eq_def
theorem Zko:type_of% @upd.eq_def:=@upd.eq_def
theorem Zkn:type_of% @Zby.eq_def:=@Zby.eq_def
theorem Zkm:type_of% @Bh.eq_def:=@Bh.eq_def
theorem Zkl:type_of% @Zbz.eq_def:=@Zbz.eq_def
theorem Zkk:type_of% @Jn.eq_def:=@Jn.eq_def
theorem Zkj:type_of% @rnA.eq_def:=@rnA.eq_def
theorem Zki:type_of% @rnAs.eq_def:=@rnAs.eq_def
theorem Zkh:type_of% @Zh.eq_def:=@Zh.eq_def
theorem Zkg:type_of% @Zy.eq_def:=@Zy.eq_def
theorem Zkf:type_of% @Xn.eq_def:=@Xn.eq_def
theorem Zke:type_of% @Sn.eq_def:=@Sn.eq_def
theorem Zkd:type_of% @eE.eq_def:=@eE.eq_def
theorem Zkc:type_of% @AV.off.eq_def:=@AV.off.eq_def
theorem Zkb:type_of% @offAll.eq_def:=@offAll.eq_def
theorem Zka:type_of% @W6.eq_def:=@W6.eq_def
theorem Zj9:type_of% @bP.eq_def:=@bP.eq_def
theorem Zj8:type_of% @Xp.eq_def:=@Xp.eq_def
theorem Zj7:type_of% @Option.toList.eq_def:=@Option.toList.eq_def
theorem Zj6:type_of% @Y2.eq_def:=@Y2.eq_def
theorem Zj5:type_of% @Wu.eq_def:=@Wu.eq_def
theorem Zj4:type_of% @Uz.eq_def:=@Uz.eq_def
theorem Zj3:type_of% @Vd.eq_1:=@Vd.eq_1
theorem Zj2:type_of% @Vd.eq_2:=@Vd.eq_2
theorem Zj1:type_of% @Yp.eq_1:=@Yp.eq_1
theorem Zj0:type_of% @Yp.eq_2:=@Yp.eq_2
theorem Zjz:type_of% @Km.eq_1:=@Km.eq_1
theorem Zjy:type_of% @Km.eq_2:=@Km.eq_2
theorem Zjx:type_of% @Km.eq_3:=@Km.eq_3
theorem Zjw:type_of% @Km.eq_4:=@Km.eq_4
theorem Zjv:type_of% @Ap.eq_1:=@Ap.eq_1
theorem Zju:type_of% @Ap.eq_2:=@Ap.eq_2
theorem Zjt:type_of% @Ap.eq_3:=@Ap.eq_3
theorem Zjs:type_of% @Yz.eq_1:=@Yz.eq_1
theorem Zjr:type_of% @Yz.eq_2:=@Yz.eq_2
theorem Zjq:type_of% @Yz.eq_3:=@Yz.eq_3
theorem Zjp:type_of% @Nf.eq_1:=@Nf.eq_1
theorem Zjo:type_of% @Nf.eq_2:=@Nf.eq_2
theorem Zjn:type_of% @Uu.eq_1:=@Uu.eq_1
theorem Zjm:type_of% @Uu.eq_2:=@Uu.eq_2
theorem Zjl:type_of% @pur.eq_1:=@pur.eq_1
theorem Zjk:type_of% @pur.eq_2:=@pur.eq_2
theorem Zjj:type_of% @pur.eq_3:=@pur.eq_3
theorem Zji:type_of% @pur.eq_4:=@pur.eq_4
theorem Zjh:type_of% @pur.eq_5:=@pur.eq_5
theorem Zjg:type_of% @pur.eq_6:=@pur.eq_6
theorem Zjf:type_of% @pur.eq_7:=@pur.eq_7
theorem Zje:type_of% @pur.eq_8:=@pur.eq_8
theorem Zjd:type_of% @purs.eq_1:=@purs.eq_1
theorem Zjc:type_of% @purs.eq_2:=@purs.eq_2
theorem Zjb:type_of% @purs.eq_3:=@purs.eq_3
theorem Zja:type_of% @wS.eq_1:=@wS.eq_1
theorem Zi9:type_of% @wS.eq_2:=@wS.eq_2
theorem Zi8:type_of% @D.asAgg.eq_1:=@D.asAgg.eq_1
theorem Zi7:type_of% @D.setCell.eq_1:=@D.setCell.eq_1
theorem Zi6:type_of% @AV.cells.eq_1:=@AV.cells.eq_1
theorem Zi5:type_of% @AV.cells.eq_2:=@AV.cells.eq_2
theorem Zi4:type_of% @Pd.eq_1:=@Pd.eq_1
theorem Zi3:type_of% @Xd.eq_1:=@Xd.eq_1
theorem Zi2:type_of% @Vy.eq_1:=@Vy.eq_1
theorem Zi1:type_of% @kJ.eq_1:=@kJ.eq_1
theorem Zi0:type_of% @Znf.eq_1:=@Znf.eq_1
theorem Ziz:type_of% @Zne.eq_1:=@Zne.eq_1
theorem Ziy:type_of% @U9.eq_1:=@U9.eq_1
theorem Zix:type_of% @U9.eq_2:=@U9.eq_2
theorem Ziw:type_of% @D.eqb.eq_1:=@D.eqb.eq_1
theorem Ziv:type_of% @D.eqb.eq_2:=@D.eqb.eq_2
theorem Ziu:type_of% @D.eqb.eq_3:=@D.eqb.eq_3
theorem Zit:type_of% @oZ:=@oZ
theorem Zis:type_of% @dW:=@dW
theorem Zir:type_of% @oY:=@oY
theorem Ziq:type_of% @tG:=@tG
theorem Zip:type_of% @aR:=@aR
theorem Zio:type_of% @aS:=@aS
theorem Zin:type_of% @iF:=@iF
theorem Zim:type_of% @oX:=@oX
theorem Zil:type_of% @oJ:=@oJ
theorem Zik:type_of% @tH:=@tH
theorem Zij:type_of% @Zwu:=@Zwu
theorem Zii:type_of% @aP:=@aP
theorem Zih:type_of% @Iv:=@Iv
theorem Zig:type_of% @Zwy:=@Zwy
theorem Zif:type_of% @Zwx:=@Zwx
theorem Zie:type_of% @Zww:=@Zww
theorem Zid:type_of% @Zwv:=@Zwv
theorem Zic:type_of% @Zwp:=@Zwp
theorem Zib:type_of% @Zwo:=@Zwo
theorem Zia:type_of% @Zwn:=@Zwn
theorem Zh9:type_of% @Zwm:=@Zwm
theorem Zh8:type_of% @Zwl:=@Zwl
theorem Zh7:type_of% @Zwk:=@Zwk
theorem Zh6:type_of% @Zw8:=@Zw8
theorem Zh5:type_of% @Zw7:=@Zw7
theorem Zh4:type_of% @Zw6:=@Zw6
theorem Zh3:type_of% @Zw5:=@Zw5
theorem Zh2:type_of% @Zw4:=@Zw4
theorem Zh1:type_of% @Zw3:=@Zw3
theorem Zh0:type_of% @Zxb:=@Zxb
theorem Zhz:type_of% @Zxa:=@Zxa
theorem Zhy:type_of% @Zwt:=@Zwt
theorem Zhx:type_of% @Zws:=@Zws
theorem Zhw:type_of% @Zw2:=@Zw2
theorem Zhv:type_of% @Zw1:=@Zw1
theorem Zhu:type_of% @Zw0:=@Zw0
theorem Zht:type_of% @Zwz:=@Zwz
theorem Zhs:type_of% @Zwr:=@Zwr
theorem Zhr:type_of% @yD:=@yD
theorem Zhq:type_of% @sJ:=@sJ
theorem Zhp:type_of% @Zm5:=@Zm5
theorem Zho:type_of% @Zm4:=@Zm4
theorem Zhn:type_of% @Zm7:=@Zm7
theorem Zhm:type_of% @Zm6:=@Zm6
theorem Zhl:type_of% @yE:=@yE
theorem Zhk:type_of% @yF:=@yF
theorem Zhj:type_of% @Ft:=@Ft
theorem Zhi:type_of% @K6:=@K6
theorem Zhh:type_of% @bO:=@bO
theorem Zhg:type_of% @Yb:=@Yb
theorem Zhf:type_of% @sN:=@sN
theorem Zhe:type_of% @kA:=@kA
theorem Zhd:type_of% @sX:=@sX
theorem Zhc:type_of% @jH:=@jH
theorem Zhb:type_of% @Tt:=@Tt
theorem Zha:type_of% @Mo:=@Mo
theorem Zg9:type_of% @Ts:=@Ts
theorem Zg8:type_of% @Mn:=@Mn
theorem Zg7:type_of% @Hs:=@Hs
theorem Zg6:type_of% @Fz:=@Fz
theorem Zg5:type_of% @T3:=@T3
theorem Zg4:type_of% @Fx:=@Fx
theorem Zg3:type_of% @T1:=@T1
theorem Zg2:type_of% @F4:=@F4
theorem Zg1:type_of% @Fy:=@Fy
theorem Zg0:type_of% @F3:=@F3
theorem Zgz:type_of% @Tz:=@Tz
theorem Zgy:type_of% @T0:=@T0
theorem Zgx:type_of% @Rh:=@Rh
theorem Zgw:type_of% @Cq:=@Cq
theorem Zgv:type_of% @Re:=@Re
theorem Zgu:type_of% @Co:=@Co
theorem Zgt:type_of% @Ri:=@Ri
theorem Zgs:type_of% @Rg:=@Rg
theorem Zgr:type_of% @Rj:=@Rj
theorem Zgq:type_of% @encI_def:=@encI_def
theorem Zgp:type_of% @encB_def:=@encB_def
theorem Zgo:type_of% @encS_def:=@encS_def
theorem Zgn:type_of% @sG:=@sG
theorem Zgm:type_of% @Bm:=@Bm
theorem Zgl:type_of% @T2:=@T2
theorem Zgk:type_of% @Cp:=@Cp
theorem Zgj:type_of% @Ztk:=@Ztk
theorem Zgi:type_of% @Ztl:=@Ztl
theorem Zgh:type_of% @Zti:=@Zti
theorem Zgg:type_of% @Ztj:=@Ztj
theorem Zgf:type_of% @List.getD_cons_zero:=@List.getD_cons_zero
theorem Zge:type_of% @List.getD_cons_succ:=@List.getD_cons_succ
theorem Zgd:type_of% @List.set_cons_zero:=@List.set_cons_zero
theorem Zgc:type_of% @List.set_cons_succ:=@List.set_cons_succ
theorem Zgb:type_of% @List.cons_append:=@List.cons_append
theorem Zga:type_of% @List.nil_append:=@List.nil_append
theorem Zf9:type_of% @List.take_succ_cons:=@List.take_succ_cons
theorem Zf8:type_of% @List.take_zero:=@List.take_zero
theorem Zf7:type_of% @List.drop_succ_cons:=@List.drop_succ_cons
theorem Zf6:type_of% @List.drop_zero:=@List.drop_zero
theorem Zf5:type_of% @aQ:=@aQ
theorem Zf4:type_of% @Rb:=@Rb
theorem Zf3:type_of% @O9:=@O9
theorem Zf2:type_of% @Ra:=@Ra
theorem Zf1:type_of% @F9:=@F9
theorem Zf0:type_of% @Wv:=@Wv
theorem Zfz:type_of% @O7:=@O7
theorem Zfy:type_of% @Fi:=@Fi
theorem Zfx:type_of% @O6:=@O6
theorem Zfw:type_of% @Fh:=@Fh
theorem Zfv:type_of% @Bool.not_true:=@Bool.not_true
theorem Zfu:type_of% @Bool.not_false:=@Bool.not_false
theorem Zft:type_of% @Bool.not_not:=@Bool.not_not
theorem Zfs:type_of% @Int.toNat_natCast:=@Int.toNat_natCast
theorem Zfr:type_of% @Int.toNat_zero:=@Int.toNat_zero
theorem Zfq:type_of% @rU:=@rU
theorem Zfp:type_of% @Ztq:=@Ztq
theorem Zfo:type_of% @Zwq:=@Zwq
theorem Zfn:type_of% @Zqj:=@Zqj
theorem Zfm:type_of% @Zqi:=@Zqi
theorem Zfl:type_of% @Zqe:=@Zqe
theorem Zfk:type_of% @Zqd:=@Zqd
theorem Zfj:type_of% @Zqc:=@Zqc
theorem Zfi:type_of% @Zp6:=@Zp6
theorem Zfh:type_of% @Zp5:=@Zp5
theorem Zfg:type_of% @Zp4:=@Zp4
theorem Zff:type_of% @Zqb:=@Zqb
theorem Zfe:type_of% @Zqa:=@Zqa
theorem Zfd:type_of% @Zp9:=@Zp9
theorem Zfc:type_of% @Zp8:=@Zp8
theorem Zfb:type_of% @Zp7:=@Zp7
theorem Zfa:type_of% @Zqg:=@Zqg
theorem Ze9:type_of% @Zqf:=@Zqf
theorem Ze8:type_of% @Zqk:=@Zqk
theorem Ze7:type_of% @Zm8:=@Zm8
theorem Ze6:type_of% @Zqr:=@Zqr
theorem Ze5:type_of% @Zqq:=@Zqq
theorem Ze4:type_of% @Zqp:=@Zqp
theorem Ze3:type_of% @Zqo:=@Zqo
theorem Ze2:type_of% @Zqn:=@Zqn
theorem Ze1:type_of% @Zqm:=@Zqm
theorem Ze0:type_of% @Zw9:=@Zw9
theorem Zez:type_of% @Bool.and_true:=@Bool.and_true
theorem Zey:type_of% @Bool.true_and:=@Bool.true_and
theorem Zex:type_of% @Bool.and_false:=@Bool.and_false
theorem Zew:type_of% @Bool.false_and:=@Bool.false_and
theorem Zev:type_of% @Zra:=@Zra
theorem Zeu:type_of% @Zq9:=@Zq9
theorem Zet:type_of% @Zq8:=@Zq8
theorem Zes:type_of% @Zq7:=@Zq7
theorem Zer:type_of% @Zq6:=@Zq6
theorem Zeq:type_of% @Zq5:=@Zq5
theorem Zep:type_of% @Zq4:=@Zq4
theorem Zeo:type_of% @Zq3:=@Zq3
theorem Zen:type_of% @Zq2:=@Zq2
theorem Zem:type_of% @Zq1:=@Zq1
theorem Zel:type_of% @Zq0:=@Zq0
theorem Zek:type_of% @Zqz:=@Zqz
theorem Zej:type_of% @Zqy:=@Zqy
theorem Zei:type_of% @Zqx:=@Zqx
theorem Zeh:type_of% @Zqw:=@Zqw
theorem Zeg:type_of% @Bool.true_eq_false:=@Bool.true_eq_false
theorem Zef:type_of% @Bool.false_eq_true:=@Bool.false_eq_true
theorem Zee:type_of% @true_and:=@true_and
theorem Zed:type_of% @and_true:=@and_true
theorem Zec:type_of% @and_assoc:=@and_assoc
theorem Zeb:type_of% @List.length_map:=@List.length_map
theorem Zea:type_of% @List.append_nil:=@List.append_nil
theorem Zd9:type_of% @List.getD_nil:=@List.getD_nil
theorem Zd8:type_of% @F5.eq_def:=@F5.eq_def
theorem Zd7:type_of% @Zqv:=@Zqv
theorem Zd6:type_of% @mK.eq_def:=@mK.eq_def
theorem Zd5:type_of% @Ae.eq_def:=@Ae.eq_def
theorem Zd4:type_of% @Mr.eq_def:=@Mr.eq_def
theorem Zd3:type_of% @Ul.eq_def:=@Ul.eq_def
theorem Zd2:type_of% @Px.eq_def:=@Px.eq_def
theorem Zd1:type_of% @Nt.eq_def:=@Nt.eq_def
theorem Zd0:type_of% @Yo.eq_def:=@Yo.eq_def
theorem Zdz:type_of% @Ctx.mapE.eq_def:=@Ctx.mapE.eq_def
theorem Zdy:type_of% @Zqu:=@Zqu
theorem Zdx:type_of% @Zqt:=@Zqt
theorem Zdw:type_of% @Zqs:=@Zqs
theorem Zdv:type_of% @pur.eq_9:=@pur.eq_9
theorem Zdu:type_of% @nB:=@nB
theorem Zdt:type_of% @gT:=@gT
theorem Zds:type_of% @nO:=@nO
theorem Zdr:type_of% @Zau.eq_def:=@Zau.eq_def
theorem Zdq:type_of% @yH.eq_def:=@yH.eq_def
theorem Zdp:type_of% @Zql:=@Zql
theorem Zdo:type_of% @Xe.eq_def:=@Xe.eq_def
theorem Zdn:type_of% @S1.eq_def:=@S1.eq_def
theorem Zdm:type_of% @Zm1.eq_1:=@Zm1.eq_1
theorem Zdl:type_of% @Zm1.eq_2:=@Zm1.eq_2
theorem Zdk:type_of% @Zbl.eq_1:=@Zbl.eq_1
theorem Zdj:type_of% @Zbl.eq_2:=@Zbl.eq_2
theorem Zdi:type_of% @cC.eq_def:=@cC.eq_def
theorem Zdh:type_of% @S5.eq_def:=@S5.eq_def
theorem Zdg:type_of% @Lm.eq_def:=@Lm.eq_def
theorem Zdf:type_of% @Nw.eq_def:=@Nw.eq_def
theorem Zde:type_of% @Un.eq_def:=@Un.eq_def
theorem Zdd:type_of% @Y4.eq_def:=@Y4.eq_def
theorem Zdc:type_of% @Kj.eq_def:=@Kj.eq_def
theorem Zdb:type_of% @Zm0.eq_def:=@Zm0.eq_def
theorem Zda:type_of% @wH.eq_def:=@wH.eq_def
theorem Zc9:type_of% @Ms.eq_def:=@Ms.eq_def
theorem Zc8:type_of% @qD.eq_def:=@qD.eq_def
theorem Zc7:type_of% @mU.eq_def:=@mU.eq_def
theorem Zpq:type_of% @Int.ofNat_eq_natCast:=@Int.ofNat_eq_natCast
theorem uB:(type_of% @List.length_cons.{0})∧(type_of% @List.length_nil.{0})∧(type_of% @List.cons_append.{0})∧(type_of% @List.nil_append.{0})∧(type_of% @and_assoc)∧(type_of% @true_and)∧(type_of% @and_true)∧(type_of% @List.map_cons.{0,0})∧(type_of% @List.map_nil.{0,0})∧(type_of% @Tt)∧(type_of% @Mo)∧(type_of% @Ts)∧(type_of% @Mn)∧(type_of% @Hs)∧(type_of% @sN)∧(type_of% @kA)∧(type_of% @sX)∧(type_of% @jH)∧(type_of% @Fz)∧(type_of% @T3)∧(type_of% @Fx)∧(type_of% @T1)∧(type_of% @F4)∧(type_of% @Fy)∧(type_of% @F3)∧(type_of% @Tz)∧(type_of% @T0)∧(type_of% @Rh)∧(type_of% @Cq)∧(type_of% @Re)∧(type_of% @Co)∧(type_of% @Ri)∧(type_of% @Rg)∧(type_of% @Rj)∧(type_of% @encI_def)∧(type_of% @encB_def)∧(type_of% @encS_def)∧(type_of% @Znc)∧(type_of% @Znh)∧(type_of% @Zm3)∧(type_of% @gG)∧(type_of% @cJ)∧(type_of% @gE)∧(type_of% @hZ)∧(type_of% @iC)∧(type_of% @hD)∧(type_of% @iD)∧(type_of% @gU)∧(type_of% @iB)∧(type_of% @Fj)∧(type_of% @sG)∧(type_of% @Bm)∧(type_of% @T2)∧(type_of% @Cp)∧(type_of% @aQ)∧(type_of% @Rb)∧(type_of% @O9)∧(type_of% @Ra)∧(type_of% @O7)∧(type_of% @Fi)∧(type_of% @O6)∧(type_of% @Fh)∧(type_of% @F9)∧(type_of% @mT)∧(type_of% @sH)∧(type_of% @Wv)∧(type_of% @Xs)∧(type_of% @Jl)∧(type_of% @Pt)∧(type_of% @Vu)∧(type_of% @Ztk)∧(type_of% @Ztl)∧(type_of% @Zti)∧(type_of% @Ztj)∧(type_of% @Zng)∧(type_of% @Zrg)∧(type_of% @Zp3)∧(type_of% @Znb)∧(type_of% @Zrk)∧(type_of% @Ztq)∧(type_of% @List.length_map.{0,0})∧(type_of% @List.length_append.{0})∧(type_of% @List.length_replicate.{0})∧(type_of% @Int.toNat_natCast)∧(type_of% @Bool.not_true)∧(type_of% @Bool.not_false)∧(type_of% @Bool.not_not)∧(type_of% @decide_true)∧(type_of% @decide_false)∧(type_of% @Bool.and_true)∧(type_of% @Bool.true_and)∧(type_of% @Bool.and_false)∧(type_of% @Bool.false_and)∧(type_of% @Bool.or_true)∧(type_of% @Bool.true_or)∧(type_of% @Bool.or_false)∧(type_of% @Bool.false_or)∧(type_of% @List.length_singleton.{0})∧(type_of% @decide_eq_true_eq)∧(type_of% @decide_eq_false_iff_not)∧(type_of% @beq_iff_eq.{0})∧(type_of% @beq_eq_false_iff_ne.{0})∧(type_of% @bne_iff_ne.{0})∧(type_of% @bne_eq_false_iff_eq.{0})∧(type_of% @Bool.not_eq_true')∧(type_of% @Bool.not_eq_false')∧(type_of% @forall_const.{1})∧(type_of% @true_imp_iff)∧(type_of% @false_imp_iff)∧(type_of% @if_true.{1})∧(type_of% @if_false.{1})∧(type_of% @and_self)∧(type_of% @or_self)∧(type_of% @not_true)∧(type_of% @not_false_eq_true)∧(type_of% @List.append_nil.{0})∧(type_of% @D.bool.injEq)∧(type_of% @D.int.injEq)∧(type_of% @D.str.injEq)∧(type_of% @D.list.injEq)∧(type_of% @D.agg.injEq)∧(type_of% @bne_self_eq_false.{0})∧(type_of% @CV.d.injEq)∧(type_of% @CV.own.injEq)∧(type_of% @CV.tup.injEq)∧(type_of% @List.cons.injEq.{0})∧(type_of% @List.toList_toArray.{0})∧(type_of% @Option.some.injEq.{0})∧(type_of% @Prod.mk.injEq.{0,0})∧(type_of% @List.take_succ_cons.{0})∧(type_of% @List.take_zero.{0})∧(type_of% @List.drop_succ_cons.{0})∧(type_of% @List.drop_zero.{0})∧(type_of% @List.getD_nil.{0})∧(type_of% @mF)∧(type_of% @fT)∧(type_of% @fU)∧(type_of% @fS)∧(type_of% @sK)∧(type_of% @List.not_mem_nil.{0})∧(type_of% @false_implies)∧(type_of% @implies_true.{1})∧(type_of% @List.mem_cons.{0})∧(type_of% @or_false)∧(type_of% @forall_eq_or_imp.{1})∧(type_of% @forall_eq.{1})∧(type_of% @ne_eq.{1})∧(type_of% @cond_true.{1})∧(type_of% @cond_false.{1})∧(type_of% @Bool.false_eq_true):=⟨@List.length_cons.{0},@List.length_nil.{0},@List.cons_append.{0},@List.nil_append.{0},@and_assoc,@true_and,@and_true,@List.map_cons.{0,0},@List.map_nil.{0,0},@Tt,@Mo,@Ts,@Mn,@Hs,@sN,@kA,@sX,@jH,@Fz,@T3,@Fx,@T1,@F4,@Fy,@F3,@Tz,@T0,@Rh,@Cq,@Re,@Co,@Ri,@Rg,@Rj,@encI_def,@encB_def,@encS_def,@Znc,@Znh,@Zm3,@gG,@cJ,@gE,@hZ,@iC,@hD,@iD,@gU,@iB,@Fj,@sG,@Bm,@T2,@Cp,@aQ,@Rb,@O9,@Ra,@O7,@Fi,@O6,@Fh,@F9,@mT,@sH,@Wv,@Xs,@Jl,@Pt,@Vu,@Ztk,@Ztl,@Zti,@Ztj,@Zng,@Zrg,@Zp3,@Znb,@Zrk,@Ztq,@List.length_map.{0,0},@List.length_append.{0},@List.length_replicate.{0},@Int.toNat_natCast,@Bool.not_true,@Bool.not_false,@Bool.not_not,@decide_true,@decide_false,@Bool.and_true,@Bool.true_and,@Bool.and_false,@Bool.false_and,@Bool.or_true,@Bool.true_or,@Bool.or_false,@Bool.false_or,@List.length_singleton.{0},@decide_eq_true_eq,@decide_eq_false_iff_not,@beq_iff_eq.{0},@beq_eq_false_iff_ne.{0},@bne_iff_ne.{0},@bne_eq_false_iff_eq.{0},@Bool.not_eq_true',@Bool.not_eq_false',@forall_const.{1},@true_imp_iff,@false_imp_iff,@if_true.{1},@if_false.{1},@and_self,@or_self,@not_true,@not_false_eq_true,@List.append_nil.{0},@D.bool.injEq,@D.int.injEq,@D.str.injEq,@D.list.injEq,@D.agg.injEq,@bne_self_eq_false.{0},@CV.d.injEq,@CV.own.injEq,@CV.tup.injEq,@List.cons.injEq.{0},@List.toList_toArray.{0},@Option.some.injEq.{0},@Prod.mk.injEq.{0,0},@List.take_succ_cons.{0},@List.take_zero.{0},@List.drop_succ_cons.{0},@List.drop_zero.{0},@List.getD_nil.{0},@mF,@fT,@fU,@fS,@sK,@List.not_mem_nil.{0},@false_implies,@implies_true.{1},@List.mem_cons.{0},@or_false,@forall_eq_or_imp.{1},@forall_eq.{1},@ne_eq.{1},@cond_true.{1},@cond_false.{1},@Bool.false_eq_true⟩
end Go.Am
