/- Contracts of functions that the law reaches, and plain laws. Conditions: those that each contract states. -/
import Derived.Test.YtilpfkjhahnfaaaGreatH3
import Derived.ProofKit
import Derived.OpenShut
import Derived.JoinedCond
import Derived.JoinedOf
import Derived.Carry
import Derived.Deep.Slices
set_option maxHeartbeats 400000
set_option linter.unusedVariables false
set_option linter.unusedSimpArgs false
variable {p:Prop}
namespace Go.Am
open Go.RowKit (Below)
section
variable {P:Program} {C:Ctx}
variable {base:Nat} {pass:Nat→Prop} {F0:Anc} {st:AS} {a:Act} {w:World}
theorem Zmc {α:Type} {l:List α} {i:Nat} {x d:α} (h:l.getD i d=x) (hi:i<l.length):l.set i x=l:=by
 apply List.ext_getElem?;intro j;rw [List.getElem?_set];by_cases hij:i=j
 ·subst hij;rw [if_pos rfl,if_pos hi];rw [Zd,Zh hi] at h;rw [Zh hi,←h];rfl
 ·rw [if_neg hij]
theorem Az {ops:List Oper} {j t:Nat} {b:Bool} (h:Xk ops st j=.b t b):∃ g,ops[j]?=some g∧g.dst=some t∧t<st.tmps.length∧st.tmps.getD t .dead=.d (.bool b):=by
 unfold Xk at h;split at h
 ·next g hg =>
  split at h
  ·next t' ht =>
   split at h
   ·next b' hb =>
    injection h with h1 h2
    subst h1;subst h2;refine ⟨g,hg,ht,?_,hb⟩;rcases Nat.lt_or_ge t' st.tmps.length with hlt|hge
    ·exact hlt
    ·rw [Zd,List.getElem?_eq_none hge] at hb;simp at hb
   ·cases h
   ·cases h
  ·cases h
 ·cases h
theorem Ew {m:Nat→Nat} {G:Gh} (h:SRg base pass F0 m G st a w) {ops:List Oper} {j t:Nat} {b:Bool} (hg:Xk ops st j=.b t b):yielded ops.toArray a.tmps j=some b:=by
 obtain ⟨g,h1,h2,h3,h4⟩:=Az hg;have hx:st.tmps[t]?=some (.d (.bool b)):=by
  rw [Zh h3];rw [Zd,Zh h3] at h4;simpa using h4
 obtain ⟨u,hu,hr⟩:=h.tmps.at hx;simp only [RA,R] at hr;subst hr;have hu':a.tmps[t]?=some (.bool b):=by simpa using hu
 simp [yielded,h1,h2,hu']
theorem yJ {m:Nat→Nat} {G:Gh} (h:SRg base pass F0 m G st a w) {ops:List Oper} {j:Nat} (hg:Xk ops st j=.und):yielded ops.toArray a.tmps j=none:=by
 unfold Xk at hg;split at hg
 ·next g hj =>
  split at hg
  ·next t ht =>
   split at hg
   ·cases hg
   ·next hb =>
    have hlt:t<st.tmps.length:=by
     rcases Nat.lt_or_ge t st.tmps.length with hlt|hge
     ·exact hlt
     ·rw [Zd,List.getElem?_eq_none hge] at hb;simp at hb
    have hx:st.tmps[t]?=some (.d (.tup [])):=by
     rw [Zh hlt];rw [Zd,Zh hlt] at hb;simpa using hb
    obtain ⟨u,hu,hr⟩:=h.tmps.at hx;simp only [RA,R,Rs] at hr;obtain ⟨cs,rfl,rfl⟩:=hr;have hu':a.tmps[t]?=some (.tuple #[]):=by simpa using hu
    simp [yielded,hj,ht,hu']
   ·cases hg
  ·cases hg
 ·cases hg
theorem pU {F:Fix} {G:Gh} {L:Nat→Option Obj}:RA F G L (.d (.tup [])) undef:=by
 simp only [RA,R,Rs];exact ⟨[],rfl,rfl⟩
theorem Zo5 (K:Bi P C) {m:Nat→Nat} {G:Gh} (h:SRg base pass F0 m G st a w) {o:Oper} {bc:BCon} {x:bc.X} {rs:List Nat} (hb:Qan C o st=some (bc,rnAs rs (bc.args x))) (hok:bc.ok x)
  (hnd:rs.Nodup) (hlen:rs.length=(bc.post x).length) (hst:Q3 rs rs (bc.objs x) st.objs) (hfr:X6 (rs.drop (bc.objs x).length) st.objs) {N:Act→World→Prop} {Q:Exit→Act→World→Prop}
  (hn:kA base pass F0 a st.tmps o.dst (bc.rvr rs x) (Yn rs rs (bc.post x) st.objs) N):o.wp P a w N Q:=by
 unfold Qan at hb;split at hb
 ·next cl hop =>
  have e:cl.args.map a.eval=(cl.args.toList.map a.eval).toArray:=by cases cl.args;simp
  split at hb
  ·next f hcal =>
   split at hb
   ·next bc' hf =>
    injection hb with hb
    injection hb with hb1 hb2
    subst hb1;have hx:=Ny (C:=C) h.tmps cl.args.toList cl.argTypes.toList;rw [hb2] at hx;obtain ⟨hent,hcalls⟩:=aO K h hf hok hx hnd hlen hst hfr;refine Cz (st:=st) (args:=(cl.args.toList.map a.eval).toArray) ?_ hcalls hn;have:=hent (cl.args.toList.map a.eval).toArray w;simp only [execOp,hop,resolve,hcal,Act.eval,Deferred.ofValue];simpa [invoke,e] using this
   ·cases hb
  ·next f hcal =>
   have hf0:=Ys (C:=C) (hint:=0) h.tmps (.tmp f);split at hb
   ·next g caps hfv =>
    split at hb
    ·next bc' hf =>
     injection hb with hb
     injection hb with hb1 hb2
     subst hb1;rw [hfv] at hf0;simp only [RA,R] at hf0;obtain ⟨cs,hfe,hcs⟩:=hf0;have hx:=RAs.append (Ny (C:=C) h.tmps cl.args.toList cl.argTypes.toList) (RAs.of_Rs (G:=G) (L:=lk st.objs) hcs);rw [hb2] at hx;obtain ⟨hent,hcalls⟩:=aO K h hf hok hx hnd hlen hst hfr;refine Cz (st:=st) (args:=(cl.args.toList.map a.eval++cs).toArray) ?_ hcalls hn;have:=hent (cl.args.toList.map a.eval++cs).toArray w;simp only [execOp,hop,resolve,hcal,hfe,Deferred.ofValue];simpa [invoke,e] using this
    ·cases hb
   ·next g caps hfv =>
    split at hb
    ·next bc' hf =>
     injection hb with hb
     injection hb with hb1 hb2
     subst hb1;rw [hfv] at hf0;simp only [RA] at hf0;obtain ⟨cs,hfe,hcs⟩:=hf0;have hx:=RAs.append (Ny (C:=C) h.tmps cl.args.toList cl.argTypes.toList) hcs;rw [hb2] at hx;obtain ⟨hent,hcalls⟩:=aO K h hf hok hx hnd hlen hst hfr;refine Cz (st:=st) (args:=(cl.args.toList.map a.eval++cs).toArray) ?_ hcalls hn;have:=hent (cl.args.toList.map a.eval++cs).toArray w;simp only [execOp,hop,resolve,hcal,hfe,Deferred.ofValue];simpa [invoke,e] using this
    ·cases hb
   ·cases hb
  ·cases hb
 ·cases hb
theorem Qdn (K:Bi P C) {m:Nat→Nat} {G:Gh} (h:SRg base pass F0 m G st a w) {o:Oper} {i n s k:Nat} {b:D} {els:List D} (hb:Zor C o st=some (i,n,b,s,els,k))
  (hc:n=els.length∧b.isAnyInt∧0≤b.i∧b.i≤els.length∧(k:Int)≤b.i∧U3 i st.objs=true∧i<90000) {N:Act→World→Prop} {Q:Exit→Act→World→Prop}
  (hn:kA base pass F0 a (Nc i st.tmps) o.dst (.sl i b.i.toNat) (upd st.objs i (.row s (els.take b.i.toNat) k)) N):o.wp P a w N Q:=by
 obtain ⟨c1,c2,c3,c4,c5,c6,c7⟩:=hc;unfold Zor at hb;split at hb
 ·next t x hi d hop hdst =>
  split at hb
  ·split at hb
   ·next e i' n' b' hk hx hhi =>
    split at hb
    ·next s' els' k' hl =>
     split at hb
     ·next hs =>
      simp only [Zc,Ze] at hb;obtain ⟨rfl,rfl,rfl,rfl,rfl,rfl⟩:=hb;have hvx:=Ys (C:=C) (hint:=t) h.tmps x;have hvh:=Ys (C:=C) (hint:=0) h.tmps hi;rw [hx] at hvx;rw [hhi] at hvh;simp only [RA,hl] at hvx hvh;have hv:=hvx.2.2 c1;obtain ⟨q2,hq⟩:=hvh.of_anyInt c2;obtain ⟨dd,hd,hkd⟩:=K.1.kind hk rfl;simp only [TK.is] at hkd;obtain ⟨rfl,he⟩:=hkd;have hsz:=Gg (K.1 e he);obtain ⟨A,cp,hhd,hle⟩:∃ A cp,G.hd i'=.slice A els'.length cp∧els'.length≤cp:=by
       have hob:=h.objs i' _ hl;simp only [Qz] at hob;rcases hob with ⟨_,h2,h3,_⟩|⟨bb,cap,cs,ty,_,h2,h3,_⟩
       ·subst h3;exact ⟨none,0,by rw [h2];rfl,Zq _⟩
       ·exact ⟨_,cap,h2,h3⟩
      have hnb:b'.i.toNat≤els'.length:=by omega
      have hr:=Ve (P:=P) (w:=w) (A:=A) (c:=cp) hd hsz (lo:=none) (hi:=some (.int q2 b'.i)) (n:=els'.length) (l:=0) (h:=b'.i.toNat) (.inl ⟨rfl,rfl⟩) (.inr ⟨q2,by rw [Hx c3]⟩) (Nat.zero_le _) hnb hle
      have hA:(if cp=0 then A else A.map (·.add (0*C.size e)))=A:=by
       split
       ·rfl
       ·cases A<;>simp [Addr.add]
      have hcut:=h.cut hl hnb (by omega) c6 c7 hhd
      have hlen:(els'.take b'.i.toNat).length=b'.i.toNat:=by rw [List.length_take];omega
      unfold Oper.wp;rw [show execOp a.eval o=(do pure (.value (←Instr.sliceAt t (a.eval x) none (some (a.eval hi)) none))) by simp only [execOp,hop];rfl]
      rw [hv,hhd,hq];simp only [Sem.run_bind,hr,Result.andThen_ok,Sem.run_pure,Oper.upon];refine hn _ w m _ hcut ?_;simp only [RA,Xn,if_true];refine ⟨rfl,by omega,fun _=>?_⟩
      rw [hA];simp
     ·cases hb
    ·cases hb
   ·cases hb
  ·cases hb
 ·cases hb
theorem vB {t e ty:TypeId} {z:Value} (ht:P.underlying t=some (.slice e)) (hv:∀ w,(zeroValue e).run P w=.ok z w) {zc:Value} (hz:z.cells=#[zc]) (h1:zc.oneCell'=true) {b o n c:Nat} (hn:0<n) {nU:Array Value} {tt:TypeId}
  (hg:w.heap[b]?=some (.cells nU tt (0,0))) (hl:o+n≤nU.size) :
  (Builtin.clear_ #[t] ty #[.slice (some ⟨b,o,none⟩) n c]).run P w=.ok (.tuple #[]) (w.setRow b (nU.toList.take o++List.replicate n zc++nU.toList.drop (o+n)).toArray):=by
 have hzc:(Builtin.zeroCells z.cells n).toList=List.replicate n zc:=by
  rw [hz];simp [Builtin.zeroCells];apply List.ext_getElem
  ·simp
  ·intro i h1 h2;simp [Nat.mod_one]
 have hst:=run_storeCells_at P b o tt (List.replicate n zc) 0 nU w hg (by simpa using hl) (by intro v hv';rw [List.eq_of_mem_replicate hv'];exact h1)
 simp only [Nat.add_zero,List.length_replicate] at hst;obtain ⟨m,rfl⟩:∃ m,n=m+1:=⟨n-1,by omega⟩
 simp [Builtin.clear_,run_underlying ht,hv,hzc,hst]
theorem Zt8 {F:Fix} {d:D} {z zc:Value} (h:R F d z) (hz:z.cells=#[zc]) (h1:zc.oneCell'=true):∀ n,RE F 1 (List.replicate n d) (List.replicate n zc)
 | 0=>by simp [RE]
 | n+1=>by
  rw [List.replicate_succ,List.replicate_succ];simp only [RE];exact ⟨z,_,by rw [hz];rfl,by rw [hz];rfl,by rw [hz];simpa using h1,h,Zt8 h hz h1 n⟩
theorem Qdf (K:Bi P C) {m:Nat→Nat} {G:Gh} (h:SRg base pass F0 m G st a w) {o:Oper} {c:Prop} {z:AV} {os:Z3} (hb:iU C o st=some (c,z,os)) (hc:c)
  {N:Act→World→Prop} {Q:Exit→Act→World→Prop} (hn:kA base pass F0 a st.tmps o.dst z os N):o.wp P a w N Q:=by
 unfold iU at hb;split at hb
 ·next t x lo hop =>
  split at hb
  ·next d hdst =>
   split at hb
   ·split at hb
    ·next e i n y hk hx hlo =>
     split at hb
     ·next s els k hl =>
      split at hb
      ·next hs =>
       simp only [Zc,Ze] at hb;obtain ⟨rfl,rfl,rfl⟩:=hb;obtain ⟨c1,c2,c3,c4⟩:=hc;have hvx:=Ys (C:=C) (hint:=t) h.tmps x;have hvl:=Ys (C:=C) (hint:=0) h.tmps lo;rw [hx] at hvx;rw [hlo] at hvl;simp only [RA,hl] at hvx hvl;have hv:=hvx.2.2 c1;obtain ⟨q2,hq⟩:=hvl.of_anyInt c2;obtain ⟨dd,hd,hkd⟩:=K.1.kind hk rfl;simp only [TK.is] at hkd;obtain ⟨rfl,he⟩:=hkd;have hsz:=Gg (K.1 e he);have hob:=h.objs i _ hl;simp only [Qz] at hob;rcases hob with ⟨_,_,h3,_⟩|⟨bb,cap,cs,ty,h1,h2,h3,_⟩
       ·subst h3;simp at c4;omega
       ·have hr:=Ve (P:=P) (w:=w) (A:=some ⟨bb,0,none⟩) (c:=cap) hd hsz (lo:=some (.int q2 y.i)) (hi:=none) (n:=els.length) (l:=y.i.toNat) (h:=els.length) (.inr ⟨q2,by rw [Hx c3]⟩) (.inl ⟨rfl,rfl⟩) (by omega) (Zq _) h3
        have hne:¬ cap=y.i.toNat:=by omega
        rw [if_neg hne] at hr;refine Jv (st:=st) (s:=Instr.sliceAt t (a.eval x) (some (a.eval lo)) none none) (by simp only [execOp,hop];rfl) (Qj h (v:=.slice (some ⟨bb,y.i.toNat*s,none⟩) (els.length-y.i.toNat) (cap-y.i.toNat)) ?_ ?_) hn
        ·rw [hv,h2,hq,hr];simp [Tk,hs]
        ·simp only [RA,hl];refine ⟨rfl,by omega,fun _=>⟨bb,cap,h1,by rw [h2,c1],by omega,by rw [c1]⟩⟩
      ·cases hb
     ·cases hb
    ·cases hb
   ·cases hb
  ·cases hb
 ·next t x hi hop =>
  split at hb
  ·next d hdst =>
   split at hb
   ·split at hb
    ·next e i n y hk hx hhi =>
     split at hb
     ·next s els k hl hnew =>
      split at hb
      ·next hs =>
       simp only [Zc,Ze] at hb;obtain ⟨rfl,rfl,rfl⟩:=hb;obtain ⟨c1,c2,c3,c4,c5,c6⟩:=hc;have hvx:=Ys (C:=C) (hint:=t) h.tmps x;have hvh:=Ys (C:=C) (hint:=0) h.tmps hi;rw [hx] at hvx;rw [hhi] at hvh;simp only [RA,hl] at hvx hvh;have hv:=hvx.2.2 c1;obtain ⟨q2,hq⟩:=hvh.of_anyInt c2;obtain ⟨dd,hd,hkd⟩:=K.1.kind hk rfl;simp only [TK.is] at hkd;obtain ⟨rfl,he⟩:=hkd;have hsz:=Gg (K.1 e he);obtain ⟨A,cp,hhd,hle⟩:∃ A cp,G.hd i=.slice A els.length cp∧els.length≤cp:=by
        have hob:=h.objs i _ hl;simp only [Qz] at hob;rcases hob with ⟨_,h2,h3,_⟩|⟨bb,cap,cs,ty,_,h2,h3,_⟩
        ·subst h3;exact ⟨none,0,by rw [h2];rfl,Zq _⟩
        ·exact ⟨_,cap,h2,h3⟩
       have hnb:y.i.toNat≤els.length:=by omega
       have hr:=Ve (P:=P) (w:=w) (A:=A) (c:=cp) hd hsz (lo:=none) (hi:=some (.int q2 y.i)) (n:=els.length) (l:=0) (h:=y.i.toNat) (.inl ⟨rfl,rfl⟩) (.inr ⟨q2,by rw [Hx c3]⟩) (Nat.zero_le _) hnb hle
       have hA:(if cp=0 then A else A.map (·.add (0*C.size e)))=A:=by
        split
        ·rfl
        ·cases A<;>simp [Addr.add]
       have hmv:=h.move hl hnew hnb (by omega) hhd
       have hlen:(els.take y.i.toNat).length=y.i.toNat:=by rw [List.length_take];omega
       unfold Oper.wp;rw [show execOp a.eval o=(do pure (.value (←Instr.sliceAt t (a.eval x) none (some (a.eval hi)) none))) by simp only [execOp,hop];rfl]
       rw [hv,hhd,hq];simp only [Sem.run_bind,hr,Result.andThen_ok,Sem.run_pure,Oper.upon];refine hn _ w m _ hmv ?_;simp only [RA,Xn,if_true];refine ⟨rfl,by omega,fun _=>?_⟩
       rw [hA];simp
      ·cases hb
     ·cases hb
    ·cases hb
   ·cases hb
  ·cases hb
 ·next cl hop =>
  split at hb
  ·next hcal =>
   split at hb
   ·next x t hx ht =>
    split at hb
    ·next e i n f hk hxe =>
     split at hb
     ·next s els k hl =>
      split at hb
      ·next hs =>
       obtain ⟨hs,rfl⟩:=hs;simp only [Zc,Ze] at hb;obtain ⟨rfl,rfl,rfl⟩:=hb;obtain ⟨c1,c2⟩:=hc;have e1:=dX hx;have e2:=dX ht;have hvx:=Ys (C:=C) (hint:=t) h.tmps x;rw [hxe] at hvx;simp only [RA,hl] at hvx;obtain ⟨bb,cc,g1,g2,g3,hv⟩:=hvx.2.2 c1;obtain ⟨dd,hd,hkd⟩:=K.1.kind hk rfl;simp only [TK.is] at hkd;obtain ⟨rfl,he⟩:=hkd;obtain ⟨ii,zv,i1,i2,i3,i4,i5,i6,i7,i8⟩:=(K.1 e he).info;have hz1:zv.cells.size=1:=by rw [i7];exact hs.symm
       obtain ⟨zc,hzc⟩:∃ zc,zv.cells=#[zc]:=⟨zv.cells[0],by
        apply Array.ext
        ·simpa using hz1
        ·intro j h1 h2;have:j=0:=by simp at h2;omega
         subst this;rfl⟩
       have hzo:zc.oneCell'=true:=i8 zc (by rw [hzc];simp)
       have hzr:∀ w,(zeroValue e).run P w=.ok zv w:=by
        intro w;simp [zeroValue,typeInfo,i1,i4]
       have hob:=h.objs i _ hl;simp only [Qz] at hob;rcases hob with ⟨_,_,h3,_⟩|⟨b',cap,cs,ty,h1,h2,h3,h4,h5,h6,h7,h8,h9⟩
       ·subst h3;simp at c1;omega
       ·rw [g1] at h1;injection h1 with h1
        subst h1;rw [h2] at g2;injection g2 with _ _ g2
        subst g2;simp only [Nat.mul_one] at hv h6 h7 h8;have hr:=vB (P:=P) (w:=w) (ty:=o.type) hd hzr hzc hzo (b:=bb) (o:=f) (n:=n-f) (c:=cap-f) (by omega) h5 (by omega)
        refine Jv (st:=st) (s:=Builtin.clear_ #[t] o.type #[a.eval x]) (by simp [execOp,hop,resolve,hcal,e1,e2,invoke,builtin]) ⟨_,_,m,G,by rw [hv];exact hr,?_,?_⟩ hn
        ·refine (h.write hl rfl g1 h5 (fun off ho=>?_) (by simp [Obj.isBox]) (fun s' els' k' he'=>?_) (fun hF hg=>?_)).2.2
         ·rw [h8] at ho;have:off<f:=by omega
          rw [←Array.getElem?_toList,List.append_assoc,List.getElem?_append_left (by simp;omega),List.getElem?_take,if_pos this]
          simp
         ·simp only [Obj.row.injEq] at he';obtain ⟨rfl,rfl,rfl⟩:=he';exact ⟨els,k,rfl,by simp;omega⟩
         ·simp only [Qz];have hlen:(els.take f++List.replicate (els.length-f) (C.τ e).zd).length=els.length:=by simp;omega
          have hz2:(cs.toList.take f++List.replicate (n-f) zc++cs.toList.drop (f+(n-f))).length=cs.size:=by simp;omega
          refine .inr ⟨bb,cap,_,ty,g1,by rw [hlen];exact h2,by rw [hlen];exact h3,h4,setRow_heap w bb cs _ ty (0,0) h5,?_,?_,by simpa using h8,by rw [hlen];exact h9⟩
          ·rw [Nat.mul_one,←h6];simpa using hz2
          ·have r1:=(RE.split f (RE.mono hF h7)).1;have r2:=RE.append r1 (Zt8 (F:=⟨w.setRow bb (cs.toList.take f++List.replicate (n-f) zc++cs.toList.drop (f+(n-f))).toArray,m⟩) (i6 _) hzc hzo (els.length-f));rw [hlen];have e3:(cs.toList.take f++List.replicate (n-f) zc++cs.toList.drop (f+(n-f))).toArray.toList.take (els.length*1)=(cs.toList.take els.length).take (f*1)++List.replicate (els.length-f) zc:=by
            rw [Nat.mul_one,Nat.mul_one,List.take_take,c1];simp only [];rw [List.take_append_of_le_length (by simp;omega),List.take_of_length_le (by simp;omega)]
            congr 2
            omega
           rw [e3];exact r2
        ·simp only [RA,R,Rs];exact ⟨[],rfl,rfl⟩
      ·cases hb
     ·cases hb
    ·cases hb
   ·cases hb
  ·cases hb
 ·cases hb
theorem Qdb (K:Bi P C) {m:Nat→Nat} {G:Gh} (h:SRg base pass F0 m G st a w) {o:Oper} {c:Prop} {l:List D} {b:Bool} (hb:Zm5 C o st=some (c,l,b)) (hc:c)
  {N:Act→World→Prop} {Q:Exit→Act→World→Prop} (hn1:l=[]→kA base pass F0 a st.tmps o.dst (.d (.bool b)) st.objs N) (hn2:kA base pass F0 a st.tmps o.dst (.d (.bool (!b))) st.objs N):o.wp P a w N Q:=by
 have key:∀ (op:BinOp) (t:Nat) (ox oy:Operand) (ty:TypeId),(op=.eql∧b=true∨op=.neq∧b=false)→o.op=.binOp op t ox oy ty→lB C t (st.ev C t ox) (st.ev C t oy) st.objs=some (c,l)→o.wp P a w N Q:=by
  intro op t ox oy ty hopb hop hna;have hvx:=Ys (C:=C) (hint:=t) h.tmps ox;have hvy:=Ys (C:=C) (hint:=t) h.tmps oy;obtain ⟨e,A,cc,hk,hv,hvy',hnone⟩:∃ e A cc,(C.τ t).kind=.slice e∧a.eval ox=.slice A l.length cc∧a.eval oy=.slice none 0 0∧(A=none→l=[]):=by
   unfold lB at hna;split at hna
   ·next e d s hk hx hy =>
    simp only [Zc,Ze] at hna;obtain ⟨rfl,rfl⟩:=hna;rw [hx] at hvx;rw [hy] at hvy;simp only [RA] at hvx hvy;have hl:=hvx.of_list hc;simp only [R] at hl;obtain ⟨A,cc,hv,_,_,hA⟩:=hl;refine ⟨e,A,cc,hk,hv,hvy,fun hz=>?_⟩;apply Classical.byContradiction;intro hne;obtain ⟨b,off,vs,hz',_⟩:=hA hne;rw [hz] at hz';cases hz'
   ·next e i n s hk hx hy =>
    split at hna
    ·next s' els k hl =>
     simp only [Zc,Ze] at hna;obtain ⟨rfl,rfl⟩:=hna;rw [hx] at hvx;rw [hy] at hvy;simp only [RA,hl] at hvx hvy;have hv:=hvx.2.2 hc;have hob:=h.objs i _ hl;simp only [Qz] at hob;rcases hob with ⟨_,h2,h3,_⟩|⟨bb,cap,cs,ty',_,h2,_⟩
     ·subst h3;exact ⟨e,none,0,hk,by rw [hv,h2];rfl,hvy,fun _=>rfl⟩
     ·exact ⟨e,_,cap,hk,by rw [hv,h2],hvy,fun hz=>by cases hz⟩
    ·cases hna
   ·cases hna
  obtain ⟨dd,hd,hkd⟩:=K.1.kind hk rfl;simp only [TK.is] at hkd;obtain ⟨rfl,_⟩:=hkd;have heq:∀ d:Nat,(Op.equalIn (d+1) t (.slice A l.length cc) (.slice none 0 0)).run P w=.ok A.isNone w:=fun d=>by cases A<;>simp [Op.equalIn,run_underlying hd]
  have run1:(W3 .eql t ox oy (a.eval ox) (a.eval oy)).run P w=.ok (.bool A.isNone) w:=by
   rw [hv,hvy'];unfold W3;simp only [binOp];simp [eqGuard,Op.equal,Op.maxDepth,heq 9999]
  have run2:(W3 .neq t ox oy (a.eval ox) (a.eval oy)).run P w=.ok (.bool (!A.isNone)) w:=by
   rw [hv,hvy'];unfold W3;simp only [binOp];simp [eqGuard,Op.equal,Op.maxDepth,heq 9999]
  have hnone':A.isNone=true→l=[]:=fun h=>hnone (by cases A with|none=>rfl|some _=>cases h)
  rcases hopb with ⟨rfl,rfl⟩|⟨rfl,rfl⟩
  ·cases hz:A.isNone with
   | true =>
    rw [hz] at run1;exact Jv (st:=st) (s:=W3 .eql t ox oy (a.eval ox) (a.eval oy)) (by simp only [execOp,hop,W3]) (Qj h run1 (by simp only [RA];exact R.bool)) (hn1 (hnone' hz))
   | false =>
    rw [hz] at run1;exact Jv (st:=st) (s:=W3 .eql t ox oy (a.eval ox) (a.eval oy)) (by simp only [execOp,hop,W3]) (Qj h run1 (by simp only [RA];exact R.bool)) hn2
  ·cases hz:A.isNone with
   | true =>
    rw [hz] at run2;exact Jv (st:=st) (s:=W3 .neq t ox oy (a.eval ox) (a.eval oy)) (by simp only [execOp,hop,W3]) (Qj h run2 (by simp only [RA];exact R.bool)) (hn1 (hnone' hz))
   | false =>
    rw [hz] at run2;exact Jv (st:=st) (s:=W3 .neq t ox oy (a.eval ox) (a.eval oy)) (by simp only [execOp,hop,W3]) (Qj h run2 (by simp only [RA];exact R.bool)) hn2
 unfold Zm5 at hb;split at hb
 ·next t ox oy ty hop =>
  split at hb
  ·split at hb
   ·split at hb
    ·next c' l' hna =>
     simp only [Zc,Ze] at hb;obtain ⟨rfl,rfl,h3⟩:=hb;exact key .eql t ox oy ty (.inl ⟨rfl,h3.symm⟩) hop hna
    ·cases hb
   ·cases hb
  ·cases hb
 ·next t ox oy ty hop =>
  split at hb
  ·split at hb
   ·split at hb
    ·next c' l' hna =>
     simp only [Zc,Ze] at hb;obtain ⟨rfl,rfl,h3⟩:=hb;exact key .neq t ox oy ty (.inr ⟨rfl,h3.symm⟩) hop hna
    ·cases hb
   ·cases hb
  ·cases hb
 ·cases hb
theorem Nv (K:Bi P C) {ops:List Oper} {N:AS→Prop} {Q:Exit→Act→World→Prop} (hQ:∀ st a w,SR base pass F0 st a w→N st→Q .normal a w) :
  ∀ (l:List Oper) (st:AS) (a:Act) (w:World),SR base pass F0 st a w→Zbq C ops l N st→wpList P ops.toArray Q l a w
 | [],st,a,w,h,hn=>by
  simp only [Zbq] at hn;exact wpList_nil (hQ st a w h hn)
 | o::l,st,a,w,h,hn=>by
  simp only [Zbq] at hn;have exec:∀ st a w,SR base pass F0 st a w→kW C o (Zbq C ops l N) st→o.wp P a w (wpList P ops.toArray Q l) Q:=by
   intro st a w ⟨m,G,h⟩ he;unfold kW at he;split at he
   ·next bc args hbo =>
    obtain ⟨x,rs,hok,hargs,hnd,hlen,hst,hfr,hk⟩:=he;subst hargs;refine Zo5 K h hbo hok hnd hlen hst hfr (fun v w' m' G' hs' hz=>?_);refine Nv K hQ l _ _ _ ⟨m',G',?_⟩ hk;have:=hs'.putO (t:=o.dst) hz;unfold AS.put;exact this
   ·split at he
    ·next i n b s els k hcu =>
     refine Qdn K h hcu he.1 (fun v w' m' G' hs' hz=>?_);refine Nv K hQ l _ _ _ ⟨m',G',?_⟩ he.2;have:=hs'.putO (t:=o.dst) hz;unfold AS.put;exact this
    ·split at he
     ·next c x os hs =>
      refine Qdf K h hs he.1 (fun v w' m' G' hs' hz=>?_);refine Nv K hQ l _ _ _ ⟨m',G',?_⟩ he.2;have:=hs'.putO (t:=o.dst) hz;unfold AS.put;exact this
     ·split at he
      ·next c ll b hni =>
       obtain ⟨he1,he2,he3⟩:=he;refine Qdb K h hni he1 (fun hnil v w' m' G' hs' hz=>?_) (fun v w' m' G' hs' hz=>?_)
       ·refine Nv K hQ l _ _ _ ⟨m',G',?_⟩ (he2 hnil);have:=hs'.putO (t:=o.dst) hz;unfold AS.put;exact this
       ·refine Nv K hQ l _ _ _ ⟨m',G',?_⟩ he3;have:=hs'.putO (t:=o.dst) hz;unfold AS.put;exact this
      ·unfold Zbr at he;split at he
       ·next c x os hs =>
        refine Zmz K h hs he.1 (fun v w' m' G' hs' hz=>?_);refine Nv K hQ l _ _ _ ⟨m',G',?_⟩ he.2;have:=hs'.putO (t:=o.dst) hz;unfold AS.put;exact this
       ·exact he.elim
  unfold Qg1 at hn;unfold wpList;split at hn
  ·next hg =>
   rw [if_pos (by simp [Region.wanted,hg])]
   exact .inl (exec st a w h hn)
  ·next j want hg =>
   split at hn
   ·next t b hgo =>
    obtain ⟨m,G,hs⟩:=h;have hy:=Ew hs hgo;obtain ⟨g,g1,g2,g3,g4⟩:=Az hgo;have hsame:({ st with tmps:=st.tmps.set t (.d (.bool b)) }:AS)=st:=by rw [Zmc g4 g3]
    by_cases hb:b=want
    ·rw [if_pos (by simp [Region.wanted,hg,hy,hb])]
     have:=hn.1 hb;rw [←hb,hsame] at this;exact .inl (exec st a w ⟨m,G,hs⟩ this)
    ·rw [if_neg (by simp [Region.wanted,hg,hy,hb])]
     have hb':b=!want:=by cases b<;>cases want<;>simp_all
     have:=hn.2 hb';rw [←hb',hsame] at this;refine Nv K hQ l _ _ _ ⟨m,G,?_⟩ this;have hp:=hs.putO (t:=o.dst) (x:=.d (.tup [])) (v:=undef) pU;unfold AS.put;exact hp
   ·next hgo =>
    obtain ⟨m,G,hs⟩:=h;have hy:=yJ hs hgo;rw [if_neg (by simp [Region.wanted,hg,hy])]
    refine Nv K hQ l _ _ _ ⟨m,G,?_⟩ hn;have hp:=hs.putO (t:=o.dst) (x:=.d (.tup [])) (v:=undef) pU;unfold AS.put;exact hp
   ·exact hn.elim
theorem eO:∀ {es:List Edge} {acc:List Nat} {k:Nat},(As es acc).testBit k=true→∃ e∈es,Region.binds .any e=true∧(e.on=k∨(acc.getD e.on 0).testBit k=true)
 | [],acc,k,h=>by simp [As] at h
 | e::r,acc,k,h=>by
  simp only [As] at h;split at h
  ·next hb =>
   simp only [Nat.testBit_or,Bool.or_eq_true] at h;rcases h with (h|h)|h
   ·rw [Nat.testBit_two_pow] at h;exact ⟨e,by simp,hb,.inl (by simpa using h)⟩
   ·exact ⟨e,by simp,hb,.inr h⟩
   ·obtain ⟨e',h1,h2⟩:=eO h;exact ⟨e',List.mem_cons_of_mem _ h1,h2⟩
  ·obtain ⟨e',h1,h2⟩:=eO h;exact ⟨e',List.mem_cons_of_mem _ h1,h2⟩
theorem gL:∀ (r:List Oper) (acc:List Nat),∃ l,gM r acc=acc++l∧l.length=r.length∧∀ (j:Nat) (o:Oper),r[j]?=some o→l[j]?=some (As o.after.toList (acc++l.take j))
 | [],acc=>⟨[],by simp [gM],rfl,by simp⟩
 | o::r,acc=>by
  obtain ⟨l,h1,h2,h3⟩:=gL r (acc++[As o.after.toList acc]);refine ⟨As o.after.toList acc::l,by simp [gM,h1],by simp [h2],fun j x hj=>?_⟩
  cases j with
  | zero=>simp only [List.getElem?_cons_zero,Zc] at hj;subst hj;simp
  | succ j =>
   simp only [List.getElem?_cons_succ] at hj ⊢;rw [h3 j x hj];simp
theorem xW {ops:List Oper} {i k:Nat} {o:Oper} (ho:ops[i]?=some o) (h:((O5 ops).getD i 0).testBit k=true) :
  ∃ e∈o.after.toList,Region.binds .any e=true∧(e.on=k∨(e.on<i∧((O5 ops).getD e.on 0).testBit k=true)):=by
 obtain ⟨l,h1,h2,h3⟩:=gL ops [];have hm:O5 ops=l:=by simpa [O5] using h1
 have hi:=h3 i o ho;simp only [List.nil_append] at hi;rw [hm,Zd,hi] at h;simp only [Option.getD_some] at h;obtain ⟨e,g1,g2,g3⟩:=eO h;refine ⟨e,g1,g2,g3.elim (fun h=>.inl h) fun g=>.inr ?_⟩;by_cases hlt:e.on<i
 ·refine ⟨hlt,?_⟩;rw [hm];rw [Zd,List.getElem?_take,if_pos hlt] at g;rw [Zd];exact g
 ·rw [Zd,List.getElem?_take,if_neg hlt] at g;simp at g
def Qai (ops:List Oper) (listed:Array Bool):Prop:=∀ i o,ops[i]?=some o→listed.getD i false=true→∀ e∈o.after.toList,Region.binds .any e=true→listed.getD e.on false=true
theorem Zsb {ops:List Oper} {listed:Array Bool} (hc:Qai ops listed):∀ (n i:Nat),i≤n→∀ o,ops[i]?=some o→(∀ e∈o.after.toList,Region.binds .any e=true→listed.getD e.on false=true) →
  ∀ k,((O5 ops).getD i 0).testBit k=true→listed.getD k false=true:=by
 intro n
 induction n with
 | zero =>
  intro i hi o ho he k hk;obtain ⟨e,h1,h2,h3⟩:=xW ho hk;rcases h3 with rfl|⟨h3,_⟩
  ·exact he e h1 h2
  ·omega
 | succ n ih =>
  intro i hi o ho he k hk;obtain ⟨e,h1,h2,h3⟩:=xW ho hk;rcases h3 with rfl|⟨h3,h4⟩
  ·exact he e h1 h2
  ·have hlt:i<ops.length:=(List.getElem?_eq_some_iff.1 ho).1;have hoe:ops[e.on]?=some ops[e.on]:=Zh (by omega)
   exact ih e.on (by omega) _ hoe (fun e' g1 g2=>hc e.on _ hoe (he e h1 h2) e' g1 g2) k h4
theorem A3:∀ {ops:List Oper} {n:Nat},jV n ops=true→∀ i o,ops[i]?=some o→∀ e∈o.after.toList,Region.binds .any e=true→e.on<n+i
 | [],n,_,i,o,ho=>by simp at ho
 | x::r,n,h,i,o,ho=>by
  simp only [jV,Zg,List.all_eq_true,Bool.or_eq_true,Bool.not_eq_true',decide_eq_true_eq] at h;cases i with
  | zero =>
   simp only [List.getElem?_cons_zero,Zc] at ho;subst ho;intro e he hb;rcases h.1 e he with h1|h1
   ·rw [hb] at h1;cases h1
   ·exact h1
  | succ i =>
   simp only [List.getElem?_cons_succ] at ho;intro e he hb;have:=A3 h.2 i o ho e he hb;omega
theorem iE {l:Array Bool} {i:Nat} (h:i<l.size):l.getD i true=l.getD i false:=by simp [h]
theorem Zwu (K:Bi P C) (hC:C.dp=1) {ops:Array Oper} (hE:jV 0 ops.toList=true) {N:Exit→Act→World→Prop}:∀ (n:Nat) (l:List (Nat×List Nat×Bool)) (listed:Array Bool) (s t:AS) (a:Act) (w:World),l.length=n →
  listed.size=ops.size→(∀ i,i<ops.size→(listed.getD i false=false↔∃ q∈l,q.1=i))→(∀ q∈l,q.1<ops.size)→(l.map (·.1)).Nodup→Qai ops.toList listed→Tr C ops.toList l s t →
  l.Pairwise (fun p q=>Zua ops.toList p q∨((O5 ops.toList).getD q.1 0).testBit p.1=true)→SR base pass F0 s a w→(∀ a w,SR base pass F0 t a w→N .normal a w)→wpAny P .any ops N n listed a w:=by
 intro n
 induction n with
 | zero =>
  intro l listed s t a w hl hsz hun hlt hnd hcl htr hpw hs hN;have:l=[]:=List.eq_nil_of_length_eq_zero hl;subst this;cases htr;refine ⟨?_,hN a w hs⟩;cases hr:Region.ready .any ops listed with
  | nil=>rfl
  | cons j r =>
   have hj:j∈Region.ready .any ops listed:=by rw [hr];simp
   obtain ⟨h1,o,ho,_⟩:=mem_ready.1 hj;have hjl:j<ops.size:=(Array.getElem?_eq_some_iff.1 ho).1;rw [iE (by omega)] at h1
   obtain ⟨q,hq,_⟩:=(hun j hjl).1 h1;cases hq
 | succ n ih =>
  intro l listed s t a w hl hsz hun hlt hnd hcl htr hpw hs hN;refine ⟨fun hnil=>?_,fun i hi=>?_⟩
  ·
   exfalso;have ex:∀ m i,i≤m→i<ops.size→listed.getD i false=false→∃ j,j∈Region.ready .any ops listed:=by
    intro m
    induction m with
    | zero =>
     intro i him hil hu;refine ⟨i,mem_ready.2 ⟨by rw [iE (by omega)];exact hu,ops[i],by simp [hil],fun e he hb=>?_⟩⟩
     have:=A3 hE i ops[i] (by simp [hil]) e (by simpa using he) hb
     omega
    | succ m ihm =>
     intro i him hil hu;by_cases hall:∀ e∈ops[i].after,Region.binds .any e=true→listed.getD e.on false=true
     ·exact ⟨i,mem_ready.2 ⟨by rw [iE (by omega)];exact hu,ops[i],by simp [hil],hall⟩⟩
     ·have:∃ e,e∈ops[i].after∧Region.binds .any e=true∧listed.getD e.on false=false:=by
       apply Classical.byContradiction;intro hno;apply hall;intro e he hb;cases hx:listed.getD e.on false with
       | true=>rfl
       | false=>exact absurd ⟨e,he,hb,hx⟩ hno
      obtain ⟨e,he,hb,hx⟩:=this;have:=A3 hE i ops[i] (by simp [hil]) e (by simpa using he) hb
      exact ihm e.on (by omega) (by omega) hx
   cases l with
   | nil=>simp at hl
   | cons q r =>
    have hq:=hlt q (by simp)
    obtain ⟨j,hj⟩:=ex q.1 q.1 (Zq _) hq ((hun q.1 hq).2 ⟨q,by simp,rfl⟩)
    rw [hnil] at hj;cases hj
  ·obtain ⟨h1,o,ho,hall⟩:=mem_ready.1 hi;have hil:i<ops.size:=(Array.getElem?_eq_some_iff.1 ho).1;have hol:ops.toList[i]?=some o:=by simpa using ho
   rw [iE (by omega)] at h1
   obtain ⟨q,hq,rfl⟩:=(hun i hil).1 h1;obtain ⟨l1,l2,rfl⟩:=List.append_of_mem hq;have hind:∀ k∈l1,Zua ops.toList k q:=by
    intro k hk;rcases (List.pairwise_append.1 hpw).2.2 k hk q (by simp) with h|h
    ·exact h
    ·exfalso;have:=Zsb hcl q.1 q.1 (Zq _) o hol (fun e he hb=>hall e (by simpa using he) hb) k.1 h
     have h2:=(hun k.1 (hlt k (by simp [hk]))).2 ⟨k,by simp [hk],rfl⟩
     rw [this] at h2;cases h2
   obtain ⟨s1,t',hst,htr',hsame⟩:=htr.first hC hind;have rest:∀ a w,SR base pass F0 s1 a w→wpAny P .any ops N n (listed.setIfInBounds q.1 true) a w:=by
    intro a w hs1;have hnd':q.1∉(l1++l2).map (·.1):=by
     simp only [List.map_append,List.map_cons] at hnd;have h2:=List.nodup_append.1 hnd;have h3:=List.nodup_cons.1 h2.2.1;simp only [List.map_append,List.mem_append,not_or];exact ⟨fun hx=>h2.2.2 q.1 hx q.1 (by simp) rfl,h3.1⟩
    refine ih (l1++l2) _ s1 t' a w (by simp at hl ⊢;omega) (by simpa using hsz) (fun i hi=>?_) (fun p hp=>hlt p (by simp at hp ⊢;rcases hp with hp|hp<;>simp [hp])) ?_ ?_ htr' ?_ hs1 (fun a w h=>hN a w (h.same hsame.symm))
    ·by_cases hiq:q.1=i
     ·subst hiq;have:(listed.setIfInBounds q.1 true).getD q.1 false=true:=by simp [hsz,hi]
      rw [this];constructor
      ·intro h;cases h
      ·rintro ⟨p,hp,hpe⟩;exact absurd (List.mem_map.2 ⟨p,hp,hpe⟩) hnd'
     ·rw [getD_set_ne false hiq,hun i hi];constructor
      ·rintro ⟨p,hp,rfl⟩;refine ⟨p,?_,rfl⟩;simp only [List.mem_append,Zs] at hp ⊢;rcases hp with hp|rfl|hp
       ·exact .inl hp
       ·exact absurd rfl hiq
       ·exact .inr hp
      ·rintro ⟨p,hp,rfl⟩;refine ⟨p,?_,rfl⟩;simp only [List.mem_append,Zs] at hp ⊢;rcases hp with hp|hp
       ·exact .inl hp
       ·exact .inr (.inr hp)
    ·simp only [List.map_append,List.map_cons] at hnd ⊢;have h2:=List.nodup_append.1 hnd;have h3:=List.nodup_cons.1 h2.2.1;exact List.nodup_append.2 ⟨h2.1,h3.2,fun x hx y hy=>h2.2.2 x hx y (List.mem_cons_of_mem _ hy)⟩
    ·intro j oj hoj hlj e he hb;by_cases hjq:q.1=j
     ·subst hjq;rw [hol] at hoj;injection hoj with hoj
      subst hoj;exact getD_set_true (hall e (by simpa using he) hb)
     ·rw [getD_set_ne false hjq] at hlj;exact getD_set_true (hcl j oj hoj hlj e he hb)
    ·have h2:=List.pairwise_append.1 hpw;have h3:=List.pairwise_cons.1 h2.2.1;exact List.pairwise_append.2 ⟨h2.1,h3.2,fun x hx y hy=>h2.2.2 x hx y (List.mem_cons_of_mem _ hy)⟩
   obtain ⟨o',ho',hstep⟩:=hst;rw [hol] at ho';injection ho' with ho'
   subst ho';unfold wpOp;simp only [ho];obtain ⟨m,G,hsg⟩:=hs;rcases hstep with hstep|⟨hg,_,_,c,x,os,e1,hc,rfl⟩|⟨hg,_,bc,x,rs,⟨b1,b2,b3,b4,b5,b6,b7⟩,_,rfl⟩
   ·cases hgd:o.guard with
    | none=>simp only [hgd] at hstep
    | some jw =>
     obtain ⟨j,want⟩:=jw;simp only [hgd] at hstep;obtain ⟨g1,_,_,rfl⟩:=hstep;have hw:¬ Region.wanted o (yielded ops a.tmps)=true:=by
      cases hgo:Xk ops.toList s j with
      | b t1 b =>
       rw [hgo] at g1;have hy:=Ew hsg hgo;have hy':yielded ops a.tmps j=some b:=by simpa using hy
       simp only [GV.skips] at g1;simp [Region.wanted,hgd,hy',g1]
      | und =>
       have hy:=yJ hsg hgo;have hy':yielded ops a.tmps j=none:=by simpa using hy
       simp [Region.wanted,hgd,hy']
      | no=>rw [hgo] at g1;exact g1.elim
     rw [if_neg hw];refine rest _ _ ⟨m,G,?_⟩;have hp:=hsg.putO (t:=o.dst) (x:=.d (.tup [])) (v:=undef) pU;unfold AS.put;exact hp
   ·have hw:Region.wanted o (yielded ops a.tmps)=true:=by
     cases hgd:o.guard with
     | none=>simp [Region.wanted,hgd]
     | some jw =>
      obtain ⟨j,want⟩:=jw;simp only [hgd] at hg;cases hgo:Xk ops.toList s j with
      | b t1 b =>
       rw [hgo] at hg;simp only [GV.runs] at hg;subst hg;have hy:=Ew hsg hgo;have hy':yielded ops a.tmps j=some b:=by simpa using hy
       simp [Region.wanted,hgd,hy']
      | und=>rw [hgo] at hg;exact hg.elim
      | no=>rw [hgo] at hg;exact hg.elim
    rw [if_pos hw];refine .inl (Zmz K hsg e1 hc (fun v w' m' G' hs' hz=>rest _ _ ⟨m',G',?_⟩));have:=hs'.putO (t:=o.dst) hz;unfold AS.put;exact this
   ·have hw:Region.wanted o (yielded ops a.tmps)=true:=by
     cases hgd:o.guard with
     | none=>simp [Region.wanted,hgd]
     | some jw =>
      obtain ⟨j,want⟩:=jw;simp only [hgd] at hg;cases hgo:Xk ops.toList s j with
      | b t1 b =>
       rw [hgo] at hg;simp only [GV.runs] at hg;subst hg;have hy:=Ew hsg hgo;have hy':yielded ops a.tmps j=some b:=by simpa using hy
       simp [Region.wanted,hgd,hy']
      | und=>rw [hgo] at hg;exact hg.elim
      | no=>rw [hgo] at hg;exact hg.elim
    rw [if_pos hw];refine .inl (Zo5 K hsg b1 b2 b3 b4 b6 b7 (fun v w' m' G' hs' hz=>rest _ _ ⟨m',G',?_⟩));have:=hs'.putO (t:=o.dst) hz;unfold AS.put;exact this
theorem sN {ms:List Nat}:∀ {acc:List (Nat×List Nat×Bool)},Ztl ms acc=true→acc.Pairwise (fun q p=>(∀ k,k∈p.2.1→k∉q.2.1)∨(p.2.2=true∧q.2.2=true)∨(ms.getD q.1 0).testBit p.1=true)
 | [],_=>List.Pairwise.nil
 | (i,fi,ri)::r,h=>by
  simp only [Ztl,Zg,List.all_eq_true,Bool.or_eq_true] at h;refine List.pairwise_cons.2 ⟨fun p hp=>?_,sN h.2⟩;rcases h.1 p hp with (h1|h1)|h1
  ·exact .inr (.inr h1)
  ·refine .inl fun k hk hk2=>?_;have:=h1 k hk2;simp [hk] at this
  ·exact .inr (.inl ⟨h1.2,h1.1⟩)
theorem mO {rs0:List Nat}:∀ {ks:List Nat} {l:List Obj} {o:Z3},Q3 rs0 ks l o→l.length≤ks.length
 | _,[],_,_=>by simp
 | [],_::_,_,h=>by simp [Q3] at h
 | k::ks,x::l,o,h=>by
  simp only [Q3] at h;have:=mO h.2;simp only [Zi];omega
theorem Tb {ops:List Oper} {Kp:AS→Prop}:∀ (r:List Oper) (i:Nat) (acc:List (Nat×List Nat×Bool)) (s:AS),(∀ j,r[j]?=ops[i+j]?)→Ki C ops i r acc Kp s →
  ∃ l t acc',Tr C ops l s t∧Qda ops acc'=true∧Kp t∧l.map (·.1)=List.range' i r.length ∧
   (∃ d,acc'=d++acc∧d.reverse.Sublist l∧∀ q∈l,q∉d→q.2.1=[]∧q.2.2=true)
 | [],i,acc,s,_,h=>by
  simp only [Ki] at h;exact ⟨[],s,acc,.nil s,h.1,h.2,rfl,[],rfl,List.Sublist.refl _,by simp⟩
 | o::r,i,acc,s,hr,h=>by
  have ho:ops[i]?=some o:=by have:=hr 0;simpa using this.symm
  have hr':∀ j,r[j]?=ops[i+1+j]?:=fun j=>by have:=hr (j+1);simpa [Nat.add_assoc,Nat.add_comm 1] using this
  have exec:∀ s,I0 C o (fun fp ro=>Ki C ops (i+1) r ((i,fp,ro)::acc) Kp) s→(match o.guard with
    | none=>True
    | some (j,want)=>(Xk ops s j).runs want)→∃ l t acc',Tr C ops l s t∧Qda ops acc'=true∧Kp t∧l.map (·.1)=List.range' i (o::r).length ∧
   (∃ d,acc'=d++acc∧d.reverse.Sublist l∧∀ q∈l,q∉d→q.2.1=[]∧q.2.2=true):=by
   intro s h hg;unfold I0 at h;split at h
   ·next bc args hbo =>
    obtain ⟨x,rs,h1,rfl,h3,h4,h5,h6,h7⟩:=h;obtain ⟨l,t,acc',k1,k2,k3,k4,d,k5,k6,k7⟩:=Tb r (i+1) _ _ hr' h7;refine ⟨(i,rs.map (· % 4096),false)::l,t,acc',.cons ⟨o,ho,.inr (.inr ⟨hg,rfl,bc,x,rs,⟨hbo,h1,h3,h4,mO h5,h5,h6⟩,rfl,rfl⟩)⟩ k1,k2,k3,by simp [k4,List.range'],d++[(i,rs.map (· % 4096),false)],by simp [k5],by simpa using k6,fun q hq hqd=>?_⟩
    simp only [List.mem_append,Zp,not_or] at hqd;rcases Zs.1 hq with rfl|hq
    ·exact absurd rfl hqd.2
    ·exact k7 q hq hqd.1
   ·split at h
    ·next c x os hs =>
     obtain ⟨l,t,acc',k1,k2,k3,k4,d,k5,k6,k7⟩:=Tb r (i+1) _ _ hr' h.2;refine ⟨(i,S9 C o s,Fk o.op)::l,t,acc',.cons ⟨o,ho,.inr (.inl ⟨hg,rfl,rfl,c,x,os,hs,h.1,rfl⟩)⟩ k1,k2,k3,by simp [k4,List.range'],d++[(i,S9 C o s,Fk o.op)],by simp [k5],by simpa using k6,fun q hq hqd=>?_⟩
     simp only [List.mem_append,Zp,not_or] at hqd;rcases Zs.1 hq with rfl|hq
     ·exact absurd rfl hqd.2
     ·exact k7 q hq hqd.1
    ·exact h.elim
  simp only [Ki] at h;split at h
  ·next hg=>exact exec s h (by simp only [hg])
  ·next j want hg =>
   split at h
   ·next t b hgo =>
    obtain ⟨g,g1,g2,g3,g4⟩:=Az hgo;have hsame:({ s with tmps:=s.tmps.set t (.d (.bool b)) }:AS)=s:=by rw [Zmc g4 g3]
    by_cases hb:b=want
    ·have:=h.1 hb;rw [←hb,hsame] at this;exact exec s this (by simp only [hg,hgo,GV.runs];exact hb)
    ·have hb':b=!want:=by cases b<;>cases want<;>simp_all
     have:=h.2 hb';rw [←hb',hsame] at this;obtain ⟨l,t',acc',k1,k2,k3,k4,d,k5,k6,k7⟩:=Tb r (i+1) _ _ hr' this;refine ⟨(i,[],true)::l,t',acc',.cons ⟨o,ho,.inl ?_⟩ k1,k2,k3,by simp [k4,List.range'],d,k5,k6.cons _,fun q hq hqd=>?_⟩
     ·simp only [hg,hgo];exact ⟨hb,by simp⟩
     ·rcases Zs.1 hq with rfl|hq
      ·exact ⟨rfl,rfl⟩
      ·exact k7 q hq hqd
   ·next hgo =>
    obtain ⟨l,t',acc',k1,k2,k3,k4,d,k5,k6,k7⟩:=Tb r (i+1) _ _ hr' h;refine ⟨(i,[],true)::l,t',acc',.cons ⟨o,ho,.inl ?_⟩ k1,k2,k3,by simp [k4,List.range'],d,k5,k6.cons _,fun q hq hqd=>?_⟩
    ·simp only [hg,hgo];exact ⟨trivial,by simp⟩
    ·rcases Zs.1 hq with rfl|hq
     ·exact ⟨rfl,rfl⟩
     ·exact k7 q hq hqd
   ·exact h.elim
theorem Zaf {ops:List Oper} (h:Zag ops=true) {i k:Nat} {x y:Oper} (hk:ops[k]?=some x) (hi:ops[i]?=some y) (hlt:k<i):((O5 ops).getD i 0).testBit k=true∨Df ops x y=true:=by
 simp only [Zag,List.all_eq_true,List.mem_range,Bool.or_eq_true] at h;have:=h i (List.getElem?_eq_some_iff.1 hi).1 k hlt;rw [hk,hi] at this;exact this
theorem Zrt (K:Bi P C) (hC:C.dp=1) {ops:Array Oper} {N:AS→Prop} {Q:Exit→Act→World→Prop} (hQ:∀ st a w,SR base pass F0 st a w→N st→Q .normal a w) {s:AS} (h:SR base pass F0 s a w)
  (hn:Ki C ops.toList 0 ops.toList [] N s):wpAny P .any ops Q ops.size (Array.replicate ops.size false) a w:=by
 obtain ⟨l,t,d,k1,k2,k3,k4,d',k5,k6,k7⟩:=Tb ops.toList 0 [] s (fun j=>by simp) hn
 simp only [List.append_nil] at k5;subst k5;simp only [Qda,Zg] at k2;obtain ⟨⟨e1,e2⟩,e3⟩:=k2;have hlen:l.length=ops.size:=by have:=congrArg List.length k4;simpa using this
 have hmem:∀ i,(∃ q∈l,q.1=i)↔i<ops.size:=by
  intro i;have:i∈l.map (·.1)↔i<ops.size:=by rw [k4];simp
  rw [←this,List.mem_map]
 have hnd:(l.map (·.1)).Nodup:=by rw [k4,←List.range_eq_range'];exact List.nodup_range
 refine Zwu K hC e1 ops.size l _ s t a w hlen (by simp) (fun i hi=>?_) (fun q hq=>(hmem q.1).1 ⟨q,hq,rfl⟩) hnd (fun i o ho hl=>?_) k1 ?_ h (fun a w hs=>hQ t a w hs k3)
 ·simp [hi,hmem i]
 ·rcases Nat.lt_or_ge i ops.size with hlt|hge
  ·simp [hlt] at hl
  ·simp [Nat.not_lt.2 hge] at hl
 ·
  have hord:l.Pairwise (fun p q=>p.1<q.1):=by
   have:(l.map (·.1)).Pairwise (·<·):=by rw [k4,←List.range_eq_range'];exact List.pairwise_lt_range
   exact List.pairwise_map.1 this
  have hfp:=sN e3;have hd:d.reverse.Pairwise (fun p q=>(∀ k,k∈p.2.1→k∉q.2.1)∨(p.2.2=true∧q.2.2=true)∨((O5 ops.toList).getD q.1 0).testBit p.1=true):=List.pairwise_reverse.2 hfp;have hall:∀ p∈l,∀ q∈l,p.1<q.1→(∀ k,k∈p.2.1→k∉q.2.1)∨(p.2.2=true∧q.2.2=true)∨((O5 ops.toList).getD q.1 0).testBit p.1=true:=by
   intro p hp q hq hlt;by_cases hpd:p∈d
   ·by_cases hqd:q∈d
    ·
     have hs:d.reverse.Pairwise (fun p q=>p.1<q.1):=hord.sublist k6;have both:∀ {R:Nat×List Nat×Bool→Nat×List Nat×Bool→Prop} {L:List (Nat×List Nat×Bool)},L.Pairwise R→L.Pairwise (fun p q=>p.1<q.1)→∀ p∈L,∀ q∈L,p.1<q.1→R p q:=by
      intro R L
      induction L with
      | nil=>intro _ _ p hp;cases hp
      | cons x L ihL =>
       intro h1 h2 p hp q hq hlt;rw [List.pairwise_cons] at h1 h2;rcases Zs.1 hp with hpx|hp'
       ·rcases Zs.1 hq with hqx|hq'
        ·subst hpx;subst hqx;omega
        ·subst hpx;exact h1.1 q hq'
       ·rcases Zs.1 hq with hqx|hq'
        ·subst hqx;have:=h2.1 p hp';omega
        ·exact ihL h1.2 h2.2 p hp' q hq' hlt
     exact both hd hs p (by simpa using hpd) q (by simpa using hqd) hlt
    ·obtain ⟨q1,_⟩:=k7 q hq hqd;exact .inl fun k _ hk=>by rw [q1] at hk;cases hk
   ·obtain ⟨q1,_⟩:=k7 p hp hpd;exact .inl fun k hk=>by rw [q1] at hk;cases hk
  refine hord.imp_of_mem fun {p q} hp hq hlt=>?_;have hpl:=(hmem p.1).1 ⟨p,hp,rfl⟩;have hql:=(hmem q.1).1 ⟨q,hq,rfl⟩;rcases Zaf e2 (k:=p.1) (i:=q.1) (x:=ops[p.1]) (y:=ops[q.1]) (by simp [hpl]) (by simp [hql]) hlt with hb|hap
  ·exact .inr hb
  ·rcases hall p hp q hq hlt with h1|h1|h1
   ·refine .inl ⟨fun x y hx hy=>?_,.inl h1⟩;have hx':ops[p.1]=x:=by simpa [hpl] using hx
    have hy':ops[q.1]=y:=by simpa [hql] using hy
    rw [←hx',←hy'];exact hap
   ·refine .inl ⟨fun x y hx hy=>?_,.inr h1⟩;have hx':ops[p.1]=x:=by simpa [hpl] using hx
    have hy':ops[q.1]=y:=by simpa [hql] using hy
    rw [←hx',←hy'];exact hap
   ·exact .inr h1
theorem SR.drew (h:SR base pass F0 st a w):SR base pass F0 st a { w with drawn:=w.drawn+1 }:=by
 obtain ⟨m,G,h⟩:=h;exact ⟨m,G,h.drew⟩
def Zzg:AExit→Exit
 | .normal=>.normal
 | .exit id=>.exit id
 | .ret=>.ret
theorem zN:∀ {ks:List Nat} {st st':AS} {m:Nat→Nat} {G:Gh},SRg base pass F0 m G st a w→Qd8 ks st st'→∃ m' G',SRg base pass F0 m' G' st' a w
 | [],st,st',m,G,h,hw=>⟨m,_,h.weak hw⟩
 | k::ks,st,st',m,G,h,hw=>by
  simp only [Qd8] at hw;cases hp:pur 60 (st.tmps.getD k .dead) st.objs with
  | none=>rw [hp] at hw;exact hw.elim
  | some p =>
   obtain ⟨c,y,os⟩:=p;rw [hp] at hw;simp only at hw;obtain ⟨hc,hw⟩:=hw;have hk:k<st.tmps.length:=by
    refine Nat.lt_of_not_le fun hk=>?_;rw [Zd,List.getElem?_eq_none hk,Option.getD_none] at hp;simp [pur] at hp
   have hx:st.tmps[k]?=some (st.tmps.getD k .dead):=by
    rw [Zd,Zh hk,Option.getD_some]
   obtain ⟨v,hv,hr⟩:=RAs.at h.tmps hx;obtain ⟨m',h',_,_,hy⟩:=Lp h hp hc hr;refine zN (m:=m') (G:=G) ?_ hw;have ht:RAs ⟨w,m'⟩ G (lk os) (st.tmps.set k (.d y)) (a.tmps.toList.set k v):=RAs.set h'.tmps (by simpa only [RA] using hy)
   have hvs:a.tmps.toList.set k v=a.tmps.toList:=by
    have hl:k<a.tmps.toList.length:=by
     refine Nat.lt_of_not_le fun hn=>?_;rw [List.getElem?_eq_none hn] at hv;cases hv
    rw [Zh hl] at hv;injection hv with hv
    rw [←hv,List.set_getElem_self]
   rw [hvs] at ht;exact ⟨h'.defers,ht,h'.objs,h'.apart,h'.mine,h'.frame,h'.old,h'.new,h'.small,h'.lent⟩
theorem N5 (K:Bi P C):∀ (c:Code) {N:AExit→AS→Prop} {Q:Exit→Act→World→Prop} {st:AS} {a:Act} {w:World},
  (∀ e st a w,SR base pass F0 st a w→N e st→Q (Zzg e) a w)→SR base pass F0 st a w→Li C c N st→c.wp P Q a w
 | .skip,N,Q,st,a,w,hQ,h,hn=>wp_skip (hQ .normal st a w h hn)
 | .region id ops false,N,Q,st,a,w,hQ,h,hn=>by
  simp only [Li] at hn;refine wp_region_list ?_;have:=Nv (P:=P) K (Q:=Q) (hQ .normal) ops.toList st a w h hn;simpa using this
 | .region id ops true,N,Q,st,a,w,hQ,h,hn=>by
  simp only [Li] at hn;refine wp_region_any K.2.2.1 (Zrt (C:=C.one) ⟨K.1,K.2.1,K.2.2.1,K.2.2.2⟩ rfl (hQ .normal) h.drew hn)
 | .seq x y,N,Q,st,a,w,hQ,h,hn=>by
  simp only [Li] at hn;refine wp_seq (N5 K x ?_ h hn);intro e st a w hs he;cases e with
  | normal=>exact N5 K y hQ hs he
  | exit id=>exact hQ (.exit id) st a w hs he
  | ret=>exact hQ .ret st a w hs he
 | .cond c x y,N,Q,st,a,w,hQ,h,hn=>by
  simp only [Li] at hn;split at hn
  ·next b hb =>
   obtain ⟨m,G,hs⟩:=h;have hr:=Ys (C:=C) (hint:=0) hs.tmps c;rw [hb] at hr;simp only [RA] at hr;have hv:=hr.of_bool hn.1;exact wp_cond_split hv (fun ht=>N5 K x hQ ⟨m,G,hs⟩ (hn.2.1 ht)) (fun hf=>N5 K y hQ ⟨m,G,hs⟩ (hn.2.2 hf))
  ·exact hn.elim
 | .block id c,N,Q,st,a,w,hQ,h,hn=>by
  simp only [Li] at hn;refine wp_block (N5 K c ?_ h hn);intro e st a w hs he;cases e with
  | normal=>exact hQ .normal st a w hs he
  | exit id' =>
   simp only [uP] at he;simp only [Zzg,Exit.inBlock];split
   ·next hid=>rw [if_pos hid] at he;exact hQ .normal st a w hs he
   ·next hid=>rw [if_neg hid] at he;exact hQ (.exit id') st a w hs he
  | ret=>exact hQ .ret st a w hs he
 | .loop c,N,Q,st,a,w,hQ,h,hn=>by
  simp only [Li] at hn;obtain ⟨α,inv,ok,μ,rel,hrel,⟨x0,hw0,hok0⟩,hround⟩:=hn;obtain ⟨m,G,hs⟩:=h;obtain ⟨ks,hw0⟩:=hw0;obtain ⟨m,G,hs⟩:=zN hs hw0;refine wp_loop_ghost (fun n a w=>∃ x,ok x∧μ x=n∧SR base pass F0 (inv x) a w) (μ x0) ⟨x0,hok0,rfl,m,G,hs⟩ ?_;rintro n a w ⟨x,hok,rfl,hsx⟩;refine N5 K c ?_ hsx (hround x hok);intro e st a w hs he;cases e with
  | normal =>
   obtain ⟨x',hw',hok',hlt⟩:=he;obtain ⟨m',G',hs'⟩:=hs;obtain ⟨m2,G2,hs2⟩:=hs'.back (hrel _ _ hw');exact ⟨μ x',hlt,x',hok',rfl,m2,G2,hs2⟩
  | exit id=>exact hQ (.exit id) st a w hs he
  | ret=>exact hQ .ret st a w hs he
 | .exit id,N,Q,st,a,w,hQ,h,hn=>wp_exit (hQ (.exit id) st a w h hn)
 | .ret,N,Q,st,a,w,hQ,h,hn=>wp_ret (hQ .ret st a w h hn)
 | .rangeFunc ..,_,_,_,_,_,_,_,hn=>by simp [Li] at hn
 | .scope _,_,_,_,_,_,_,_,hn=>by simp [Li] at hn
 | .label _,_,_,_,_,_,_,_,hn=>by simp [Li] at hn
 | .goto _,_,_,_,_,_,_,_,hn=>by simp [Li] at hn
 | .refuse _,_,_,_,_,_,_,_,hn=>by simp [Li] at hn
end
def wR (C:Ctx) (st:AS):ResultVar→Option (Prop×AV)
 | .tmp t=>some (True,st.tmps.getD t .dead)
 | .cell t T=>match dO C T (st.tmps.getD t .dead) st.objs with
  | some (c,x,_)=>some (c,x)
  | none=>none
def Ah (C:Ctx) (st:AS):List ResultVar→Option (Prop×List AV)
 | []=>some (True,[])
 | r::rs=>match wR C st r,Ah C st rs with
  | some (c,x),some (c',l)=>some (c∧c',x::l)
  | _,_=>none
def Zmj (C:Ctx) (rs:List ResultVar) (outs:List Bool) (r:CV) (st:AS):Prop:=match Ah C st rs with
 | some (c,xs)=>match Vs C outs xs st.objs with
  | some (c',cvs,_)=>c∧c'∧match cvs with
   | [x]=>x=r
   | l=>CV.tup l=r
  | none=>False
 | none=>False
def Qca (C:Ctx) (rs:List ResultVar) (outs:List Bool) (r:CV):AExit→AS→Prop
 | .exit _,_=>False
 | _,st=>Zmj C rs outs r st
def Yu:Nat→List CV→List AV×Z3
 | _,[]=>([],[])
 | k,.d x::r=>(.d x::(Yu (k+1) r).1,(Yu (k+1) r).2)
 | k,.own s l::r=>(.sl k l.length::(Yu (k+1) r).1,(k,.row s l 0)::(Yu (k+1) r).2)
 | k,.tup _::r=>(.dead::(Yu (k+1) r).1,(Yu (k+1) r).2)
def P6:Nat→List AV
 | 0=>[]
 | n+1=>.dead::P6 n
def dQ (n:Nat) (cvs:List CV):AS:=⟨(Yu 80000 cvs).1++P6 (n-cvs.length),(Yu 80000 cvs).2⟩
theorem pY:∀ {o:Z3} {k:Nat} {x:Obj},lk o k=none→upd o k x=o++[(k,x)]
 | [],_,_,_=>rfl
 | (j,p)::r,k,x,h=>by
  simp only [lk] at h;by_cases hkj:k=j
  ·rw [if_pos hkj] at h;cases h
  ·rw [if_neg hkj] at h;simp only [upd,if_neg hkj,List.cons_append,pY h]
theorem aN {base:Nat} {pass:Nat→Prop} {F0:Anc} {m:Nat→Nat} {w:World}:∀ {cvs:List CV} {vs:List Value} {k:Nat} {os:Z3} {G:Gh},SRg base pass F0 m G ⟨[],os⟩ ⟨#[],[]⟩ w→Ui ⟨w,m⟩ cvs vs→(Q1 cvs vs).Nodup →
  (∀ b∈Q1 cvs vs,(base≤b∨pass b)∧∀ i oi,lk os i=some oi→oi.owns=true→G.γ i≠some b)→(∀ j,k≤j→lk os j=none) →
  ∃ G',Ge G (lk os) G' (lk (os++(Yu k cvs).2))∧SRg base pass F0 m G' ⟨[],os++(Yu k cvs).2⟩ ⟨#[],[]⟩ w∧RAs ⟨w,m⟩ G' (lk (os++(Yu k cvs).2)) (Yu k cvs).1 vs
 | [],vs,k,os,G,h,hc,_,_,_=>by
  simp only [Ui] at hc;subst hc;simp only [Yu,List.append_nil];exact ⟨G,Ge.refl _ _,h,by simp [RAs]⟩
 | .tup l::cvs,vs,k,os,G,h,hc,_,_,_=>by
  simp only [Ui,zR] at hc;obtain ⟨_,_,_,hf,_⟩:=hc;exact hf.elim
 | .d x::cvs,vs,k,os,G,h,hc,hn,hb,hk=>by
  simp only [Ui,zR] at hc;obtain ⟨v,r,rfl,hx,hxs⟩:=hc;obtain ⟨G',q1,q2,q3⟩:=aN (k:=k+1) h hxs (by simpa [Q1] using hn) (fun b hbb=>hb b (by simpa [Q1] using hbb)) (fun j hj=>hk j (by omega))
  simp only [Yu];refine ⟨G',q1,q2,?_⟩;simp only [RAs,RA];exact ⟨v,r,rfl,hx,q3⟩
 | .own s l::cvs,vs,k,os,G,h,hc,hn,hb,hk=>by
  simp only [Ui,zR] at hc;obtain ⟨v,r,rfl,hx,hxs⟩:=hc;have hsplit:Q1 (.own s l::cvs) (v::r)=v.ownBlock.toList++Q1 cvs r:=rfl;rw [hsplit] at hn hb;obtain ⟨n1,n2,n3⟩:=List.nodup_append.1 hn;have hk0:=hk k (Zq _);obtain ⟨G1,q1,q2,q3,q4,q5⟩:=h.adopt hk0 hx (fun b hbb=>hb b (List.mem_append_left _ (by simp [hbb])))
  rw [pY hk0] at q1 q2 q3;obtain ⟨G',p1,p2,p3⟩:=aN (k:=k+1) (os:=os++[(k,.row s l 0)]) q2 hxs n2 (fun b hbb=>by
   refine ⟨(hb b (List.mem_append_right _ hbb)).1,fun i oi hi ho hg=>?_⟩;rw [←pY hk0,Xn] at hi;by_cases hik:i=k
   ·subst hik;exact n3 b (by simp [q5 b hg]) b hbb rfl
   ·rw [if_neg hik] at hi;rw [q4 i hik] at hg;exact (hb b (List.mem_append_right _ hbb)).2 i oi hi ho hg) (fun j hj=>by
   rw [←pY hk0,Xn,if_neg (by omega)]
   exact hk j (by omega))
  simp only [Yu];simp only [List.append_assoc,List.singleton_append] at p1 p2 p3;refine ⟨G',?_,p2,?_⟩
  ·intro j o hj;obtain ⟨oa,a1,a2,a3⟩:=q1 j o hj;obtain ⟨ob,b1,b2,b3⟩:=p1 j oa a1;refine ⟨ob,b1,fun hbx=>?_,fun s' els' k' he=>?_⟩
   ·obtain ⟨u1,u2⟩:=b2 hbx;obtain ⟨u3,u4⟩:=a2 u1;exact ⟨u3,u2.trans u4⟩
   ·obtain ⟨els1,kk1,e1,e2,e3⟩:=b3 s' els' k' he;obtain ⟨els2,kk2,f1,f2,f3⟩:=a3 s' els1 kk1 e1;refine ⟨els2,kk2,f1,Nat.le_trans f2 e2,fun hl=>?_⟩;obtain ⟨u1,u2⟩:=e3 (by omega)
    obtain ⟨u3,u4⟩:=f3 (by omega)
    exact ⟨u1.trans u3,u2.trans u4⟩
  ·simp only [RAs];exact ⟨v,r,rfl,RA.mono (Fix.le_refl _) p1 q3,p3⟩
theorem Ui.length {F:Fix}:∀ {l:List CV} {vs:List Value},Ui F l vs→vs.length=l.length
 | [],_,h=>by simp only [Ui] at h;simp [h]
 | _::l,_,h=>by
  simp only [Ui] at h;obtain ⟨v,r,rfl,_,h3⟩:=h;simp [Ui.length h3]
theorem E1 {F:Fix} {G:Gh} {L:Nat→Option Obj}:∀ n,RAs F G L (P6 n) (List.replicate n undef)
 | 0=>by simp [P6,RAs]
 | n+1=>by simp only [P6,List.replicate_succ,RAs,RA];exact ⟨undef,_,rfl,trivial,E1 n⟩
def Zaj (a:Act):ResultVar→Sem Value
 | .tmp t=>pure (a.tmps.getD t undef)
 | .cell t T=>do loadVar T (←asAddr (a.tmps.getD t undef))
theorem Zp7 {P:Program} {w:World} {T:TypeId} {v v':Value} (h:(Instr.loadAt T v).run P w=.ok v' w):(do loadVar T (←asAddr v):Sem Value).run P w=.ok v' w:=by
 cases v with
 | pointer a =>
  cases a with
  | none=>simp [Instr.loadAt,Instr.sureAddr] at h
  | some a=>simpa [Instr.loadAt,Instr.sureAddr,asAddr] using h
 | _=>simp [Instr.loadAt,Instr.sureAddr] at h
section
variable {P:Program} {C:Ctx} {base:Nat} {pass:Nat→Prop} {F0:Anc} {m:Nat→Nat} {G:Gh} {st:AS} {a:Act} {w:World}
theorem Zml (T:W4 P C.τ) (h:SRg base pass F0 m G st a w) {r:ResultVar} {c:Prop} {x:AV}
  (hr:wR C st r=some (c,x)) (hc:c):∃ v,(Zaj a r).run P w=.ok v w∧RA ⟨w,m⟩ G (lk st.objs) x v:=by
 cases r with
 | tmp t =>
  simp only [wR,Zc,Ze] at hr;obtain ⟨rfl,rfl⟩:=hr;exact ⟨_,rfl,Ys (C:=C) (hint:=0) h.tmps (.tmp t)⟩
 | cell t T' =>
  simp only [wR] at hr;split at hr
  ·next c1 y os hl =>
   simp only [Zc,Ze] at hr;obtain ⟨rfl,rfl⟩:=hr;have hp:=Ys (C:=C) (hint:=0) h.tmps (.tmp t);obtain ⟨_,v,r1,r2⟩:=Zs7 (P:=P) T h hp hl hc;exact ⟨v,Zp7 r1,r2⟩
  ·cases hr
theorem T5 (T:W4 P C.τ) (h:SRg base pass F0 m G st a w):∀ {rs:List ResultVar} {c:Prop} {xs:List AV},Ah C st rs=some (c,xs)→c →
  ∃ vs,(rs.mapM (Zaj a)).run P w=.ok vs w∧RAs ⟨w,m⟩ G (lk st.objs) xs vs
 | [],c,xs,hr,hc=>by
  simp only [Ah,Zc,Ze] at hr;obtain ⟨rfl,rfl⟩:=hr;exact ⟨[],by simp,by simp [RAs]⟩
 | r::rs,c,xs,hr,hc=>by
  simp only [Ah] at hr;split at hr
  ·next c1 x c2 l h1 h2 =>
   simp only [Zc,Ze] at hr;obtain ⟨rfl,rfl⟩:=hr;obtain ⟨v,e1,e2⟩:=Zml T h h1 hc.1;obtain ⟨vs,g1,g2⟩:=T5 T h h2 hc.2;refine ⟨v::vs,by simp [List.mapM_cons,e1,g1],?_⟩
   simp only [RAs];exact ⟨v,vs,rfl,e2,g2⟩
  ·cases hr
def rZ:List Value→Value
 | [v]=>v
 | vs=>.tuple vs.toArray
theorem Ou {fn:Func} {vs:List Value} (h:(fn.results.toList.mapM (Zaj a)).run P w=.ok vs w):(results fn a.tmps).run P w=.ok (rZ vs) w:=by
 have e:results fn a.tmps=(do
   let us ←List.toArray <$> fn.results.toList.mapM (Zaj a)
   pure (if h:us.size=1 then us[0] else .tuple us)):=by
  unfold results
  congr 1
  rw [Array.mapM_eq_mapM_toList];rfl
 rw [e];simp only [Sem.run_bind,Sem.run_map,h,Result.andThen_ok,Sem.run_pure]
 match vs with
 | []=>simp [rZ]
 | [v]=>simp [rZ]
 | _::_::_=>simp [rZ]
theorem Zzc (K:Bi P C) {f:FuncId} {fn:Func} {c:Code} {con:Con} (hf:P.funcs[f]?=some fn) (hb:fn.body=some c) (rs:List ResultVar) (hrs:fn.results.toList=rs) (nt:Nat) (hnt:fn.ntmps=nt)
  (h:∀ cvs,con.pre cvs→Li C c (Qca C rs con.outs (con.fn cvs)) (dQ nt cvs)):Qad P f con:=by
 intro m w cvs vs hpre hcv hnd hnew;subst hnt;subst hrs;refine calls_of_wp hf hb ?_;have hlt:∀ (l:List CV) (us:List Value),Ui ⟨w,m⟩ l us→∀ b∈Q1 l us,b<w.heap.size:=by
  intro l
  induction l with
  | nil=>intro us hu b hb;simp [Q1] at hb
  | cons x l ih =>
   intro us hu b hb;simp only [Ui] at hu;obtain ⟨u,r,rfl,hx1,hxs1⟩:=hu;have hsplit:Q1 (x::l) (u::r)=Q1 [x] [u]++Q1 l r:=by cases x<;>simp [Q1]
   rw [hsplit] at hb;rcases List.mem_append.1 hb with hb|hb
   ·cases x with
    | own s els =>
     simp [Q1] at hb;exact (vX.lt hx1 hb).1
    | _=>simp [Q1] at hb
   ·exact ih r hxs1 b hb
 have h0:SRg w.heap.size (·∈Q1 cvs vs) ⟨⟨w,m⟩,⟨fun _=>none,fun _=>undef⟩,fun _=>none⟩ m ⟨fun _=>none,fun _=>undef⟩ ⟨[],[]⟩ ⟨#[],[]⟩ w :=
  ⟨rfl,by simp [RAs],fun i o hi=>by simp [lk] at hi,fun i j oi oj b hi=>by simp [lk] at hi,fun i o b hi=>by simp [lk] at hi,Frame.refl _ _ _,fun _ _ _=>rfl,hnew,Zq _,fun i o hi=>by cases hi⟩
 obtain ⟨G,q1,q2,q3⟩:=aN (k:=80000) (os:=[]) h0 hcv hnd (fun b hb=>⟨.inr hb,fun i oi hi=>by simp [lk] at hi⟩) (fun _ _=>rfl)
 simp only [List.nil_append] at q1 q2 q3;have hlen:=Ui.length hcv;have hs:SRg w.heap.size (·∈Q1 cvs vs) ⟨⟨w,m⟩,⟨fun _=>none,fun _=>undef⟩,fun _=>none⟩ m G (dQ fn.ntmps cvs) { tmps:=vs.toArray++Array.replicate (fn.ntmps-vs.toArray.size) undef,defers:=[] } w:=by
  refine ⟨rfl,?_,q2.objs,q2.apart,q2.mine,q2.frame,q2.old,q2.new,q2.small,q2.lent⟩;have:=RAs.append q3 (E1 (F:=⟨w,m⟩) (G:=G) (L:=lk (Yu 80000 cvs).2) (fn.ntmps-cvs.length));simpa [dQ,hlen] using this
 have fin:∀ (st:AS) (a:Act) (w':World),SR w.heap.size (·∈Q1 cvs vs) ⟨⟨w,m⟩,⟨fun _=>none,fun _=>undef⟩,fun _=>none⟩ st a w'→Zmj C fn.results.toList con.outs (con.fn cvs) st →
   a.defers=[]∧∃ v,(results fn a.tmps).run P w'=.ok v w'∧∃ u m',Ending.returned v=.returned u∧Frame w.heap.size (·∈Q1 cvs vs) w w'∧(∀ b,b<w.heap.size→b∉Q1 cvs vs→m' b=m b) ∧
    (∀ b,w'.heap.size≤b→m' b=0)∧Zpq ⟨w',m'⟩ w.heap.size (·∈Q1 cvs vs) (con.fn cvs) u:=by
  intro st a w' ⟨m1,G1,hs1⟩ hret;unfold Zmj at hret;split at hret
  ·next c1 xs hra =>
   split at hret
   ·next c2 cvs2 os hin =>
    obtain ⟨hc1,hc2,hfin⟩:=hret;obtain ⟨us,e1,e2⟩:=T5 K.1 hs1 hra hc1;obtain ⟨m2,k1,k2,k3,k4,k5⟩:=iW hs1 hin hc2 e2;refine ⟨hs1.defers,_,Ou e1,_,m2,rfl,k1.frame,fun b hb hnb=>k1.old b hb hnb,k1.new,?_⟩;split at hfin
    ·next x =>
     simp only [Ui] at k3;obtain ⟨v,r,rfl,hx,rfl⟩:=k3;rw [←hfin];cases x with
     | tup l=>simp [zR] at hx
     | d x =>
      simp only [Zpq];exact ⟨⟨v,[],rfl,hx,rfl⟩,fun b hb=>(k5 b hb).1⟩
     | own s l =>
      simp only [Zpq];exact ⟨⟨v,[],rfl,hx,rfl⟩,fun b hb=>(k5 b hb).1⟩
    ·next hne =>
     rw [←hfin];simp only [Zpq];refine ⟨us,?_,k3,k4,fun b hb=>(k5 b hb).1⟩
     match us,Ui.length k3 with
     | [u],hl =>
      match cvs2,hl with
      | [x],_=>exact absurd rfl (hne x)
     | [],_=>rfl
     | _::_::_,_=>rfl
   ·exact hret.elim
  ·exact hret.elim
 refine N5 K c ?_ ⟨m,G,hs⟩ (h cvs hpre);intro e st a w' hsr hpost;cases e with
 | normal=>exact fin st a w' hsr hpost
 | ret=>exact fin st a w' hsr hpost
 | exit id=>exact hpost.elim
def xJ:List D→D
 | [d]=>d
 | l=>.tup l
def Ztx (n:Nat) (qs:List Nat):Prop:=∀ j,j<n→qs[j]?=some (90000+j)
def Zx9 (C:Ctx) (rs:List ResultVar) (n:Nat) (res:D) (post:List Obj) (st:AS):Prop:=match Ah C st rs with
 | some (c,xs)=>match purs C.dp xs st.objs with
  | some (c',ds,os)=>c∧c'∧xJ ds=res∧∃ qs:List Nat,qs.Nodup∧qs.length=post.length∧Ztx n qs∧Q3 qs qs post os
  | none=>False
 | none=>False
def oA (C:Ctx) (rs:List ResultVar) (n:Nat) (res:D) (post:List Obj):AExit→AS→Prop
 | .exit _,_=>False
 | _,st=>Zx9 C rs n res post st
def Zmk (C:Ctx) (rs:List ResultVar) (n j:Nat) (post:List Obj) (st:AS):Prop:=match Ah C st rs with
 | some (c,[.mpr k])=>c∧∃ qs:List Nat,qs.Nodup∧qs.length=post.length∧Ztx n qs∧Q3 qs qs post st.objs∧qs[j]?=some k
 | _=>False
def Zbw (C:Ctx) (rs:List ResultVar) (n j:Nat) (post:List Obj):AExit→AS→Prop
 | .exit _,_=>False
 | _,st=>Zmk C rs n j post st
theorem Qc4 {F:Fix} {rs:List Nat} {l:List Obj} {G1 G2:Gh} {L:Nat→Option Obj} (al:Alike rs l G1 G2 L) {j:Nat} {v:Value} (hj:j<l.length) (h:RA F G2 L (.mpr (rk rs (90000+j))) v):RA F G1 (lk (Jc l)) (.mpr (90000+j)) v:=by
 have hl:=Uj (Zh (l:=l) hj);simp only [RA] at h ⊢;obtain ⟨h1,h2⟩:=h;refine ⟨h1,?_⟩;rw [al.obj _ _ hl] at h2;rw [hl];intro hb;obtain ⟨b,e1,e2⟩:=h2 (by rw [Pe];exact hb)
 exact ⟨b,by rw [(al.gam _ _ hl).1];exact e1,e2⟩
theorem Qa0 {F:Fix} {ds:List D} {us:List Value} (h:Rs F ds us):R F (xJ ds) (rZ us):=by
 match ds,us,h with
 | [],us,h =>
  simp only [Rs] at h;subst h;simp only [xJ,rZ,R,Rs];exact ⟨[],rfl,rfl⟩
 | [d],us,h =>
  simp only [Rs] at h;obtain ⟨v,r,rfl,h2,rfl⟩:=h;exact h2
 | d::e::l,us,h =>
  have h':=h;simp only [Rs] at h;obtain ⟨v,r,rfl,h2,v',r',rfl,h3,h4⟩:=h;simp only [xJ,rZ,R];exact ⟨_,rfl,h'⟩
theorem Zv7 (K:Bi P C) {f:FuncId} {fn:Func} {c:Code} {bc:BCon} (hf:P.funcs[f]?=some fn) (hb:fn.body=some c) (rs:List ResultVar) (hrs:fn.results.toList=rs) (nt:Nat) (hnt:fn.ntmps=nt)
  (h:∀ x,bc.ok x→Tl (bc.args x) (bc.objs x)∧Jr (bc.objs x)∧Tl [] (bc.post x)∧(bc.objs x).length≤(bc.post x).length ∧
   Li C c (oA C rs (bc.objs x).length (bc.res x) (bc.post x)) ⟨bc.args x++P6 (nt-(bc.args x).length),Jc (bc.objs x)⟩) (hout:∀ x,bc.out x=none:=by intro _;rfl):Zbt P f bc:=by
 intro x hok;obtain ⟨h1,h2,h3,h4,h5⟩:=h x hok;refine ⟨h1,h2,h3,h4,fun m w G vs hsr=>?_⟩;subst hnt;subst hrs;refine calls_of_wp hf hb ?_;have hlen:=RAs.length (by simpa using hsr.tmps:RAs ⟨w,m⟩ G (lk (Jc (bc.objs x))) (bc.args x) vs)
 have hs:SRg w.heap.size (Dk G (bc.objs x)) ⟨⟨w,m⟩,G,lk (Jc (bc.objs x))⟩ m G ⟨bc.args x++P6 (fn.ntmps-(bc.args x).length),Jc (bc.objs x)⟩
   { tmps:=vs.toArray++Array.replicate (fn.ntmps-vs.toArray.size) undef,defers:=[] } w:=by
  refine ⟨rfl,?_,hsr.objs,hsr.apart,hsr.mine,hsr.frame,hsr.old,hsr.new,hsr.small,hsr.lent⟩;have:=RAs.append (by simpa using hsr.tmps:RAs ⟨w,m⟩ G (lk (Jc (bc.objs x))) (bc.args x) vs) (E1 (F:=⟨w,m⟩) (G:=G) (L:=lk (Jc (bc.objs x))) (fn.ntmps-(bc.args x).length))
  simpa [hlen] using this
 have fin:∀ (st:AS) (a:Act) (w':World),SR w.heap.size (Dk G (bc.objs x)) ⟨⟨w,m⟩,G,lk (Jc (bc.objs x))⟩ st a w'→Zx9 C fn.results.toList (bc.objs x).length (bc.res x) (bc.post x) st →
   a.defers=[]∧∃ v,(results fn a.tmps).run P w'=.ok v w'∧∃ u m' G',Ending.returned v=.returned u∧RA ⟨w',m'⟩ G' (lk (Jc (bc.post x))) (bc.rv x) u ∧
    SRg w.heap.size (Dk G (bc.objs x)) ⟨⟨w,m⟩,G,lk (Jc (bc.objs x))⟩ m' G' ⟨[],Jc (bc.post x)⟩ ⟨#[],[]⟩ w':=by
  intro st a w' ⟨m1,Gf,hs1⟩ hret;unfold Zx9 at hret;split at hret
  ·next c1 xs hra =>
   split at hret
   ·next c2 ds os hpu =>
    obtain ⟨hc1,hc2,hpk,qs,hnd,hql,hcan,hst⟩:=hret;obtain ⟨us,e1,e2⟩:=T5 K.1 hs1 hra hc1;obtain ⟨m2,k1,_,k3⟩:=purs_sound' hs1 hpu hc2 e2;have hinj:∀ {j j' k:Nat},qs[j]?=some k→qs[j']?=some k→j=j':=by
     intro j j' k h1 h2;obtain ⟨hj,e1⟩:=List.getElem?_eq_some_iff.1 h1;obtain ⟨hj',e2⟩:=List.getElem?_eq_some_iff.1 h2;have hp:=List.pairwise_iff_getElem.1 hnd;rcases Nat.lt_trichotomy j j' with hlt|heq|hgt
     ·exact absurd (e1.trans e2.symm) (hp j j' hj hj' hlt)
     ·exact heq
     ·exact absurd (e2.trans e1.symm) (hp j' j hj' hj hgt)
    let G':Gh:=⟨fun i=>Gf.γ (rk qs i),fun i=>Gf.hd (rk qs i)⟩
    have al:Alike qs (bc.post x) G' Gf (lk os):=⟨fun i o hi=>by
     obtain ⟨j,rfl,hj⟩:=X0 hi;obtain ⟨k,hk,hkk⟩:=Wv hst hj;rw [Mc hk];exact hkk,fun i o hi=>⟨rfl,rfl⟩⟩
    refine ⟨hs1.defers,_,Ou e1,_,m2,G',rfl,by unfold BCon.rv;rw [hout x];simp only [RA];rw [←hpk];exact Qa0 k3,?_⟩
    constructor
    ·rfl
    ·simp [RAs]
    ·intro i o hi;obtain ⟨j,rfl,hj⟩:=X0 hi;exact (gX al hi (Dd h3.2 hj)).2 (k1.objs _ _ (al.obj _ _ hi))
    ·intro i i' o o' b hi hi' ho ho' hb hb';have e:=k1.apart _ _ _ _ b (al.obj _ _ hi) (al.obj _ _ hi') (by rw [Un];exact ho) (by rw [Un];exact ho') hb hb'
     obtain ⟨j,rfl,hj⟩:=X0 hi;obtain ⟨j',rfl,hj'⟩:=X0 hi';obtain ⟨k,hk,_⟩:=Wv hst hj;obtain ⟨k',hk',_⟩:=Wv hst hj';rw [Mc hk,Mc hk'] at e;subst e;rw [hinj hk hk']
    ·intro i o b hi ho hb;exact k1.mine _ _ b (al.obj _ _ hi) (by rw [Un];exact ho) hb
    ·exact k1.frame
    ·exact k1.old
    ·exact k1.new
    ·exact k1.small
    ·intro i o hi;obtain ⟨hge,o',ho',hw⟩:=k1.lent i o hi;obtain ⟨j,rfl,hj⟩:=X0 hi;have hjn:j<(bc.objs x).length:=(List.getElem?_eq_some_iff.1 hj).1;have hjp:j<(bc.post x).length:=by omega
     have hp:=Zh (l:=bc.post x) hjp;obtain ⟨k,hk,hkk⟩:=Wv hst hp;rw [hcan j hjn] at hk;injection hk with hk
     subst hk;simp only at ho';rw [hkk] at ho';injection ho' with ho'
     subst ho';have eg:G'.γ (90000+j)=Gf.γ (90000+j):=by show Gf.γ (rk qs (90000+j))=_;rw [Mc (hcan j hjn)]
     have eh:G'.hd (90000+j)=Gf.hd (90000+j):=by show Gf.hd (rk qs (90000+j))=_;rw [Mc (hcan j hjn)]
     refine ⟨hge,_,Uj hp,fun hb=>?_,fun s els' k' he=>?_⟩
     ·obtain ⟨w1,w2⟩:=hw.1 (by rw [Pe];exact hb)
      exact ⟨w1,eg.trans w2⟩
     ·obtain ⟨els,k0,f1,f2,f3⟩:=hw.2 s els' k' (pK.2 he);refine ⟨els,k0,f1,f2,fun heq=>?_⟩;obtain ⟨q1,q2⟩:=f3 heq;exact ⟨eg.trans q1,eh.trans q2⟩
   ·exact hret.elim
  ·exact hret.elim
 refine N5 K c ?_ ⟨m,G,hs⟩ h5;intro e st a w' hsr hpost;cases e with
 | normal=>exact fin st a w' hsr hpost
 | ret=>exact fin st a w' hsr hpost
 | exit id=>exact hpost.elim
theorem Zrh (K:Bi P C) {f:FuncId} {fn:Func} {c:Code} {bc:BCon} {oj:bc.X→Nat} (hf:P.funcs[f]?=some fn) (hb:fn.body=some c) (rs:List ResultVar) (hrs:fn.results.toList=rs) (nt:Nat) (hnt:fn.ntmps=nt)
  (h:∀ x,bc.ok x→Tl (bc.args x) (bc.objs x)∧Jr (bc.objs x)∧Tl [] (bc.post x)∧(bc.objs x).length≤(bc.post x).length ∧
   Li C c (Zbw C rs (bc.objs x).length (oj x) (bc.post x)) ⟨bc.args x++P6 (nt-(bc.args x).length),Jc (bc.objs x)⟩) (hout:∀ x,bc.out x=some (oj x)):Zbt P f bc:=by
 intro x hok;obtain ⟨h1,h2,h3,h4,h5⟩:=h x hok;refine ⟨h1,h2,h3,h4,fun m w G vs hsr=>?_⟩;subst hnt;subst hrs;refine calls_of_wp hf hb ?_;have hlen:=RAs.length (by simpa using hsr.tmps:RAs ⟨w,m⟩ G (lk (Jc (bc.objs x))) (bc.args x) vs)
 have hs:SRg w.heap.size (Dk G (bc.objs x)) ⟨⟨w,m⟩,G,lk (Jc (bc.objs x))⟩ m G ⟨bc.args x++P6 (fn.ntmps-(bc.args x).length),Jc (bc.objs x)⟩
   { tmps:=vs.toArray++Array.replicate (fn.ntmps-vs.toArray.size) undef,defers:=[] } w:=by
  refine ⟨rfl,?_,hsr.objs,hsr.apart,hsr.mine,hsr.frame,hsr.old,hsr.new,hsr.small,hsr.lent⟩;have:=RAs.append (by simpa using hsr.tmps:RAs ⟨w,m⟩ G (lk (Jc (bc.objs x))) (bc.args x) vs) (E1 (F:=⟨w,m⟩) (G:=G) (L:=lk (Jc (bc.objs x))) (fn.ntmps-(bc.args x).length))
  simpa [hlen] using this
 have fin:∀ (st:AS) (a:Act) (w':World),SR w.heap.size (Dk G (bc.objs x)) ⟨⟨w,m⟩,G,lk (Jc (bc.objs x))⟩ st a w'→Zmk C fn.results.toList (bc.objs x).length (oj x) (bc.post x) st →
   a.defers=[]∧∃ v,(results fn a.tmps).run P w'=.ok v w'∧∃ u m' G',Ending.returned v=.returned u∧RA ⟨w',m'⟩ G' (lk (Jc (bc.post x))) (bc.rv x) u ∧
    SRg w.heap.size (Dk G (bc.objs x)) ⟨⟨w,m⟩,G,lk (Jc (bc.objs x))⟩ m' G' ⟨[],Jc (bc.post x)⟩ ⟨#[],[]⟩ w':=by
  intro st a w' ⟨m1,Gf,hs1⟩ hret;unfold Zmk at hret;split at hret
  ·next c1 k0 hra =>
    obtain ⟨hc1,qs,hnd,hql,hcan,hst,hqk⟩:=hret;obtain ⟨us,e1,e2⟩:=T5 K.1 hs1 hra hc1;have k1:=hs1;have hinj:∀ {j j' k:Nat},qs[j]?=some k→qs[j']?=some k→j=j':=by
     intro j j' k h1 h2;obtain ⟨hj,e1⟩:=List.getElem?_eq_some_iff.1 h1;obtain ⟨hj',e2⟩:=List.getElem?_eq_some_iff.1 h2;have hp:=List.pairwise_iff_getElem.1 hnd;rcases Nat.lt_trichotomy j j' with hlt|heq|hgt
     ·exact absurd (e1.trans e2.symm) (hp j j' hj hj' hlt)
     ·exact heq
     ·exact absurd (e2.trans e1.symm) (hp j' j hj' hj hgt)
    let G':Gh:=⟨fun i=>Gf.γ (rk qs i),fun i=>Gf.hd (rk qs i)⟩
    have al:Alike qs (bc.post x) G' Gf (lk st.objs):=⟨fun i o hi=>by
     obtain ⟨j,rfl,hj⟩:=X0 hi;obtain ⟨k,hk,hkk⟩:=Wv hst hj;rw [Mc hk];exact hkk,fun i o hi=>⟨rfl,rfl⟩⟩
    refine ⟨hs1.defers,_,Ou e1,_,m1,G',rfl,by
     unfold BCon.rv;rw [hout x];simp only [RAs] at e2;obtain ⟨u,r,rfl,e3,rfl⟩:=e2;rw [←Mc hqk] at e3;show RA _ _ _ _ u;exact Qc4 al (by rw [←hql];exact (List.getElem?_eq_some_iff.1 hqk).1) e3,?_⟩
    constructor
    ·rfl
    ·simp [RAs]
    ·intro i o hi;obtain ⟨j,rfl,hj⟩:=X0 hi;exact (gX al hi (Dd h3.2 hj)).2 (k1.objs _ _ (al.obj _ _ hi))
    ·intro i i' o o' b hi hi' ho ho' hb hb';have e:=k1.apart _ _ _ _ b (al.obj _ _ hi) (al.obj _ _ hi') (by rw [Un];exact ho) (by rw [Un];exact ho') hb hb'
     obtain ⟨j,rfl,hj⟩:=X0 hi;obtain ⟨j',rfl,hj'⟩:=X0 hi';obtain ⟨k,hk,_⟩:=Wv hst hj;obtain ⟨k',hk',_⟩:=Wv hst hj';rw [Mc hk,Mc hk'] at e;subst e;rw [hinj hk hk']
    ·intro i o b hi ho hb;exact k1.mine _ _ b (al.obj _ _ hi) (by rw [Un];exact ho) hb
    ·exact k1.frame
    ·exact k1.old
    ·exact k1.new
    ·exact k1.small
    ·intro i o hi;obtain ⟨hge,o',ho',hw⟩:=k1.lent i o hi;obtain ⟨j,rfl,hj⟩:=X0 hi;have hjn:j<(bc.objs x).length:=(List.getElem?_eq_some_iff.1 hj).1;have hjp:j<(bc.post x).length:=by omega
     have hp:=Zh (l:=bc.post x) hjp;obtain ⟨k,hk,hkk⟩:=Wv hst hp;rw [hcan j hjn] at hk;injection hk with hk
     subst hk;rw [hkk] at ho';injection ho' with ho'
     subst ho';have eg:G'.γ (90000+j)=Gf.γ (90000+j):=by show Gf.γ (rk qs (90000+j))=_;rw [Mc (hcan j hjn)]
     have eh:G'.hd (90000+j)=Gf.hd (90000+j):=by show Gf.hd (rk qs (90000+j))=_;rw [Mc (hcan j hjn)]
     refine ⟨hge,_,Uj hp,fun hb=>?_,fun s els' k' he=>?_⟩
     ·obtain ⟨w1,w2⟩:=hw.1 (by rw [Pe];exact hb)
      exact ⟨w1,eg.trans w2⟩
     ·obtain ⟨els,k0,f1,f2,f3⟩:=hw.2 s els' k' (pK.2 he);refine ⟨els,k0,f1,f2,fun heq=>?_⟩;obtain ⟨q1,q2⟩:=f3 heq;exact ⟨eg.trans q1,eh.trans q2⟩
  ·exact hret.elim
 refine N5 K c ?_ ⟨m,G,hs⟩ h5;intro e st a w' hsr hpost;cases e with
 | normal=>exact fin st a w' hsr hpost
 | ret=>exact fin st a w' hsr hpost
 | exit id=>exact hpost.elim
end
mutual
def zD:D→Value→Bool
 | .int k n,.int k' n'=>k==k'&&n==n'
 | .bool b,.bool b'=>b==b'
 | .str s,.string b=>s==b.data.toList
 | .nilf,.nilFunc=>true
 | .nilp,.pointer none=>true
 | .nilm,.map none=>true
 | .list _ l,.slice none 0 0=>l.isEmpty
 | .agg l,.agg cs=>zDs l cs.toList&&cs.toList.all (·.oneCell')
 | _,_=>false
def zDs:List D→List Value→Bool
 | [],[]=>true
 | x::l,v::vs=>zD x v&&zDs l vs
 | _,_=>false
end
mutual
def zA:AV→Value→Bool
 | .d x,v=>zD x v
 | .nils _,.slice none 0 0=>true
 | .agg l,.agg cs=>zAs l cs.toList&&cs.toList.all (·.oneCell')
 | _,_=>false
def zAs:List AV→List Value→Bool
 | [],[]=>true
 | x::l,v::vs=>zA x v&&zAs l vs
 | _,_=>false
end
mutual
theorem zD_sound:∀ {x:D} {v:Value},zD x v=true→∀ F,R F x v
 | .int k n,v,h,F=>by
  cases v<;>simp only [zD,Zt,Zg,Zk] at h;simp only [R];rw [h.1,h.2]
 | .bool b,v,h,F=>by
  cases v<;>simp only [zD,Zt,Zk] at h;simp only [R];rw [h]
 | .str s,v,h,F=>by
  cases v<;>simp only [zD,Zt,Zk] at h;simp only [R];rw [h]
 | .nilf,v,h,F=>by
  cases v<;>simp only [zD,Zt] at h;simp only [R]
 | .nilm,v,h,F=>by
  cases v with
  | map a=>cases a<;>simp only [zD,Zt] at h;simp only [R]
  | _=>simp only [zD,Zt] at h
 | .nilp,v,h,F=>by
  cases v with
  | pointer a=>cases a<;>simp only [zD,Zt] at h;simp only [R]
  | _=>simp only [zD,Zt] at h
 | .list s l,v,h,F=>by
  cases v with
  | slice A n c =>
   cases A with
   | some A=>simp only [zD,Zt] at h
   | none =>
    cases n with
    | succ n=>simp only [zD,Zt] at h
    | zero =>
     cases c with
     | succ c=>simp only [zD,Zt] at h
     | zero =>
      simp only [zD,List.isEmpty_iff] at h;subst h;simp only [R];exact ⟨none,0,rfl,by simp,by simp [maxLen],by simp⟩
  | _=>simp only [zD,Zt] at h
 | .agg l,v,h,F=>by
  cases v with
  | agg cs =>
   simp only [zD,Zg,List.all_eq_true] at h;simp only [R];exact ⟨cs.toList,by simp,zDs_sound h.1 F,h.2⟩
  | _=>simp only [zD,Zt] at h
 | .tup l,v,h,F=>by cases v<;>simp only [zD,Zt] at h
 | .ptr s x,v,h,F=>by cases v<;>simp only [zD,Zt] at h
 | .clo f l,v,h,F=>by cases v<;>simp only [zD,Zt] at h
theorem zDs_sound:∀ {l:List D} {vs:List Value},zDs l vs=true→∀ F,Rs F l vs
 | [],vs,h,F=>by
  cases vs with
  | nil=>simp only [Rs]
  | cons=>simp only [zDs,Zt] at h
 | x::l,vs,h,F=>by
  cases vs with
  | nil=>simp only [zDs,Zt] at h
  | cons v vs =>
   simp only [zDs,Zg] at h;simp only [Rs];exact ⟨v,vs,rfl,zD_sound h.1 F,zDs_sound h.2 F⟩
end
mutual
theorem zA_sound:∀ {x:AV} {v:Value},zA x v=true→∀ F G L,RA F G L x v
 | .d x,v,h,F,G,L=>by
  simp only [zA] at h;simp only [RA];exact zD_sound h F
 | .nils s,v,h,F,G,L=>by
  cases v with
  | slice A n c =>
   cases A with
   | some A=>simp only [zA,Zt] at h
   | none =>
    cases n with
    | succ n=>simp only [zA,Zt] at h
    | zero =>
     cases c with
     | succ c=>simp only [zA,Zt] at h
     | zero=>simp only [RA]
  | _=>simp only [zA,Zt] at h
 | .agg l,v,h,F,G,L=>by
  cases v with
  | agg cs =>
   simp only [zA,Zg,List.all_eq_true] at h;simp only [RA];exact ⟨cs.toList,by simp,zAs_sound h.1 F G L,h.2⟩
  | _=>simp only [zA,Zt] at h
 | .ref ..,v,h,F,G,L=>by cases v<;>simp only [zA,Zt] at h
 | .rref ..,v,h,F,G,L=>by cases v<;>simp only [zA,Zt] at h
 | .sl ..,v,h,F,G,L=>by cases v<;>simp only [zA,Zt] at h
 | .sb ..,v,h,F,G,L=>by cases v<;>simp only [zA,Zt] at h
 | .mpr ..,v,h,F,G,L=>by cases v<;>simp only [zA,Zt] at h
 | .tup ..,v,h,F,G,L=>by cases v<;>simp only [zA,Zt] at h
 | .clo ..,v,h,F,G,L=>by cases v<;>simp only [zA,Zt] at h
 | .dead,v,h,F,G,L=>by cases v<;>simp only [zA,Zt] at h
theorem zAs_sound:∀ {l:List AV} {vs:List Value},zAs l vs=true→∀ F G L,RAs F G L l vs
 | [],vs,h,F,G,L=>by
  cases vs with
  | nil=>simp only [RAs]
  | cons=>simp only [zAs,Zt] at h
 | x::l,vs,h,F,G,L=>by
  cases vs with
  | nil=>simp only [zAs,Zt] at h
  | cons v vs =>
   simp only [zAs,Zg] at h;simp only [RAs];exact ⟨v,vs,rfl,zA_sound h.1 F G L,zAs_sound h.2 F G L⟩
end
def bN (P:Program):List Field→List (Nat×Nat)→Bool
 | [],[]=>true
 | f::l,p::r=>f.offset==p.1&&((P.info? f.type).map (·.size)==some p.2)&&decide (0<p.2)&&(p.2 != 1||(match P.underlying f.type with|some d=>bY d|none=>false))&&bN P l r
 | _,_=>false
theorem eQ {P:Program}:∀ {l:List Field} {r:List (Nat×Nat)},bN P l r=true→r.length=l.length∧∀ (j:Nat) (f:Field) (p:Nat×Nat),l[j]?=some f→r[j]?=some p →
  f.offset=p.1∧(P.info? f.type).map (·.size)=some p.2∧0<p.2∧(p.2=1→∃ d',P.underlying f.type=some d'∧bY d'=true)
 | [],[],_=>⟨rfl,fun j f p h=>by simp at h⟩
 | [],_::_,h=>by simp [bN] at h
 | _::_,[],h=>by simp [bN] at h
 | f::l,p::r,h=>by
  simp only [bN,Zg,Zk,decide_eq_true_eq,Bool.or_eq_true,bne_iff_ne] at h;obtain ⟨⟨⟨⟨h1,h2⟩,h3⟩,h4⟩,h5⟩:=h;obtain ⟨g1,g2⟩:=eQ h5;refine ⟨by simp [g1],fun j f' p' hj hp=>?_⟩
  cases j with
  | zero =>
   simp only [List.getElem?_cons_zero,Zc] at hj hp;subst hj;subst hp;refine ⟨h1,h2,h3,fun he=>?_⟩;rcases h4 with h4|h4
   ·exact absurd he h4
   ·split at h4
    ·next d hd=>exact ⟨d,hd,h4⟩
    ·cases h4
  | succ j =>
   simp only [List.getElem?_cons_succ] at hj hp;exact g2 j f' p' hj hp
def Zy0 (P:Program) (τ:Nat→TI):TK→TypeDesc→Bool
 | .int k,.int k'=>k==k'
 | .bool,.bool=>true
 | .str,.string=>true
 | .slice e,.slice e'=>e==e'&&(τ e).kind.ag.isSome
 | .struct fs,.struct fields=>bN P fields.toList fs
 | .array n e,.array n' e'=>n==n'&&e==e'&&(τ e).kind.ag==some false
 | .ptr e,.pointer e'=>e==e'
 | .map k e,.map k' e'=>k==k'&&e==e'
 | .func,.func ..=>true
 | _,_=>false
theorem Znq {P:Program} {τ:Nat→TI} {k:TK} {d:TypeDesc} (h:Zy0 P τ k d=true):k.is P τ d:=by
 cases k<;>cases d<;>simp only [Zy0,Zt,Zk,Zg] at h<;>simp only [TK.is]
 case int.int=>rw [h]
 case slice.slice=>exact ⟨by rw [h.1],h.2⟩
 case struct.struct fs fields =>
  obtain ⟨g1,g2⟩:=eQ h;exact ⟨fields,rfl,by simpa using g1,fun j f p hj hp=>g2 j f p (by simpa using hj) hp⟩
 case array.array=>exact ⟨by rw [h.1.1,h.1.2],h.2⟩
 case ptr.pointer=>rw [h]
 case map.map=>rw [h.1,h.2]
 case func.func a b c=>exact ⟨a,b,c,rfl⟩
def SK.sameB:SK→TypeDesc→Bool
 | .int k,.int k'=>k==k'
 | .bool,.bool=>true
 | .str,.string=>true
 | _,_=>false
def yL (P : Program) : Nat → List Field → List SK → Bool
  | _, [], [] => true
  | j, f :: fs, k :: ks => (f.name != "_") && f.offset == j && (match P.underlying f.type with
    | some d => k.sameB d
    | none => false) && yL P (j + 1) fs ks
  | _, _, _ => false
def Qg9 (P:Program) (t:Nat):List SK→Bool
 | []=>true
 | ks=>(match P.underlying t with
  | some (.struct _)=>true
  | _=>false)&&!P.stoodInHeld t&&!P.eqGuardType P.depth t&&yL P 0 (P.fieldsOf t).toList ks
theorem nS {P:Program}:∀ {j:Nat} {fs:List Field} {ks:List SK},yL P j fs ks=true→Qbs P j fs ks
 | _,[],[],_=>trivial
 | _,[],_::_,h=>by simp [yL] at h
 | _,_::_,[],h=>by simp [yL] at h
 | j,f::fs,k::ks,h=>by
  simp only [yL,Zg,bne_iff_ne,Zk] at h;obtain ⟨⟨⟨h1,h2⟩,h3⟩,h4⟩:=h;refine ⟨h1,h2,?_,nS h4⟩;split at h3
  ·next d hd =>
   rw [hd];cases k<;>cases d<;>simp only [SK.sameB,Zt,Zk] at h3<;>first|rfl|(subst h3;rfl)
  ·cases h3
theorem Zwg {P:Program} {t:Nat} {ks:List SK} (h:Qg9 P t ks=true) (hk:ks≠[]):Qd3 P t ks:=by
 cases ks with
 | nil=>exact absurd rfl hk
 | cons k ks =>
  simp only [Qg9,Zg,Bool.not_eq_true'] at h;obtain ⟨⟨⟨h1,h2⟩,h3⟩,h4⟩:=h;refine ⟨?_,h2,h3,nS h4⟩;unfold Program.fieldsOf;split at h1
  ·next fs he=>simp [he]
  ·cases h1
def Qg6 (P:Program) (τ:Nat→TI) (t:Nat) (ti:TI):Bool:=match P.underlying t,P.info? t with
 | some d,some i=>Zy0 P τ ti.kind d&&i.size==ti.size&&i.bytes==ti.bytes&&decide (0<ti.size)&&Qg9 P t ti.eqk&&(match i.zero with
  | some z=>zA ti.zero z&&zD ti.zd z&&z.cells.size==ti.size&&z.cells.toList.all (·.oneCell')
  | none=>false)
 | _,_=>false
theorem Zug {P:Program} {τ:Nat→TI} {t:Nat} (h:Qg6 P τ t (τ t)=true):TyOk P τ t:=by
 unfold Qg6 at h;split at h
 ·next d i hd hi =>
  simp only [Zg,Zk,decide_eq_true_eq] at h;obtain ⟨⟨⟨⟨⟨h1,h2⟩,h3⟩,h4⟩,hq⟩,h5⟩:=h;split at h5
  ·next z hz =>
   simp only [Zg,Zk,List.all_eq_true] at h5;obtain ⟨⟨⟨g1,g2⟩,g3⟩,g4⟩:=h5;exact ⟨⟨d,hd,Znq h1⟩,⟨i,z,hi,h2,h3,hz,zA_sound g1,zD_sound g2,g3,g4⟩,h4,Zwg hq⟩
  ·cases h5
 ·cases h
def Qco:List (Nat×TI)→Nat→TI
 | [],_=>⟨.other,0,0,.dead,.nilp,[]⟩
 | (j,x)::r,i=>if i=j then x else Qco r i
theorem Zs8:∀ {tt:List (Nat×TI)} {t:Nat},(Qco tt t).kind.ag.isSome=true→(t,Qco tt t)∈tt
 | [],t,h=>by simp [Qco,TK.ag] at h
 | (j,x)::r,t,h=>by
  simp only [Qco] at h ⊢;by_cases htj:t=j
  ·subst htj;simp
  ·rw [if_neg htj] at h ⊢;exact List.mem_cons_of_mem _ (Zs8 h)
theorem Zxt {P:Program} {tt:List (Nat×TI)} (h:tt.all (fun p=>Qg6 P (Qco tt) p.1 p.2)=true):W4 P (Qco tt):=by
 intro t ht;exact Zug (List.all_eq_true.1 h _ (Zs8 ht))
theorem Jp {P : Program} {f : FuncId} {fn : Func} (hf : P.funcs[f]? = some fn) (h1 : (fn.name == "runtime.NumGoroutine") = false) (h2 : fn.body.isNone = false) : Fv P f := by
  intro args w
  have h1' : ¬ fn.name = "runtime.NumGoroutine" := by simpa using h1
  have h2' : ¬ fn.body = none := by
    intro h
    rw [h] at h2
    simp at h2
  simp [callFunc, hf, h1', h2']
class Enc (α:Type) where
 enc:α→D
 dec:D→α
 dec_enc:∀ a,dec (enc a)=a
open Enc (enc dec)
def V9 (α:Type) [Enc α] (x:D):Prop:=x=enc (dec x:α)
theorem Xq {α:Type} [Enc α] (a:α):V9 α (enc a):=by unfold V9;rw [Enc.dec_enc]
instance encInt:Enc Int:=⟨.int .i64,D.i,fun _=>rfl⟩
instance encBool:Enc Bool:=⟨.bool,D.b,fun _=>rfl⟩
instance encStr:Enc (List UInt8):=⟨.str,D.s,fun _=>rfl⟩
class Sz (α:Type) where
 sz:Nat
instance szInt:Sz Int:=⟨1⟩
instance szBool:Sz Bool:=⟨1⟩
instance szStr:Sz (List UInt8):=⟨1⟩
structure Sl (α:Type) where
 l:List α
instance encSl {α:Type} [Enc α] [Sz α]:Enc (Sl α):=⟨fun a=>.list (Sz.sz α) (a.l.map enc),fun x=>⟨x.l.map dec⟩,fun a=>by
 show Sl.mk ((a.l.map enc).map dec)=a;rw [List.map_map];have:(dec∘enc:α→α)=id:=funext fun x=>Enc.dec_enc x;rw [this,List.map_id]⟩
instance szSl {α:Type}:Sz (Sl α):=⟨1⟩
section
variable {k k':IntKind} {n:Int} {s s':Nat} {l:List D} {b:Bool} {x:D} {bs:List UInt8} {f:Nat}
theorem Zti:D.i (.int k n)=n:=rfl
theorem Zbk:D.b (.bool b)=b:=rfl
theorem Zst:D.s (.str bs)=bs:=rfl
theorem Zaz:D.l (.list s l)=l:=rfl
theorem bA:D.isInt k (.int k' n)=(k'=k):=rfl
theorem Eu:D.isBool (.bool b)=True:=rfl
theorem bK:D.isStr (.str bs)=True:=rfl
theorem Et:D.isList s (.list s' l)=(s'=s):=rfl
theorem T8:D.isAnyInt (.int k n)=True:=rfl
theorem iR:D.fits s (.int k n)=(s=1):=rfl
theorem bI:D.fits s (.bool b)=(s=1):=rfl
theorem iO:D.fits s (.str bs)=(s=1):=rfl
theorem bG:D.fits s (.list s' l)=(s=1):=rfl
theorem iT:D.fits s (.agg l)=(l.length=s):=rfl
theorem iP:D.fits s (.ptr s' x)=(s=1):=rfl
theorem iS:D.fits s (.clo s' l)=(s=1):=rfl
theorem bE:D.fits s .nilp=(s=1):=rfl
theorem bF:D.fits s .nilf=(s=1):=rfl
theorem Zoc {ks vs:List D}:D.fits s (.map ks vs)=(s=1):=rfl
theorem yB:D.fits s .nilm=(s=1):=rfl
theorem Zoy {ks vs:List D}:D.cell (.map ks vs) f=.map ks vs:=rfl
theorem jT:D.cell (.int k n) f=.int k n:=rfl
theorem cT:D.cell (.bool b) f=.bool b:=rfl
theorem jP:D.cell (.str bs) f=.str bs:=rfl
theorem cP:D.cell (.list s l) f=.list s l:=rfl
theorem jU:D.cell (.clo s l) f=.clo s l:=rfl
theorem jS:D.cell (.ptr s x) f=.ptr s x:=rfl
theorem kQ:D.cell (.agg l) f=l.getD f .nilp:=rfl
theorem Qcs {n:Int}:D.i (enc n)=n:=rfl
theorem Qcu {n:Bool}:D.b (enc n)=n:=rfl
theorem Qch {n:List UInt8}:D.s (enc n)=n:=rfl
theorem yZ {n:Int}:D.isInt k (enc n)=(.i64=k):=rfl
theorem sB {n:Bool}:D.isBool (enc n)=True:=rfl
theorem xU {n:List UInt8}:D.isStr (enc n)=True:=rfl
theorem yD {n:Int}:D.fits s (enc n)=(s=1):=rfl
theorem zK {n:Int}:D.cell (enc n) f=enc n:=rfl
theorem yE {n:Bool}:D.fits s (enc n)=(s=1):=rfl
theorem zB {n:Bool}:D.cell (enc n) f=enc n:=rfl
theorem yC {n:List UInt8}:D.fits s (enc n)=(s=1):=rfl
theorem zW {n:List UInt8}:D.cell (enc n) f=enc n:=rfl
theorem iV {n:Int}:D.isAnyInt (enc n)=True:=rfl
section
variable {α:Type} [Enc α] [Sz α] {a:Sl α}
theorem Zta:D.l (enc a)=a.l.map enc:=rfl
theorem Aw:D.isList s (enc a)=(Sz.sz α=s):=rfl
theorem bH:D.fits s (enc a)=(s=1):=rfl
theorem cR:D.cell (enc a) f=enc a:=rfl
end
theorem pG:(dec (.int k n):Int)=n:=rfl
theorem jB:(dec (.bool b):Bool)=b:=rfl
theorem pF:(dec (.str bs):List UInt8)=bs:=rfl
theorem jA {α:Type} [Enc α] (a:α):(dec (enc a):α)=a:=Enc.dec_enc a
theorem pD:V9 Int (.int .i64 n)=True:=eq_true rfl
theorem iX:V9 Bool (.bool b)=True:=eq_true rfl
theorem pC:V9 (List UInt8) (.str bs)=True:=eq_true rfl
theorem iZ {α:Type} [Enc α] (a:α):V9 α (enc a)=True:=eq_true (Xq a)
section
variable {α:Type} [Enc α] [Sz α]
theorem J1:(dec (.list s l):Sl α)=⟨l.map dec⟩:=rfl
theorem Xb:V9 (Sl α) (.list s l)=(s=Sz.sz α∧∀ y∈l,V9 α y):=by
 apply propext;unfold V9;constructor
 ·intro h;have h':D.list s l=D.list (Sz.sz α) ((l.map (dec:D→α)).map enc):=h;injection h' with h1 h2
  refine ⟨h1,fun y hy=>?_⟩;rw [List.map_map] at h2;have h3:l.map id=l.map ((enc:α→D)∘dec):=by rw [List.map_id];exact h2
  exact List.map_inj_left.1 h3 y hy
 ·rintro ⟨rfl,h⟩;show D.list (Sz.sz α) l=D.list (Sz.sz α) ((l.map (dec:D→α)).map enc);rw [List.map_map]
  congr 1
  conv=>lhs;rw [←List.map_id l]
  exact List.map_congr_left fun y hy=>h y hy
end
end
theorem Ztd {α:Type} [Enc α] {l:List α}:(∀ y∈l.map enc,V9 α y)=True:=eq_true (by
 intro y hy;obtain ⟨a,_,rfl⟩:=List.mem_map.1 hy;exact Xq a)
theorem Jq {α:Type} [Enc α] {l:List α}:(l.map enc).map (dec:D→α)=l:=by
 rw [List.map_map];have:(dec∘enc:α→α)=id:=funext fun x=>Enc.dec_enc x;rw [this,List.map_id]
theorem Jf {a b:Int}:(X4 a b=true)=(a<b):=by simp [X4]
theorem Qv {a b:Int}:(X4 a b=false)=(b≤a):=by simp [X4]
theorem Qx {a b:Int}:(Xf a b=true)=(a≤b):=by simp [Xf]
theorem Pg {a b:Int}:(Xf a b=false)=(b<a):=by simp [Xf]
theorem Qgt:Sz.sz Int=1:=rfl
theorem Qgu:Sz.sz Bool=1:=rfl
theorem Qgr:Sz.sz (List UInt8)=1:=rfl
theorem Qgs {α:Type}:Sz.sz (Sl α)=1:=rfl
theorem Qct {b b':Bool}:(D.bool b=enc b')=(b=b'):=propext ⟨fun h=>by have h':D.bool b=D.bool b':=h;injection h',fun h=>by rw [h];rfl⟩
theorem Qfn {b b':Int}:(D.int .i64 b=enc b')=(b=b'):=propext ⟨fun h=>by have h':D.int .i64 b=D.int .i64 b':=h;injection h',fun h=>by rw [h];rfl⟩
theorem Qea {b b':List UInt8}:(D.str b=enc b')=(b=b'):=propext ⟨fun h=>by have h':D.str b=D.str b':=h;injection h',fun h=>by rw [h];rfl⟩
theorem Qcp {α:Type} [Enc α] [Sz α] {s:Nat} {l:List D} {a:Sl α}:(D.list s l=enc a)=(s=Sz.sz α∧l=a.l.map enc):=propext ⟨fun h=>by have h':D.list s l=D.list (Sz.sz α) (a.l.map enc):=h;injection h' with h1 h2;exact ⟨h1,h2⟩,fun h=>by rw [h.1,h.2];rfl⟩
theorem Qfo {α:Type} [Enc α] {a b:α}:(enc a=enc b)=(a=b):=propext ⟨fun h=>by rw [←Enc.dec_enc a,h,Enc.dec_enc],fun h=>by rw [h]⟩
theorem Qg2 {α:Type} {a b:List α}:(Sl.mk a=Sl.mk b)=(a=b):=propext ⟨fun h=>by injection h,fun h=>by rw [h]⟩
@[simp] theorem encI_def {n:Int}:(enc n:D)=.int .i64 n:=rfl
@[simp] theorem encB_def {n:Bool}:(enc n:D)=.bool n:=rfl
@[simp] theorem encS_def {n:List UInt8}:(enc n:D)=.str n:=rfl
theorem N6 {α:Type} {l:List α} {p:α→Bool} (d:α) (h:∀ j,j<l.length→p (l.getD j d)=true):l.all p=true:=by
 rw [List.all_eq_true];intro x hx;obtain ⟨j,hj,rfl⟩:=List.getElem_of_mem hx;have:=h j hj;simpa [hj] using this
theorem Cw {α:Type} {l:List α} {p:α→Bool} (d:α) (j:Nat) (hj:j<l.length) (h:p (l.getD j d)=false):l.all p=false:=by
 cases hc:l.all p with
 | false=>rfl
 | true =>
  rw [List.all_eq_true] at hc;have:=hc (l.getD j d) (by simp [hj])
  rw [h] at this;cases this
theorem Ix {α:Type} {l:List α} {p:α→Bool} (d:α) (j:Nat) (hj:j<l.length) (h:p (l.getD j d)=true):l.any p=true:=by
 rw [List.any_eq_true];exact ⟨l.getD j d,by simp [hj],h⟩
theorem Su {α:Type} {l:List α} {p:α→Bool} (d:α) (h:∀ j,j<l.length→p (l.getD j d)=false):l.any p=false:=by
 cases hc:l.any p with
 | false=>rfl
 | true =>
  rw [List.any_eq_true] at hc;obtain ⟨x,hx,hp⟩:=hc;obtain ⟨j,hj,rfl⟩:=List.getElem_of_mem hx;have:=h j hj;simp [hj,hp] at this
theorem Qdl {α:Type} {f:α→D} {l:List α} {i:Nat} (d:α) (h:i<l.length):el (l.map f) i=f (l.getD i d):=by
 simp [el,h]
theorem Xr {n:Int}:vV .i64 n↔-9223372036854775808≤n∧n≤9223372036854775807:=by
 unfold vV;constructor<;>intro h<;>simpa [IntKind.min,IntKind.max,IntKind.bits,IntKind.signed] using h
def J7 {A B:Type} [Enc A] [Enc B] (p:A→Prop) (f:A→B):Con:=⟨[false],[false],fun c=>match c with
 | [.d x]=>V9 A x∧p (dec x)
 | _=>False,fun c=>match c with
 | [.d x]=>.d (enc (f (dec x)))
 | _=>.d .nilp⟩
theorem Jt:type_of% @J7.eq_def:=@J7.eq_def
def Xc {A B R:Type} [Enc A] [Enc B] [Enc R] (p:A→B→Prop) (f:A→B→R):Con:=⟨[false,false],[false],fun c=>match c with
 | [.d x,.d y]=>V9 A x∧V9 B y∧p (dec x) (dec y)
 | _=>False,fun c=>match c with
 | [.d x,.d y]=>.d (enc (f (dec x) (dec y)))
 | _=>.d .nilp⟩
theorem Xm:type_of% @Xc.eq_def:=@Xc.eq_def
def Vp {A B C R:Type} [Enc A] [Enc B] [Enc C] [Enc R] (p:A→B→C→Prop) (f:A→B→C→R):Con:=⟨[false,false,false],[false],fun c=>match c with
 | [.d x,.d y,.d z]=>V9 A x∧V9 B y∧V9 C z∧p (dec x) (dec y) (dec z)
 | _=>False,fun c=>match c with
 | [.d x,.d y,.d z]=>.d (enc (f (dec x) (dec y) (dec z)))
 | _=>.d .nilp⟩
theorem Js:type_of% @Vp.eq_def:=@Vp.eq_def
def zJ {A B R S:Type} [Enc A] [Enc B] [Enc R] [Enc S] (p:A→B→Prop) (f:A→B→R×S):Con:=⟨[false,false],[false,false],fun c=>match c with
 | [.d x,.d y]=>V9 A x∧V9 B y∧p (dec x) (dec y)
 | _=>False,fun c=>match c with
 | [.d x,.d y]=>.tup [.d (enc (f (dec x) (dec y)).1),.d (enc (f (dec x) (dec y)).2)]
 | _=>.d .nilp⟩
def Y1 {A B C R S:Type} [Enc A] [Enc B] [Enc C] [Enc R] [Enc S] (p:A→B→C→Prop) (f:A→B→C→R×S):Con:=⟨[false,false,false],[false,false],fun c=>match c with
 | [.d x,.d y,.d z]=>V9 A x∧V9 B y∧V9 C z∧p (dec x) (dec y) (dec z)
 | _=>False,fun c=>match c with
 | [.d x,.d y,.d z]=>.tup [.d (enc (f (dec x) (dec y) (dec z)).1),.d (enc (f (dec x) (dec y) (dec z)).2)]
 | _=>.d .nilp⟩
theorem J2:type_of% @Y1.eq_def:=@Y1.eq_def
def Hr {R:Type} [Enc R] (r:R):Con:=⟨[],[false],fun c=>match c with
 | []=>True
 | _=>False,fun _=>.d (enc r)⟩
theorem Ju:type_of% @Hr.eq_def:=@Hr.eq_def
theorem Q2 {A B:Type} [Enc A] [Enc B] {p:A→Prop} {f:A→B} {c:List CV} (h:(J7 p f).pre c):∃ a,c=[.d (enc a)]∧p a:=by
 unfold J7 at h;simp only at h;split at h
 ·next x=>exact ⟨dec x,by rw [←h.1],h.2⟩
 ·exact h.elim
theorem Ql {A B R:Type} [Enc A] [Enc B] [Enc R] {p:A→B→Prop} {f:A→B→R} {c:List CV} (h:(Xc p f).pre c):∃ a b,c=[.d (enc a),.d (enc b)]∧p a b:=by
 unfold Xc at h;simp only at h;split at h
 ·next x y=>exact ⟨dec x,dec y,by rw [←h.1,←h.2.1],h.2.2⟩
 ·exact h.elim
theorem Vb {A B C R:Type} [Enc A] [Enc B] [Enc C] [Enc R] {p:A→B→C→Prop} {f:A→B→C→R} {c:List CV} (h:(Vp p f).pre c):∃ a b d,c=[.d (enc a),.d (enc b),.d (enc d)]∧p a b d:=by
 unfold Vp at h;simp only at h;split at h
 ·next x y z=>exact ⟨dec x,dec y,dec z,by rw [←h.1,←h.2.1,←h.2.2.1],h.2.2.2⟩
 ·exact h.elim
theorem zX {A B R S:Type} [Enc A] [Enc B] [Enc R] [Enc S] {p:A→B→Prop} {f:A→B→R×S} {c:List CV} (h:(zJ p f).pre c):∃ a b,c=[.d (enc a),.d (enc b)]∧p a b:=by
 unfold zJ at h;simp only at h;split at h
 ·next x y=>exact ⟨dec x,dec y,by rw [←h.1,←h.2.1],h.2.2⟩
 ·exact h.elim
theorem N3 {A B C R S:Type} [Enc A] [Enc B] [Enc C] [Enc R] [Enc S] {p:A→B→C→Prop} {f:A→B→C→R×S} {c:List CV} (h:(Y1 p f).pre c):∃ a b d,c=[.d (enc a),.d (enc b),.d (enc d)]∧p a b d:=by
 unfold Y1 at h;simp only at h;split at h
 ·next x y z=>exact ⟨dec x,dec y,dec z,by rw [←h.1,←h.2.1,←h.2.2.1],h.2.2.2⟩
 ·exact h.elim
theorem uJ {R:Type} [Enc R] {r:R} {c:List CV} (h:(Hr r).pre c):c=[]:=by
 unfold Hr at h;simp only at h;split at h
 ·rfl
 ·exact h.elim
def Qbd:List (Nat×Con)→Nat→Option Con
 | [],_=>none
 | (j,x)::r,i=>if i=j then some x else Qbd r i
def Qa (P:Program) (p:Nat×Con):Prop:=Fv P p.1∧Qad P p.1 p.2
def Qbe:List (Nat×BCon)→Nat→Option BCon
 | [],_=>none
 | (j,x)::r,i=>if i=j then some x else Qbe r i
def Ry (P:Program) (p:Nat×BCon):Prop:=Fv P p.1∧Zbt P p.1 p.2
theorem Zzl {P:Program} {τ:Nat→TI} {l:List (Nat×Con)} {n:Nat} (hT:W4 P τ) (hm:P.follows .mixedOrders=true) (h:∀ p∈l,Qa P p) {lb:List (Nat×BCon)} (hb:∀ p∈lb,Ry P p:=by simp) {cu:List Nat} {wr:Bool}:Bi P ⟨τ,Qbd l,n,Qbe lb,cu,wr⟩:=by
 refine ⟨hT,fun f con hf=>?_,hm,fun f bc hf=>?_⟩
 case refine_2 =>
  have:∀ (l:List (Nat×BCon)),Qbe l f=some bc→(f,bc)∈l:=by
   intro l
   induction l with
   | nil=>intro h;simp [Qbe] at h
   | cons p r ih =>
    intro h;obtain ⟨j,x⟩:=p;simp only [Qbe] at h;by_cases hfj:f=j
    ·rw [if_pos hfj] at h;injection h with h
     subst h;subst hfj;simp
    ·rw [if_neg hfj] at h;exact List.mem_cons_of_mem _ (ih h)
  exact hb _ (this lb hf)
 have:∀ (l:List (Nat×Con)),Qbd l f=some con→(f,con)∈l:=by
  intro l
  induction l with
  | nil=>intro h;simp [Qbd] at h
  | cons p r ih =>
   intro h;obtain ⟨j,x⟩:=p;simp only [Qbd] at h;by_cases hfj:f=j
   ·rw [if_pos hfj] at h;injection h with h
    subst h;subst hfj;simp
   ·rw [if_neg hfj] at h;exact List.mem_cons_of_mem _ (ih h)
 exact h _ (this l hf)
def Hw:List AV→List Nat→List AV
 | l,[]=>l
 | l,i::r=>Hw (l.set i .dead) r
def Um:List AV→List (Nat×AV)→List AV
 | l,[]=>l
 | l,(i,x)::r=>Um (l.set i x) r
def Pq:Z3→List (Nat×Obj)→Z3
 | o,[]=>o
 | o,(i,x)::r=>Pq (upd o i x) r
def Sh (st:AS) (kills:List Nat) (vals:List (Nat×AV)) (objs:List (Nat×Obj)):AS:=⟨Um (Hw st.tmps kills) vals,Pq st.objs objs⟩
structure Shut (p:Prop):Prop where
 out:p
theorem Zsq {p:Prop}:Shut p=p:=propext ⟨fun h=>h.out,fun h=>⟨h⟩⟩
theorem Zm {C:Ctx} {c:Code} {Q:AExit→AS→Prop} {st:AS} (kills:List Nat) {α:Type} (vals:α→List (Nat×AV)) (objs:α→List (Nat×Obj)) (ok:α→Prop) (μ:α→Nat) (a0:α) (h0:ok a0)
  (hw:Wk st (Sh st kills (vals a0) (objs a0))) (h:∀ a,ok a→Shut (Li C c (kV (fun s'=>∃ a',Wk s' (Sh st kills (vals a') (objs a'))∧ok a'∧μ a'<μ a) Q) (Sh st kills (vals a) (objs a)))):Zt3 C c Q st :=
 ⟨α,fun a=>Sh st kills (vals a) (objs a),ok,μ,Wk,fun _ _ h=>.inl h,⟨a0,⟨[],hw⟩,h0⟩,fun a ha=>(h a ha).out⟩
theorem aR {C:Ctx} {c:Code} {Q:AExit→AS→Prop} {st:AS} (k i j:Nat) (kills:List Nat) {α:Type} (vals:α→List (Nat×AV)) (objs:α→List (Nat×Obj)) (ok:α→Prop) (μ:α→Nat) (a0:α) (h0:ok a0)
  (hw:Wk st (Sh st kills (vals a0) (objs a0))) (h:∀ a,ok a→Shut (Li C c (kV (fun s'=>∃ a',Qgg k i j s' (Sh st kills (vals a') (objs a'))∧ok a'∧μ a'<μ a) Q) (Sh st kills (vals a) (objs a)))):Zt3 C c Q st :=
 ⟨α,fun a=>Sh st kills (vals a) (objs a),ok,μ,Qgg k i j,fun _ _ h=>.inr (.inl ⟨k,i,j,h⟩),⟨a0,⟨[],hw⟩,h0⟩,fun a ha=>(h a ha).out⟩
theorem Kh (t:List AV) (o:Z3) (kills:List Nat) (vals:List (Nat×AV)) (objs:List (Nat×Obj)):Sh ⟨t,o⟩ kills vals objs=⟨Um (Hw t kills) vals,Pq o objs⟩:=rfl
theorem Zo (a b:Nat):(a<b∧X4 (a:Int) (b:Int)=true)∨(b≤a∧X4 (a:Int) (b:Int)=false):=by
 rcases Nat.lt_or_ge a b with h|h
 ·exact .inl ⟨h,by rw [Jf];omega⟩
 ·exact .inr ⟨h,by rw [Qv];omega⟩
theorem V5 (a b:Int):(a<b∧X4 a b=true)∨(b≤a∧X4 a b=false):=by
 rcases Int.lt_or_le a b with h|h
 ·exact .inl ⟨h,by rw [Jf];exact h⟩
 ·exact .inr ⟨h,by rw [Qv];exact h⟩
theorem C3 (a b:Int):(a≤b∧Xf a b=true)∨(b<a∧Xf a b=false):=by
 rcases Int.lt_or_le b a with h|h
 ·exact .inr ⟨h,by rw [Pg];exact h⟩
 ·exact .inl ⟨h,by rw [Qx];exact h⟩
section
theorem map_snoc {α:Type} [Enc α] {l:List α} {x:α}:l.map (enc:α→D)++[enc x]=(l++[x]).map enc:=by simp
theorem xA {l:List Int} {x:Int}:l.map (enc:Int→D)++[.int .i64 x]=(l++[x]).map enc:=by simp
theorem xB {l:List Bool} {x:Bool}:l.map (enc:Bool→D)++[.bool x]=(l++[x]).map enc:=by simp
theorem xK {l:List (List UInt8)} {x:List UInt8}:l.map (enc:List UInt8→D)++[.str x]=(l++[x]).map enc:=by simp
theorem Zs4 {α:Type} [Enc α] {l r:List α}:l.map (enc:α→D)++r.map enc=(l++r).map enc:=by simp
end
def Tz (W:World):Fix:=⟨W,fun b=>match W.heap[b]? with
 | some (.cells cs _ _)=>cs.size
 | _=>0⟩
theorem yA (W:World) (b:Nat) (h:W.heap.size≤b):(Tz W).m b=0:=by
 unfold Tz;simp only;rw [Array.getElem?_eq_none h]
theorem Zrj {W:World} {b off:Nat} {u:Value} (h:W.cell? ⟨b,off,none⟩=some u):off+1≤(Tz W).m b:=by
 unfold Tz;unfold World.cell? at h;simp only at h ⊢;split at h
 ·next c _ _ he =>
  simp only [he];simp only [Option.isSome_none,Zt,if_false] at h;have:=(Array.getElem?_eq_some_iff.1 h).1;omega
 ·cases h
def Value.noAgg:Value→Bool
 | .agg _=>false
 | _=>true
theorem oQ {v:Value} (h:Value.noAgg v=true):v.cells=#[v]:=by
 cases v<;>first|rfl|simp [Value.noAgg] at h
def Zw3 (P:Program) (t s:Nat) (ag:Bool) (p:D→Prop):Prop :=
 ∀ (H:Type) (enc:TypeId×Value→H) (W:World) (base fuel:Nat) (cs:List Value) (d:DataW H) (ps:List MemPlace),DataW.trod enc P W base (fun _=>true) true fuel t cs=some (d,ps) →
  ∃ x v,p x∧(ag=true→v=.agg cs.toArray)∧(ag=false→cs=[v]∧Value.noAgg v=true)∧cs.length=s∧(∀ u∈cs,u.oneCell'=true)∧R (Tz W) x v
theorem Zw3.mono {P:Program} {t s:Nat} {ag:Bool} {p q:D→Prop} (h:Zw3 P t s ag p) (hpq:∀ x,p x→q x):Zw3 P t s ag q:=by
 intro H enc W base fuel cs d ps ht;obtain ⟨x,v,h1,h2⟩:=h _ enc W base fuel cs d ps ht;exact ⟨x,v,hpq x h1,h2⟩
theorem Zxr {P:Program} {t fuel:Nat} {k:IntKind} {H:Type} {enc:TypeId×Value→H} {W:World} {base:Nat} {cs:List Value} {x:DataW H×List MemPlace} (ht:P.underlying t=some (.int k))
  (h:DataW.trod enc P W base (fun _=>true) true fuel t cs=some x):∃ n,cs=[.int k n]∧(Lit.int k n).wf=true:=by
 cases fuel with
 | zero=>simp [DataW.trod] at h
 | succ fuel =>
  unfold DataW.trod at h;simp only [ht] at h;split at h<;>first|(exfalso;simp_all;done)|skip
  all_goals rename_i e
  all_goals injection e with e
  all_goals injection e with e
  all_goals subst e
  all_goals split at h
  all_goals first|(next hk=>exact ⟨_,by rw [hk.1],hk.2⟩)|cases h
theorem Zuh {P:Program} {t fuel:Nat} {H:Type} {enc:TypeId×Value→H} {W:World} {base:Nat} {cs:List Value} {x:DataW H×List MemPlace} (ht:P.underlying t=some .bool)
  (h:DataW.trod enc P W base (fun _=>true) true fuel t cs=some x):∃ n,cs=[.bool n]:=by
 cases fuel with
 | zero=>simp [DataW.trod] at h
 | succ fuel =>
  unfold DataW.trod at h;simp only [ht] at h;split at h<;>first|(exfalso;simp_all;done)|skip
  all_goals exact ⟨_,rfl⟩
theorem Zxq {P:Program} {t fuel:Nat} {H:Type} {enc:TypeId×Value→H} {W:World} {base:Nat} {cs:List Value} {x:DataW H×List MemPlace} (ht:P.underlying t=some .string)
  (h:DataW.trod enc P W base (fun _=>true) true fuel t cs=some x):∃ s:ByteArray,cs=[.string s]∧s.size≤maxLen:=by
 cases fuel with
 | zero=>simp [DataW.trod] at h
 | succ fuel =>
  unfold DataW.trod at h;simp only [ht] at h;split at h<;>first|(exfalso;simp_all;done)|skip
  all_goals split at h
  all_goals first|(next hk=>exact ⟨_,rfl,hk⟩)|cases h
theorem Qc6 {P:Program} {t:Nat} {k:IntKind} (ht:P.underlying t=some (.int k)):Zw3 P t 1 false (fun x=>∃ n,x=.int k n∧(Lit.int k n).wf=true):=by
 intro H enc W base fuel cs d ps h;obtain ⟨n,rfl,hw⟩:=Zxr ht h;exact ⟨.int k n,.int k n,⟨n,rfl,hw⟩,by simp,fun _=>⟨rfl,rfl⟩,rfl,by simp [Value.oneCell'],by simp [R]⟩
theorem Qaw {P:Program} {t:Nat} (ht:P.underlying t=some .bool):Zw3 P t 1 false (fun x=>∃ n,x=.bool n):=by
 intro H enc W base fuel cs d ps h;obtain ⟨n,rfl⟩:=Zuh ht h;exact ⟨.bool n,.bool n,⟨n,rfl⟩,by simp,fun _=>⟨rfl,rfl⟩,rfl,by simp [Value.oneCell'],by simp [R]⟩
theorem Qc5 {P:Program} {t:Nat} (ht:P.underlying t=some .string):Zw3 P t 1 false (fun x=>∃ s,x=.str s∧s.length≤maxLen):=by
 intro H enc W base fuel cs d ps h;obtain ⟨s,rfl,hw⟩:=Zxq ht h;have e:s.data.toList.length=s.size:=by rw [Array.length_toList];rfl
 exact ⟨.str s.data.toList,.string s,⟨_,rfl,by omega⟩,by simp,fun _=>⟨rfl,rfl⟩,rfl,by simp [Value.oneCell'],by simp [R]⟩
theorem Zyb {P:Program} {t e s:Nat} {ag:Bool} {p:D→Prop} (ht:P.underlying t=some (.slice e)) (hs:P.cellsOf e=s) (hpos:0<s) (he:Zw3 P e s ag p) :
  Zw3 P t 1 false (fun x=>∃ l,x=.list s l∧l.length≤maxLen∧∀ y∈l,p y):=by
 intro H enc W base fuel cs d ps h;rcases Go.Deep.open_slice ht h with ⟨rfl,hx⟩|⟨a,len,cap,m,n,D',Pl,rfl,hb,hl,hm,hmm,hx,hel⟩
 ·refine ⟨.list s [],.slice none 0 0,⟨[],rfl,by simp [maxLen],by simp⟩,by simp,fun _=>⟨rfl,rfl⟩,rfl,by simp [Value.oneCell'],?_⟩
  simp only [R];exact ⟨none,0,rfl,by simp,by simp [maxLen],by simp⟩
 ·rw [hs] at hel;have hm':len≤m:=by rw [hmm];simp only [if_true];exact hl
  have key:∀ k,k≤len→∃ (xs:List D) (vs:List Value),xs.length=k∧(∀ y∈xs,p y)∧RE (Tz W) s xs vs∧∀ j,j<k*s→W.cell? ⟨a.block,a.off+j,none⟩=vs[j]?:=by
   intro k
   induction k with
   | zero=>intro _;exact ⟨[],[],rfl,by simp,by simp [RE],by simp⟩
   | succ k ih =>
    intro hk;obtain ⟨xs,vs,h1,h2,h3,h4⟩:=ih (by omega)
    obtain ⟨cs',g1,g2⟩:=hel k (by omega)
    obtain ⟨x,v,q1,q2,q3,q4,q5,q6⟩:=he _ enc W base n cs' _ _ g2;obtain ⟨_,g4,g5⟩:=World.cells?_some g1;have hvc:v.cells.toList=cs':=by
     cases ag with
     | true=>rw [q2 rfl];rfl
     | false =>
      obtain ⟨q3a,q3b⟩:=q3 rfl;rw [oQ q3b,q3a]
    refine ⟨xs++[x],vs++cs',by simp [h1],?_,?_,?_⟩
    ·intro y hy;rcases List.mem_append.1 hy with hy|hy
     ·exact h2 y hy
     ·rw [Zp] at hy;subst hy;exact q1
    ·rw [←hvc];refine RE.append h3 (RE.one q6 ?_ ?_)
     ·rw [←Array.length_toList,hvc];exact q4
     ·rw [hvc];exact q5
    ·intro j hj;have hvl:vs.length=k*s:=by rw [RE.length h3,h1]
     rcases Nat.lt_or_ge j (k*s) with hlt|hge
     ·rw [h4 j hlt,List.getElem?_append_left (by omega)]
     ·rw [List.getElem?_append_right (by omega),hvl]
      have hjs:j-k*s<s:=by
       rw [Nat.add_mul] at hj;omega
      rw [←g5 (j-k*s) hjs]
      congr 1
      unfold Addr.add;by_cases hk0:k*s=0
      ·rw [if_pos hk0];by_cases hj0:j-k*s=0
       ·rw [if_pos hj0];have hsp:a.spot=none:=by
         have h0:=g5 0 hpos;have hne:cs'[0]?=some cs'[0]:=by simp
         rw [hne] at h0;unfold Addr.add at h0;rw [if_pos rfl] at h0;simp only [hk0,if_true] at h0;unfold World.cell? at h0;split at h0
         ·cases hh:a.spot with
          | none=>rfl
          | some z=>simp [hh] at h0
         ·cases h0
        have:j=0:=by omega
        subst this;rw [←hsp];rfl
       ·rw [if_neg hj0];simp only [Addr.mk.injEq,true_and,and_true];omega
      ·rw [if_neg hk0];by_cases hj0:j-k*s=0
       ·rw [if_pos hj0];simp only [Addr.mk.injEq,true_and,and_true];omega
       ·rw [if_neg hj0];simp only [Addr.mk.injEq,true_and,and_true];omega
  obtain ⟨xs,vs,h1,h2,h3,h4⟩:=key len (Zq _);refine ⟨.list s xs,.slice (some a) len cap,⟨xs,rfl,by omega,h2⟩,by simp,fun _=>⟨rfl,rfl⟩,rfl,by simp [Value.oneCell'],?_⟩
  simp only [R];refine ⟨some a,cap,by rw [h1],by omega,hm,fun hne=>?_⟩
  have hlen:0<len:=by
   rw [←h1];exact List.length_pos_iff.2 hne
  have hvl:vs.length=len*s:=by rw [RE.length h3,h1]
  have hsp:a.spot=none:=by
   obtain ⟨cs',g1,_⟩:=hel 0 (by omega)
   obtain ⟨_,g4,g5⟩:=World.cells?_some g1;have h0:=g5 0 hpos;have hne:cs'[0]?=some cs'[0]:=by simp
   rw [hne] at h0;unfold Addr.add at h0;simp only [Nat.zero_mul,if_true] at h0;unfold World.cell? at h0;split at h0
   ·cases hh:a.spot with
    | none=>rfl
    | some z=>simp [hh] at h0
   ·cases h0
  refine ⟨a.block,a.off,vs,by cases a;simp at hsp;subst hsp;rfl,h3,?_,fun j u hj=>?_⟩
  ·have hpos2:0<len*s:=Nat.mul_pos hlen hpos;have hlast:=h4 (len*s-1) (by omega)
   have hl2:len*s-1<vs.length:=by omega
   rw [Zh hl2] at hlast;have:=Zrj hlast;omega
  ·have hjl:=(List.getElem?_eq_some_iff.1 hj).1;have:=h4 j (by omega)
   rw [hj] at this;exact this
def Zsg:List (D→Prop)→List D→Prop
 | [],[]=>True
 | p::ps,x::xs=>p x∧Zsg ps xs
 | _,_=>False
def Qdw (P:Program):Nat→List Field→List (D→Prop)→Prop
 | _,[],[]=>True
 | k,f::fs,p::ps=>f.offset=k∧P.cellsOf f.type=1∧Zw3 P f.type 1 false p∧Qdw P (k+1) fs ps
 | _,_,_=>False
theorem xQ {P:Program} {H:Type} {enc:TypeId×Value→H} {W:World} {base fuel:Nat} {cs:List Value}:∀ {fs:List Field} {k:Nat} {ps:List (D→Prop)} {xs:List (DataW H×List MemPlace)},Qdw P k fs ps→k+fs.length≤cs.length →
  (fs.mapM fun f=>DataW.trod enc P W base (fun _=>true) true fuel f.type ((cs.drop f.offset).take (P.cellsOf f.type)))=some xs →
  ∃ ds,Zsg ps ds∧Rs (Tz W) ds ((cs.drop k).take fs.length)∧∀ u∈(cs.drop k).take fs.length,u.oneCell'=true
 | [],k,[],xs,_,_,_=>⟨[],by simp [Zsg],by simp [Rs],by simp⟩
 | [],_,_::_,_,h,_,_=>h.elim
 | _::_,_,[],_,h,_,_=>h.elim
 | f::fs,k,p::ps,xs,h,hl,hm=>by
  obtain ⟨h1,h2,h3,h4⟩:=h;simp only [List.mapM_cons,Option.bind_eq_bind,Option.bind_eq_some_iff] at hm;obtain ⟨y,hy,ys,hys,_⟩:=hm;simp only [Zi] at hl;obtain ⟨ds,g1,g2,g3⟩:=xQ h4 (by omega) hys
  rw [h1,h2] at hy;obtain ⟨d,q⟩:=y;obtain ⟨x,v,q1,_,q3,q4,q5,q6⟩:=h3 _ enc W base fuel _ _ _ hy;obtain ⟨q3a,q3b⟩:=q3 rfl;have e:(cs.drop k).take (fs.length+1)=v::(cs.drop (k+1)).take fs.length:=by
   have hk:k<cs.length:=by omega
   rw [List.drop_eq_getElem_cons hk] at q3a ⊢;simp only [List.take_succ_cons,List.take_zero,List.cons.injEq] at q3a ⊢;exact ⟨q3a.1,trivial⟩
  rw [Zi,e];refine ⟨x::ds,⟨q1,g1⟩,?_,?_⟩
  ·simp only [Rs];exact ⟨v,_,rfl,q6,g2⟩
  ·intro u hu;rcases Zs.1 hu with rfl|hu
   ·exact q5 u (by rw [q3a];simp)
   ·exact g3 u hu
theorem lX {P:Program} {t s:Nat} {fs:Array Field} {ps:List (D→Prop)} (ht:P.underlying t=some (.struct fs)) (hs:P.cellsOf t=s) (hl:fs.toList.length=s) (hf:Qdw P 0 fs.toList ps) :
  Zw3 P t s true (fun x=>∃ ds,x=.agg ds∧Zsg ps ds):=by
 intro H enc W base fuel cs d qs h;cases fuel with
 | zero=>simp [DataW.trod] at h
 | succ fuel =>
  unfold DataW.trod at h;simp only [ht] at h;rw [hs] at h;by_cases hc:cs.length=s
  ·rw [if_pos hc] at h;rw [Option.map_eq_some_iff] at h;obtain ⟨xs,hx,_⟩:=h;obtain ⟨ds,g1,g2,g3⟩:=xQ (cs:=cs) hf (by omega) hx
   rw [List.drop_zero,hl,←hc,List.take_length] at g2 g3;refine ⟨.agg ds,.agg cs.toArray,⟨ds,rfl,g1⟩,fun _=>rfl,by simp,hc,g3,?_⟩
   simp only [R];exact ⟨cs,rfl,g2,g3⟩
  ·rw [if_neg hc] at h;cases h
theorem uN {P:Program} {H:Type} {enc:TypeId×Value→H} {W:World} {base b2 t s:Nat} {p:D→Prop} {v:Value} {d:DataW H} {ps:List MemPlace} (h:Zw3 P t s false p) (hns:∀ fs,P.underlying t≠some (.struct fs)) (hna:∀ n e,P.underlying t≠some (.array n e))
  (hval:Value.okWide P W .any base t v) (hr:DataW.Trod enc P W b2 (fun _=>true) true t v d ps):∃ x,p x∧R (Tz W) x v:=by
 obtain ⟨fuel,hr⟩:=hr;obtain ⟨x,u,h1,_,h3,_,_,h6⟩:=h _ enc W b2 fuel _ _ _ hr;obtain ⟨h3a,h3b⟩:=h3 rfl;have hv:Value.noAgg v=true:=by
  cases v with
  | agg cs =>
   unfold Value.okWide at hval;exfalso;split at hval
   ·next fs he=>exact hns _ he
   ·next n e he=>exact hna _ _ he
   ·unfold Cell.okWide at hval;split at hval<;>try simp_all
    unfold Cell.ok at hval;split at hval<;>simp_all
  | _=>rfl
 rw [oQ hv] at h3a;simp only [List.cons.injEq,and_true] at h3a;subst h3a;exact ⟨x,h1,h6⟩
theorem Zt1 {P:Program} {H:Type} {enc:TypeId×Value→H} {W:World} {base b2 t s:Nat} {p:D→Prop} {v:Value} {d:DataW H} {ps:List MemPlace} (h:Zw3 P t s true p) (hns:(∃ fs,P.underlying t=some (.struct fs))∨∃ n e,P.underlying t=some (.array n e))
  (hval:Value.okWide P W .any base t v) (hr:DataW.Trod enc P W b2 (fun _=>true) true t v d ps):∃ x,p x∧R (Tz W) x v:=by
 obtain ⟨fuel,hr⟩:=hr;obtain ⟨x,u,h1,h2,_,_,_,h6⟩:=h _ enc W b2 fuel _ _ _ hr;have hv:∃ cs,v=.agg cs:=by
  unfold Value.okWide at hval;rcases hns with ⟨fs,he⟩|⟨n,e,he⟩
  ·rw [he] at hval;obtain ⟨cs,hc,_⟩:=hval;exact ⟨cs,hc⟩
  ·rw [he] at hval;obtain ⟨cs,hc,_⟩:=hval;exact ⟨cs,hc⟩
 obtain ⟨cs,rfl⟩:=hv;have:u=.agg cs:=by rw [h2 rfl];simp [Value.cells]
 subst this;exact ⟨x,h1,h6⟩
theorem fH {F:Fix}:∀ {l:List D} {vs:List Value},Rs F l vs→Ui F (l.map .d) vs
 | [],_,h=>by simp only [Rs] at h;simpa [Ui] using h
 | x::l,vs,h=>by
  simp only [Rs] at h;obtain ⟨v,r,rfl,h2,h3⟩:=h;simp only [List.map_cons,Ui,zR];exact ⟨v,r,rfl,h2,fH h3⟩
theorem F3:∀ (l:List D) (vs:List Value),Q1 (l.map .d) vs=[]
 | [],[]=>rfl
 | [],_::_=>rfl
 | _::l,[]=>rfl
 | x::l,v::vs=>by
  simp only [List.map_cons,Q1];exact F3 l vs
theorem wX {P:Program} {f:FuncId} {con:Con} (hg:Qa P (f,con)) (W:World) (xs:List D) (args:Array Value) (hR:Rs (Tz W) xs args.toList) (hpre:con.pre (xs.map .d)) (hfn:con.fn (xs.map .d)=.d (.bool true)) :
  Calls P f args W fun e W'=>e=.returned (.bool true)∧Below W.heap.size W W':=by
 have h:=hg.2 (Tz W).m W (xs.map .d) args.toList hpre (fH hR) (by rw [F3];exact List.nodup_nil) (yA W)
 rw [show args.toList.toArray=args by simp] at h
 refine h.mono ?_;rintro e W' ⟨v,m',rfl,hfr,_,_,hres⟩
 change Zpq _ _ _ (con.fn (xs.map .d)) v at hres
 rw [hfn] at hres;simp only [Zpq,Ui,zR,R] at hres;obtain ⟨⟨v1,r,hv1,rfl,rfl⟩,_⟩:=hres;injection hv1 with hv1 _
 subst hv1;refine ⟨rfl,hfr.os,hfr.tape,hfr.output,hfr.size,fun k hk=>hfr.block k hk ?_⟩;rw [F3];simp
open Go.ChangeShapes Go.WideShapes Go.ChangeAt Go.RowKit
theorem dV {H:Type} {enc:TypeId×Value→H} {P:Program} (hl:laidOutB P=true) {W W':World} (hb:Below W.heap.size W W'):∀ {ts:List TypeId} {vs:List Value} {ds:List (DataW H)} {ps:List MemPlace},(∀ t∈ts,P.readableRec t=true∧t<P.types.size) →
  DataW.TrodAll enc P W 0 (fun _=>true) true ts vs ds ps→(∀ x∈ps,x.block<W.heap.size)→∀ sp:Nat→Bool,(∀ x∈ps,sp x.block=true)→DataW.TrodAll enc P W' 0 sp true ts vs ds ps
 | [],vs,ds,ps,_,h,_,_,_=>by
  obtain ⟨rfl,rfl,rfl⟩:=trodAll_nil h;exact trodAll_mk0
 | t::ts,vs,ds,ps,hr,h,hlt,sp,hsp=>by
  obtain ⟨v,vs',d,ds',p,q,rfl,rfl,rfl,h1,h2⟩:=trodAll_cons h;refine trodAll_cons_mk ?_ (dV hl hb (fun t ht=>hr t (List.mem_cons_of_mem _ ht)) h2 (fun x hx=>hlt x (List.mem_append_right _ hx)) sp (fun x hx=>hsp x (List.mem_append_right _ hx)));obtain ⟨r1,r2⟩:=hr t (by simp)
  exact WideElems.Trod_stays hl r1 r2 h1 (fun x hx=>hb.same (hlt x (List.mem_append_left _ hx))) (fun x hx=>hsp x (List.mem_append_left _ hx))
theorem fN {H:Type} {enc:TypeId×Value→H} {P:Program} {W:World} {base:Nat} {spare:Nat→Bool} {held:Bool}:∀ {ts:List TypeId} {vs:List Value} {ds:List (DataW H)} {ps:List MemPlace},DataW.TrodAll enc P W base spare held ts vs ds ps→ds.length=ts.length
 | [],vs,ds,ps,h=>by
  obtain ⟨rfl,rfl,rfl⟩:=trodAll_nil h;rfl
 | t::ts,vs,ds,ps,h=>by
  obtain ⟨v,vs',d,ds',p,q,rfl,rfl,rfl,h1,h2⟩:=trodAll_cons h;simp [fN h2]
theorem gR {P:Program} {f:FuncId} {fn:Func} {con:Con} {s:ChangeSpec} {tb:TypeId} (hg:Qa P (f,con)) (hv:s.vars=[]) (hl:laidOutB P=true)
  (hr:∀ t∈fn.params.toList,P.readableRec t=true∧t<P.types.size) (hres:fn.resultTypes=#[tb]) (htb:P.underlying tb=some .bool)
  (hspec:∀ (H:Type) (ds:List (DataW H)),ds.length=fn.params.toList.length→s.fn H ds={ results:=[.lit (.bool true)],args:=ds })
  {H:Type} (enc:TypeId×Value→H) (W:World) (args:Array Value) (ds gs:List (DataW H)) (before:List MemPlace)
  (hread:∀ ps,DataW.TrodAll enc P W 0 (fun _=>true) true fn.params.toList args.toList ds ps→∃ xs:List D,Rs (Tz W) xs args.toList∧con.pre (xs.map .d)∧con.fn (xs.map .d)=.d (.bool true))
  (hW:DataW.Whole enc P fn.params.toList s.vars false W args.toList ds gs before) :
  Calls P f args W fun e W'=>∃ v,e=.returned v∧s.post enc P fn false true false false W args v W':=by
 have hW':=hW;obtain ⟨p,q,hA,hV,rfl,hfz,hnd⟩:=hW;rw [hv] at hV;obtain ⟨rfl,rfl⟩:=trodVars_none hV;obtain ⟨xs,hR,hpre,hfn⟩:=hread p hA;have hlen:=(fN hA);refine (wX hg W xs args hR hpre hfn).mono ?_;rintro e W' ⟨rfl,hb⟩;have hlt:∀ x∈p,x.block<W.heap.size:=fun x hx=>hW'.lt x (by simpa using hx)
 have hsp:=hspec H (ds++[]) (by simpa using hlen)
 rw [List.append_nil] at hsp;refine ⟨_,rfl,ds,[],p++[],[],p,[],hW',?_,?_,?_,hb.frame _,fun h=>by cases h⟩
 ·rw [List.append_nil,hsp,hres];exact trodAll_cons_mk (shut_bool htb _) trodAll_mk0
 ·rw [List.append_nil,hsp];exact dV hl hb hr hA hlt _ (fun x hx=>by simpa using hlt x hx)
 ·rw [List.append_nil,hsp,hv];rfl
section
def Zw2 (P:Program) (t s:Nat) (ag:Bool) (α:Type) [Enc α] (ok:α→Prop):Prop:=Zw3 P t s ag fun x=>∃ a:α,x=enc a∧ok a
theorem Zal {P:Program} {t:Nat} (ht:P.underlying t=some (.int .i64)):Zw2 P t 1 false Int (fun a=>vV .i64 a):=(Qc6 ht).mono fun x h=>by
 obtain ⟨n,rfl,hw⟩:=h;refine ⟨n,rfl,?_⟩;show vV .i64 n;rw [Xr];have h:=hw;simp [Lit.wf,IntKind.min,IntKind.max,IntKind.signed,IntKind.bits] at h;omega
theorem Zya {P:Program} {t:Nat} (ht:P.underlying t=some .bool):Zw2 P t 1 false Bool (fun _=>True):=(Qaw ht).mono fun x h=>by
 obtain ⟨n,rfl⟩:=h;exact ⟨n,rfl,trivial⟩
theorem Zsv {P:Program} {t:Nat} (ht:P.underlying t=some .string):Zw2 P t 1 false (List UInt8) (fun a=>a.length≤maxLen):=(Qc5 ht).mono fun x h=>by
 obtain ⟨s,rfl,hs⟩:=h;exact ⟨s,rfl,hs⟩
theorem Znk {α:Type} [Enc α] {ok:α→Prop}:∀ {l:List D},(∀ y∈l,∃ a:α,y=enc a∧ok a)→∃ r:List α,l=r.map enc∧∀ a∈r,ok a
 | [],_=>⟨[],rfl,by simp⟩
 | y::l,h=>by
  obtain ⟨a,rfl,ha⟩:=h y (by simp)
  obtain ⟨r,rfl,hr⟩:=Znk (l:=l) fun z hz=>h z (List.mem_cons_of_mem _ hz);exact ⟨a::r,rfl,by
   intro b hb;rcases Zs.1 hb with rfl|hb
   ·exact ha
   ·exact hr b hb⟩
theorem qR {P:Program} {t e s:Nat} {ag:Bool} {α:Type} [Enc α] [Sz α] {ok:α→Prop} (ht:P.underlying t=some (.slice e)) (hs:P.cellsOf e=s) (hz:Sz.sz α=s) (hpos:0<s) (he:Zw2 P e s ag α ok) :
  Zw2 P t 1 false (Sl α) (fun a=>a.l.length≤maxLen∧∀ y∈a.l,ok y):=(Zyb ht hs hpos he).mono fun x h=>by
 obtain ⟨l,rfl,hl,hy⟩:=h;obtain ⟨r,rfl,hr⟩:=Znk hy;rw [Zl] at hl;refine ⟨⟨r⟩,?_,hl,hr⟩;show D.list s (r.map enc)=D.list (Sz.sz α) (r.map enc);rw [hz]
end
def Ka:Nat→List AV→List AV
 | 0,_=>[]
 | n+1,[]=>.dead::Ka n []
 | n+1,x::l=>x::Ka n l
theorem Pf:∀ (n:Nat) (l:List AV),(Ka n l).length=n
 | 0,_=>rfl
 | n+1,[]=>by simp [Ka,Pf n]
 | n+1,x::l=>by simp [Ka,Pf n]
theorem eL:∀ (n:Nat) (l:List AV) (t:Nat),t<n→(Ka n l).getD t .dead=l.getD t .dead
 | 0,_,t,h=>by omega
 | n+1,[],0,_=>by simp [Ka]
 | n+1,[],t+1,h=>by
  have:=eL n [] t (by omega)
  simpa [Ka] using this
 | n+1,x::l,0,_=>by simp [Ka]
 | n+1,x::l,t+1,h=>by
  have:=eL n l t (by omega)
  simpa [Ka] using this
def Bj:Nat→AV→List AV→List AV
 | 0,x,[]=>[x]
 | n+1,x,[]=>.dead::Bj n x []
 | 0,x,_::l=>x::l
 | n+1,x,y::l=>y::Bj n x l
theorem lW:∀ (n:Nat) (l:List AV) (t:Nat) (x:AV),t<n→(Ka n l).set t x=Ka n (Bj t x l)
 | 0,_,t,_,h=>by omega
 | n+1,[],0,x,_=>by simp [Ka,Bj]
 | n+1,[],t+1,x,h=>by
  have:=lW n [] t x (by omega)
  simpa [Ka,Bj] using this
 | n+1,y::l,0,x,_=>by simp [Ka,Bj]
 | n+1,y::l,t+1,x,h=>by
  have:=lW n l t x (by omega)
  simpa [Ka,Bj] using this
def fl:List (List AV)→List AV→List AV
 | [],r=>r
 | c::cs,r=>Ka 16 c++fl cs r
def lT:List (List AV)→List AV→Nat→Nat→AV
 | [],r,a,b=>r.getD (16*a+b) .dead
 | c::_,_,0,b=>c.getD b .dead
 | _::cs,r,a+1,b=>lT cs r a b
theorem Ztk:∀ (cs:List (List AV)) (r:List AV) (a b:Nat),b<16→(fl cs r).getD (16*a+b) .dead=lT cs r a b
 | [],r,a,b,_=>rfl
 | c::cs,r,0,b,hb=>by
  simp only [fl,lT,Nat.mul_zero,Nat.zero_add];rw [Zd,List.getElem?_append_left (by rw [Pf];exact hb),←Zd]
  exact eL 16 c b hb
 | c::cs,r,a+1,b,hb=>by
  simp only [fl,lT];rw [Zd,List.getElem?_append_right (by rw [Pf];omega),←Zd,Pf,show 16*(a+1)+b-16=16*a+b by omega]
  exact Ztk cs r a b hb
theorem iF (cs:List (List AV)) (r:List AV) (t:Nat):(fl cs r).getD t .dead=lT cs r (t / 16) (t % 16):=by
 rw [←Ztk cs r (t / 16) (t % 16) (Nat.mod_lt _ (by omega)),Nat.div_add_mod]
def Zuq:List (List AV)→List AV→Nat→Nat→AV→List AV
 | [],r,a,b,x=>r.set (16*a+b) x
 | c::cs,r,0,b,x=>fl (Bj b x c::cs) r
 | c::cs,r,a+1,b,x=>Ka 16 c++Zuq cs r a b x
theorem Zsr:∀ (cs:List (List AV)) (r:List AV) (a b:Nat) (x:AV),b<16→(fl cs r).set (16*a+b) x=Zuq cs r a b x
 | [],r,a,b,x,_=>rfl
 | c::cs,r,0,b,x,hb=>by
  simp only [fl,Zuq,Nat.mul_zero,Nat.zero_add];rw [List.set_append_left _ _ (by rw [Pf];exact hb),lW 16 c b x hb]
 | c::cs,r,a+1,b,x,hb=>by
  simp only [fl,Zuq];rw [List.set_append_right _ _ (by rw [Pf];omega),Pf,show 16*(a+1)+b-16=16*a+b by omega,Zsr cs r a b x hb]
def Hu:List (List AV)→List AV→Nat→Nat→AV→List (List AV)×List AV
 | [],r,a,b,x=>([],r.set (16*a+b) x)
 | c::cs,r,0,b,x=>(Bj b x c::cs,r)
 | c::cs,r,a+1,b,x=>(c::(Hu cs r a b x).1,(Hu cs r a b x).2)
theorem Zss:∀ (cs:List (List AV)) (r:List AV) (a b:Nat) (x:AV),Zuq cs r a b x=fl (Hu cs r a b x).1 (Hu cs r a b x).2
 | [],r,a,b,x=>rfl
 | c::cs,r,0,b,x=>rfl
 | c::cs,r,a+1,b,x=>by
  simp only [Zuq,Hu,fl];rw [Zss cs r a b x]
theorem Ll (cs:List (List AV)) (r:List AV) (t:Nat) (x:AV):(fl cs r).set t x=fl (Hu cs r (t / 16) (t % 16) x).1 (Hu cs r (t / 16) (t % 16) x).2:=by
 rw [←Zss,←Zsr cs r (t / 16) (t % 16) x (Nat.mod_lt _ (by omega)),Nat.div_add_mod]
theorem xP (i:Nat):∀ (a b:List AV),Nc i (a++b)=Nc i a++Nc i b
 | [],_=>rfl
 | x::a,b=>by simp [Nc,xP i a b]
theorem lH (i:Nat):∀ (n:Nat) (l:List AV),Nc i (Ka n l)=Ka n (Nc i l)
 | 0,_=>rfl
 | n+1,[]=>by
  have:=lH i n [];simp only [Nc] at this;simp [Ka,Nc,AV.off,this]
 | n+1,x::l=>by simp [Ka,Nc,lH i n l]
def sJ (i:Nat):List (List AV)→List (List AV)
 | []=>[]
 | c::cs=>Nc i c::sJ i cs
theorem sX (i:Nat):∀ (cs:List (List AV)) (r:List AV),Nc i (fl cs r)=fl (sJ i cs) (Nc i r)
 | [],_=>rfl
 | c::cs,r=>by simp only [fl,sJ,xP,lH,sX i cs r]
theorem Zsh {o1 o2:Z3}:∀ {a a' b b':List AV},kB o1 o2 a a'→kB o1 o2 b b'→kB o1 o2 (a++b) (a'++b')
 | [],[],_,_,_,h=>h
 | [],_::_,_,_,h,_=>h.elim
 | _::_,[],_,_,h,_=>h.elim
 | x::a,y::a',b,b',h,h'=>⟨h.1,Zsh h.2 h'⟩
theorem zS {o1 o2:Z3}:∀ {n:Nat} {a a':List AV},kB o1 o2 a a'→kB o1 o2 (Ka n a) (Ka n a')
 | 0,_,_,_=>trivial
 | n+1,[],[],_=>⟨by simp [wA],zS (a:=[]) (a':=[]) trivial⟩
 | n+1,[],_::_,h=>h.elim
 | n+1,_::_,[],h=>h.elim
 | n+1,x::a,y::a',h=>⟨h.1,zS h.2⟩
def zU (o1 o2:Z3):List (List AV)→List (List AV)→Prop
 | [],[]=>True
 | c::cs,d::ds=>kB o1 o2 c d∧zU o1 o2 cs ds
 | _,_=>False
theorem Zxa {o1 o2:Z3}:∀ {cs ds:List (List AV)} {r r':List AV},zU o1 o2 cs ds→kB o1 o2 r r'→kB o1 o2 (fl cs r) (fl ds r')
 | [],[],_,_,_,h=>h
 | [],_::_,_,_,h,_=>h.elim
 | _::_,[],_,_,h,_=>h.elim
 | c::cs,d::ds,r,r',h,h'=>Zsh (zS h.1) (Zxa h.2 h')
theorem Wk.of_fl {cs ds:List (List AV)} {r r':List AV} {o o':Z3} (h:zU o o' cs ds∧kB o o' r r'∧zT o o' o'∧Zlr o' o):Wk ⟨fl cs r,o⟩ ⟨fl ds r',o'⟩ :=
 ⟨Zxa h.1 h.2.1,h.2.2.1,h.2.2.2⟩
theorem nH {o:Z3}:∀ {a b:List AV},keptAll o a→keptAll o b→keptAll o (a++b)
 | [],_,_,h=>h
 | _::_,_,h,h'=>⟨h.1,nH h.2 h'⟩
theorem O9 {o:Z3}:∀ {n:Nat} {a:List AV},keptAll o a→keptAll o (Ka n a)
 | 0,_,_=>trivial
 | n+1,[],_=>⟨by simp only [AV.kept],O9 (a:=[]) trivial⟩
 | n+1,_::_,h=>⟨h.1,O9 h.2⟩
def Za1 (o:Z3):List (List AV)→Prop
 | []=>True
 | c::cs=>keptAll o c∧Za1 o cs
theorem fZ {o:Z3}:∀ {cs:List (List AV)} {r:List AV},Za1 o cs∧keptAll o r→keptAll o (fl cs r)
 | [],_,h=>h.2
 | _::_,_,h=>nH (O9 h.1.1) (fZ ⟨h.1.2,h.2⟩)
def Zwo:Nat→List AV→List (List AV)×List AV
 | 0,l=>([],l)
 | n+1,l=>(l.take 16::(Zwo n (l.drop 16)).1,(Zwo n (l.drop 16)).2)
theorem rQ:∀ (n:Nat) (l:List AV),l.length=n→Ka n l=l
 | 0,[],_=>rfl
 | 0,_::_,h=>by simp at h
 | n+1,[],h=>by simp at h
 | n+1,x::l,h=>by simp only [Ka,rQ n l (by simpa using h)]
theorem Zzo:∀ (n:Nat) (l:List AV),16*n≤l.length→fl (Zwo n l).1 (Zwo n l).2=l
 | 0,l,_=>rfl
 | n+1,l,h=>by
  simp only [Zwo,fl];rw [rQ 16 (l.take 16) (by rw [List.length_take];omega),Zzo n (l.drop 16) (by rw [List.length_drop];omega),List.take_append_drop]
theorem Qb6 {C:Ctx} {c:Code} {Q:AExit→AS→Prop} {t:List AV} {o:Z3} (n:Nat) (hn:16*n≤t.length) (h:Shut (Li C c Q ⟨fl (Zwo n t).1 (Zwo n t).2,o⟩)):Li C c Q ⟨t,o⟩:=by
 have:=h.out;rw [Zzo n t hn] at this;exact this
theorem Zxy {α:Type} {l:List α} {i:Nat} {x d:α} (h:l.getD i d=x) (hx:x≠d):l.set i x=l:=by
 apply List.ext_getElem?;intro j;rw [List.getElem?_set];by_cases hij:i=j
 ·subst hij;rw [if_pos rfl];by_cases hi:i<l.length
  ·rw [if_pos hi];rw [Zd,Zh hi] at h;rw [Zh hi,←h];rfl
  ·rw [Zd,List.getElem?_eq_none (by omega)] at h
   exact absurd h.symm hx
 ·rw [if_neg hij]
theorem qG (C:Ctx) (t:Nat) (x y:Code) (Q:AExit→AS→Prop) (T:List AV) (o:Z3):Li C (.cond (.tmp t) x y) Q ⟨T,o⟩=(match T.getD t .dead with
  | .d (.bool b)=>(b=true→Li C x Q ⟨T.set t (.d (.bool true)),o⟩)∧(b=false→Li C y Q ⟨T.set t (.d (.bool false)),o⟩)
  | _=>False):=by
 rw [Zpc];simp only [AS.ev];generalize hz:T.getD t .dead=z;cases z with
 | d x =>
  cases x with
  | bool b =>
   simp only [D.isBool,D.b,true_and,Qgx];have h:=Zxy hz (by simp)
   cases b with
   | true=>simp only [h];simp
   | false=>simp only [h];simp
  | _=>simp [D.isBool]
 | _=>rfl
theorem qH (C:Ctx) (b:Bool) (x y:Code) (Q:AExit→AS→Prop) (T:List AV) (o:Z3):Li C (.cond (.const (.bool b)) x y) Q ⟨T,o⟩=((b=true→Li C x Q ⟨T,o⟩)∧(b=false→Li C y Q ⟨T,o⟩)):=by
 rw [Zpc];simp only [AS.ev,Mm,A5,D.isBool,D.b,true_and,Qgx]
theorem Qeo (b want:Bool) (P Q:Prop):Qgw b want P Q=(match want with
  | true=>(b=true→P)∧(b=false→Q)
  | false=>(b=false→P)∧(b=true→Q)):=by
 cases b<;>cases want<;>simp [Qgw]
theorem Qhw (C:Ctx) (ops:List Oper) (o:Oper) (K:AS→Prop) (st:AS):Qg1 C ops o K st=(match o.guard with
 | none=>kW C o K st
 | some (j,want)=>match Xk ops st j with
  | .b t b=>(match want with
   | true=>(b=true→kW C o K ⟨st.tmps.set t (.d (.bool true)),st.objs⟩)∧(b=false→K (AS.put ⟨st.tmps.set t (.d (.bool false)),st.objs⟩ o.dst (.d (.tup [])) st.objs))
   | false=>(b=false→kW C o K ⟨st.tmps.set t (.d (.bool false)),st.objs⟩)∧(b=true→K (AS.put ⟨st.tmps.set t (.d (.bool true)),st.objs⟩ o.dst (.d (.tup [])) st.objs)))
  | .und=>K (AS.put st o.dst (.d (.tup [])) st.objs)
  | .no=>False):=by
 unfold Qg1;cases o.guard with
 | none=>rfl
 | some p =>
  obtain ⟨j,want⟩:=p;simp only;cases Xk ops st j with
  | b t b =>
   simp only [Qeo];cases want<;>rfl
  | und=>rfl
  | no=>rfl
theorem qF (C:Ctx) (ops:List Oper) (i:Nat) (acc:List (Nat×List Nat×Bool)) (K:AS→Prop) (st:AS):Ki C ops i [] acc K st=(Qda ops acc=true∧K st):=rfl
theorem mR (C:Ctx) (ops:List Oper) (i:Nat) (o:Oper) (r:List Oper) (acc:List (Nat×List Nat×Bool)) (K:AS→Prop) (st:AS):Ki C ops i (o::r) acc K st=(match o.guard with
  | none=>I0 C o (fun fp ro=>Ki C ops (i+1) r ((i,fp,ro)::acc) K) st
  | some (j,want)=>match Xk ops st j with
   | .b t b=>(match want with
    | true=>(b=true→I0 C o (fun fp ro=>Ki C ops (i+1) r ((i,fp,ro)::acc) K) ⟨st.tmps.set t (.d (.bool true)),st.objs⟩) ∧
      (b=false→Ki C ops (i+1) r acc K (AS.put ⟨st.tmps.set t (.d (.bool false)),st.objs⟩ o.dst (.d (.tup [])) st.objs))
    | false=>(b=false→I0 C o (fun fp ro=>Ki C ops (i+1) r ((i,fp,ro)::acc) K) ⟨st.tmps.set t (.d (.bool false)),st.objs⟩) ∧
      (b=true→Ki C ops (i+1) r acc K (AS.put ⟨st.tmps.set t (.d (.bool true)),st.objs⟩ o.dst (.d (.tup [])) st.objs)))
   | .und=>Ki C ops (i+1) r acc K (AS.put st o.dst (.d (.tup [])) st.objs)
   | .no=>False):=by
 rw [Ki];cases o.guard with
 | none=>rfl
 | some p =>
  obtain ⟨j,want⟩:=p;simp only;cases Xk ops st j with
  | b t b =>
   simp only [Qeo];cases want<;>rfl
  | und=>rfl
  | no=>rfl
section
variable (a:Option Tmp) (b:Op) (c:TypeId) (d:String) (e:Array Edge) (f:Option (Nat×Bool))
theorem Qh0:(Oper.mk a b c d e f).dst=a:=rfl
theorem Qhz:(Oper.mk a b c d e f).op=b:=rfl
theorem Qhy:(Oper.mk a b c d e f).type=c:=rfl
theorem Qhx:(Oper.mk a b c d e f).guard=f:=rfl
end
section
variable (a:TK) (b c:Nat) (d:AV) (e:D) (f:List SK)
theorem Qhr:(TI.mk a b c d e f).kind=a:=rfl
theorem Qhq:(TI.mk a b c d e f).size=b:=rfl
theorem Qhp:(TI.mk a b c d e f).bytes=c:=rfl
theorem Qho:(TI.mk a b c d e f).zero=d:=rfl
theorem Qhn:(TI.mk a b c d e f).zd=e:=rfl
theorem Qhm:(TI.mk a b c d e f).eqk=f:=rfl
end
section
variable (a:Nat→TI) (b:Nat→Option Con) (c:Nat) (d:Nat→Option BCon) (e:List Nat) (f:Bool)
theorem Qia:(Ctx.mk a b c d e f).τ=a:=rfl
theorem Qh9:(Ctx.mk a b c d e f).Γ=b:=rfl
theorem Qh8:(Ctx.mk a b c d e f).dp=c:=rfl
theorem Qh7:(Ctx.mk a b c d e f).Δ=d:=rfl
theorem Qh6:(Ctx.mk a b c d e f).cuts=e:=rfl
theorem Qh5:(Ctx.mk a b c d e f).wr=f:=rfl
end
theorem Qid (a:List AV) (b:Z3):(AS.mk a b).tmps=a:=rfl
theorem Qic (a:List AV) (b:Z3):(AS.mk a b).objs=b:=rfl
theorem Qhv {α β:Type} (a:α) (b:β):(a,b).1=a:=rfl
theorem Qhu {α β:Type} (a:α) (b:β):(a,b).2=b:=rfl
theorem Qh4 (a b:List Bool) (p:List CV→Prop) (f:List CV→CV):(Con.mk a b p f).modes=a:=rfl
theorem Qh3 (a b:List Bool) (p:List CV→Prop) (f:List CV→CV):(Con.mk a b p f).outs=b:=rfl
theorem Qh2 (a b:List Bool) (p:List CV→Prop) (f:List CV→CV) (x:List CV):(Con.mk a b p f).pre x=p x:=rfl
theorem Qh1 (a b:List Bool) (p:List CV→Prop) (f:List CV→CV) (x:List CV):(Con.mk a b p f).fn x=f x:=rfl
theorem Qht {α:Type} (l:List α):l.toArray.toList=l:=rfl
theorem Zx2 {α β:Type} (f:α→β) (x:α) (l:List α):(x::l).map f=f x::l.map f:=rfl
theorem Zsu {α β:Type} (f:α→β):([]:List α).map f=[]:=rfl
theorem Qcj {α:Type} (x:α) (l:List α):(x::l).length=l.length+1:=rfl
theorem Qci {α:Type}:([]:List α).length=0:=rfl
theorem Qcl {α:Type} (x:α) (l:List α):(x::l)[0]?=some x:=rfl
theorem Qck {α:Type} (x:α) (l:List α) (n:Nat):(x::l)[n+1]?=l[n]?:=rfl
theorem Zx3 {α:Type} (a b:α):cond true a b=a:=rfl
theorem Zx4 {α:Type} (a b:α):cond false a b=b:=rfl
theorem Qfh (s:Nat) (k:IntKind) (n:Int):AV.cells false s (.d (.int k n))=[.d (.int k n)]:=rfl
theorem Qfg (s:Nat) (b:Bool):AV.cells false s (.d (.bool b))=[.d (.bool b)]:=rfl
theorem Qff (s:Nat) (b:List UInt8):AV.cells false s (.d (.str b))=[.d (.str b)]:=rfl
theorem Qfe (s:Nat):AV.cells false s (.d .nilf)=[.d .nilf]:=rfl
theorem Qfd (s:Nat):AV.cells false s (.d .nilp)=[.d .nilp]:=rfl
theorem Qfc (s m:Nat) (l:List D):AV.cells false s (.d (.list m l))=[.d (.list m l)]:=rfl
theorem Qfb (s m:Nat) (x:D):AV.cells false s (.d (.ptr m x))=[.d (.ptr m x)]:=rfl
theorem Qfa (s f:Nat) (l:List D):AV.cells false s (.d (.clo f l))=[.d (.clo f l)]:=rfl
theorem Qe9 {α:Type} [Enc α] [Sz α] (s:Nat) (a:Sl α):AV.cells false s (.d (enc a))=[.d (enc a)]:=rfl
theorem Qe8 (ag:Bool) (s i f:Nat):AV.cells ag s (.ref i f)=[.ref i f]:=rfl
theorem Qe7 (ag:Bool) (s i n e f:Nat):AV.cells ag s (.rref i n e f)=[.rref i n e f]:=rfl
theorem Qe6 (ag:Bool) (s i n:Nat):AV.cells ag s (.sl i n)=[.sl i n]:=rfl
theorem Qe2 (ag:Bool) (s i n f:Nat):AV.cells ag s (.sb i n f)=[.sb i n f]:=rfl
theorem Qe1 (ag:Bool) (s i:Nat):AV.cells ag s (.mpr i)=[.mpr i]:=rfl
theorem Qe0 (s:Nat) (ks vs:List D):AV.cells false s (.d (.map ks vs))=[.d (.map ks vs)]:=rfl
theorem Qez (s:Nat):AV.cells false s (.d .nilm)=[.d .nilm]:=rfl
theorem Qe5 (ag:Bool) (s f:Nat) (l:List AV):AV.cells ag s (.clo f l)=[.clo f l]:=rfl
theorem Qe4 (ag:Bool) (s m:Nat):AV.cells ag s (.nils m)=[.nils m]:=rfl
theorem Qe3 (ag:Bool) (s:Nat):AV.cells ag s .dead=[.dead]:=rfl
theorem Qer (i:Decidable True):@decide True i=true:=by simp
theorem Qcm (i:Decidable False):@decide False i=false:=by simp
theorem Qey (C:Ctx) (h:Nat) (k:IntKind) (n:Int):Mm C h (.int k n)=.d (.int k n):=rfl
theorem Qex (C:Ctx) (h:Nat) (b:Bool):Mm C h (.bool b)=.d (.bool b):=rfl
theorem Qew (C:Ctx) (h:Nat) (b:ByteArray):Mm C h (.string b)=.d (.str b.data.toList):=rfl
theorem Qev (C:Ctx) (h:Nat):Mm C h .nilFunc=.d .nilf:=rfl
theorem Qeu (C:Ctx) (h:Nat):Mm C h (.pointer none)=.d .nilp:=rfl
theorem Qet (C:Ctx) (h:Nat):Mm C h (.slice none 0 0)=.nils (C.esize h):=rfl
theorem Qes (C:Ctx) (h:Nat):Mm C h (.map none)=.d .nilm:=rfl
theorem Qib (l:Array UInt8):(ByteArray.mk l).data=l:=rfl
theorem I1 {bc:BCon} {args:List AV} {dst:Option Tmp} {K:List Nat→AS→Prop} {st:AS} (x:bc.X) (rs:List Nat) (h1:bc.ok x) (h2:rnAs rs (bc.args x)=args) (h3:rs.Nodup) (h4:rs.length=(bc.post x).length)
  (h5:Q3 rs rs (bc.objs x) st.objs) (h6:X6 (rs.drop (bc.objs x).length) st.objs) (h7:Shut (K (rs.map (· % 4096)) (AS.put st dst (.d (bc.res x)) (Yn rs rs (bc.post x) st.objs)))) (h0:bc.out x=none:=by rfl):Zt4 bc args dst K st :=
 ⟨x,rs,h1,h2,h3,h4,h5,h6,by unfold BCon.rvr;rw [h0];exact h7.out⟩
theorem X2 {P:Program} {f:Nat} {con:Con} (h:Fv P f) (hv:∀ c,¬ con.pre c):Qa P (f,con):=⟨h,fun _ _ c _ hp=>absurd hp (hv c)⟩
theorem Zq4 {P:Program} {f:Nat} {bc:BCon} (h:Fv P f) (hv:∀ x,¬ bc.ok x):Ry P (f,bc):=⟨h,fun x hx=>absurd hx (hv x)⟩
theorem Rw {bc:BCon} {args:List AV} {dst:Option Tmp} {K:AS→Prop} {st:AS} (x:bc.X) (rs:List Nat) (h1:bc.ok x) (h2:rnAs rs (bc.args x)=args) (h3:rs.Nodup) (h4:rs.length=(bc.post x).length)
  (h5:Q3 rs rs (bc.objs x) st.objs) (h6:X6 (rs.drop (bc.objs x).length) st.objs) (h7:Shut (K (AS.put st dst (.d (bc.res x)) (Yn rs rs (bc.post x) st.objs)))) (h0:bc.out x=none:=by rfl):Qab bc args dst K st :=
 ⟨x,rs,h1,h2,h3,h4,h5,h6,by unfold BCon.rvr;rw [h0];exact h7.out⟩
theorem Qen:((0:Nat):Int)=0:=rfl
theorem Qem:((1:Nat):Int)=1:=rfl
theorem Qeq (x:D) (l:List D):el (x::l) 0=x:=rfl
theorem Qep (x:D) (l:List D) (n:Nat):el (x::l) (n+1)=el l n:=rfl
theorem Qel:((2:Nat):Int)=2:=rfl
theorem Qek:((3:Nat):Int)=3:=rfl
theorem Qej:((4:Nat):Int)=4:=rfl
theorem Qed:Int.toNat 1=1:=rfl
theorem Qec:Int.toNat 2=2:=rfl
theorem Qeb:Int.toNat 3=3:=rfl
theorem Qei (k:IntKind) (n:Int) (f:Nat) (y:D):D.setCell (.int k n) f y=y:=rfl
theorem Qeh (b:Bool) (f:Nat) (y:D):D.setCell (.bool b) f y=y:=rfl
theorem Qeg (b:List UInt8) (f:Nat) (y:D):D.setCell (.str b) f y=y:=rfl
theorem Qef (m:Nat) (l:List D) (f:Nat) (y:D):D.setCell (.list m l) f y=y:=rfl
theorem Qee {α:Type} [Enc α] [Sz α] (a:Sl α) (f:Nat) (y:D):D.setCell (enc a) f y=y:=rfl
theorem Qhs {α:Type} (l:List α):(Sl.mk l).l=l:=rfl
theorem I4 (k:Nat):(NatCast.natCast k:Int)=Int.ofNat k:=rfl
theorem Zr {α:Type} [Enc α] {l:List α} {i:Nat} (d:α) (h:i<l.length):el (l.map enc) i=enc (l.getD i d):=Qdl d h
end Go.Am
