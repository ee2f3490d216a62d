/- Contracts of functions that the law reaches, and plain laws. Conditions: those that each contract states. -/
import Derived.Test.YtilpfkjhahnfaaaGreatP3
import Derived.ProofKit
import Derived.OpenShut
import Derived.JoinedCond
import Derived.JoinedOf
import Derived.Carry
import Derived.Deep.Slices
set_option maxHeartbeats 400000
set_option linter.unusedVariables false
set_option linter.unusedSimpArgs false
variable {p:Prop}
namespace Go.Am
open Go.RowKit (Below)
section
variable {P:Program} {C:Ctx}
variable {base:Nat} {pass:Nat→Prop} {F0:Anc} {st:AS} {a:Act} {w:World}
theorem Zi3 {α:Type} {l:List α} {i:Nat} {x d:α} (h:l.getD i d=x) (hi:i<l.length):l.set i x=l:=by
 apply List.ext_getElem?;intro j;rw [List.getElem?_set];by_cases fO:i=j
 ·subst fO;rw [if_pos rfl,if_pos hi];rw [Zd,Zk hi] at h;rw [Zk hi,←h];rfl
 ·rw [if_neg fO]
theorem bB {ops:List Oper} {j t:Nat} {b:Bool} (h:Xu ops st j=.b t b):∃ g,ops[j]?=some g∧g.dst=some t∧t<st.tmps.length∧st.tmps.getD t .dead=.d (.bool b):=by
 unfold Xu at h;split at h
 ·next g hg =>
  split at h
  ·next t' ht =>
   split at h
   ·next b' hb =>
    injection h with h1 h2
    subst h1;subst h2;refine ⟨g,hg,ht,?_,hb⟩;rcases Nat.lt_or_ge t' st.tmps.length with Zv|aY
    ·exact Zv
    ·rw [Zd,List.getElem?_eq_none aY] at hb;simp at hb
   ·cases h
   ·cases h
  ·cases h
 ·cases h
theorem Az {m:Nat→Nat} {G:Gh} (h:SRg base pass F0 m G st a w) {ops:List Oper} {j t:Nat} {b:Bool} (hg:Xu ops st j=.b t b):yielded ops.toArray a.tmps j=some b:=by
 obtain ⟨g,h1,h2,h3,h4⟩:=bB hg;have hx:st.tmps[t]?=some (.d (.bool b)):=by
  rw [Zk h3];rw [Zd,Zk h3] at h4;simpa using h4
 obtain ⟨u,hu,hr⟩:=h.tmps.at hx;simp only [RA,R] at hr;subst hr;have hu':a.tmps[t]?=some (.bool b):=by simpa using hu
 simp [yielded,h1,h2,hu']
theorem Zdv {m:Nat→Nat} {G:Gh} (h:SRg base pass F0 m G st a w) {ops:List Oper} {j:Nat} (hg:Xu ops st j=.und):yielded ops.toArray a.tmps j=none:=by
 unfold Xu at hg;split at hg
 ·next g hj =>
  split at hg
  ·next t ht =>
   split at hg
   ·cases hg
   ·next hb =>
    have Zv:t<st.tmps.length:=by
     rcases Nat.lt_or_ge t st.tmps.length with Zv|aY
     ·exact Zv
     ·rw [Zd,List.getElem?_eq_none aY] at hb;simp at hb
    have hx:st.tmps[t]?=some (.d (.tup [])):=by
     rw [Zk Zv];rw [Zd,Zk Zv] at hb;simpa using hb
    obtain ⟨u,hu,hr⟩:=h.tmps.at hx;simp only [RA,R,Rs] at hr;obtain ⟨cs,rfl,rfl⟩:=hr;have hu':a.tmps[t]?=some (.tuple #[]):=by simpa using hu
    simp [yielded,hj,ht,hu']
   ·cases hg
  ·cases hg
 ·cases hg
theorem wC {F:Fix} {G:Gh} {L:Nat→Option Obj}:RA F G L (.d (.tup [])) undef:=by
 simp only [RA,R,Rs];exact ⟨[],rfl,rfl⟩
theorem Zl6 (K:Co P C) {m:Nat→Nat} {G:Gh} (h:SRg base pass F0 m G st a w) {o:Oper} {bc:BCon} {x:bc.X} {rs:List Nat} (hb:Qi9 C o st=some (bc,rnAs rs (bc.args x))) (Vt:bc.ok x)
  (qF:rs.Nodup) (Q5:rs.length=(bc.post x).length) (Jg:Jd rs rs (bc.objs x) st.objs) (Zaz:Wi (rs.drop (bc.objs x).length) st.objs) {N:Act→World→Prop} {Q:Exit→Act→World→Prop}
  (hn:qY base pass F0 a st.tmps o.dst (bc.rvr rs x) (Yu rs rs (bc.post x) st.objs) N):o.wp P a w N Q:=by
 unfold Qi9 at hb;split at hb
 ·next cl Js =>
  have e:cl.args.map a.eval=(cl.args.toList.map a.eval).toArray:=by cases cl.args;simp
  split at hb
  ·next f hcal =>
   split at hb
   ·next bc' hf =>
    injection hb with hb
    injection hb with wX aB
    subst wX;have hx:=Mc (C:=C) h.tmps cl.args.toList cl.argTypes.toList;rw [aB] at hx;obtain ⟨mL,Ab⟩:=fE K h hf Vt hx qF Q5 Jg Zaz;refine Eg (st:=st) (args:=(cl.args.toList.map a.eval).toArray) ?_ Ab hn;have:=mL (cl.args.toList.map a.eval).toArray w;simp only [execOp,Js,resolve,hcal,Act.eval,Deferred.ofValue];simpa [invoke,e] using this
   ·cases hb
  ·next f hcal =>
   have Qix:=Yx (C:=C) (hint:=0) h.tmps (.tmp f);split at hb
   ·next g caps hfv =>
    split at hb
    ·next bc' hf =>
     injection hb with hb
     injection hb with wX aB
     subst wX;rw [hfv] at Qix;simp only [RA,R] at Qix;obtain ⟨cs,Qoq,uD⟩:=Qix;have hx:=RAs.append (Mc (C:=C) h.tmps cl.args.toList cl.argTypes.toList) (RAs.of_Rs (G:=G) (L:=lk st.objs) uD);rw [aB] at hx;obtain ⟨mL,Ab⟩:=fE K h hf Vt hx qF Q5 Jg Zaz;refine Eg (st:=st) (args:=(cl.args.toList.map a.eval++cs).toArray) ?_ Ab hn;have:=mL (cl.args.toList.map a.eval++cs).toArray w;simp only [execOp,Js,resolve,hcal,Qoq,Deferred.ofValue];simpa [invoke,e] using this
    ·cases hb
   ·next g caps hfv =>
    split at hb
    ·next bc' hf =>
     injection hb with hb
     injection hb with wX aB
     subst wX;rw [hfv] at Qix;simp only [RA] at Qix;obtain ⟨cs,Qoq,uD⟩:=Qix;have hx:=RAs.append (Mc (C:=C) h.tmps cl.args.toList cl.argTypes.toList) uD;rw [aB] at hx;obtain ⟨mL,Ab⟩:=fE K h hf Vt hx qF Q5 Jg Zaz;refine Eg (st:=st) (args:=(cl.args.toList.map a.eval++cs).toArray) ?_ Ab hn;have:=mL (cl.args.toList.map a.eval++cs).toArray w;simp only [execOp,Js,resolve,hcal,Qoq,Deferred.ofValue];simpa [invoke,e] using this
    ·cases hb
   ·cases hb
  ·cases hb
 ·cases hb
theorem Qnl (K:Co P C) {m:Nat→Nat} {G:Gh} (h:SRg base pass F0 m G st a w) {o:Oper} {i n s k:Nat} {b:D} {els:List D} (hb:Zlt C o st=some (i,n,b,s,els,k))
  (hc:n=els.length∧b.isAnyInt∧0≤b.i∧b.i≤els.length∧(k:Int)≤b.i∧Kl i st.objs=true∧i<90000) {N:Act→World→Prop} {Q:Exit→Act→World→Prop}
  (hn:qY base pass F0 a (Nr i st.tmps) o.dst (.sl i b.i.toNat) (upd st.objs i (.row s (els.take b.i.toNat) k)) N):o.wp P a w N Q:=by
 obtain ⟨c1,c2,c3,c4,c5,c6,c7⟩:=hc;unfold Zlt at hb;split at hb
 ·next t x hi d Js hdst =>
  split at hb
  ·split at hb
   ·next e i' n' b' hk hx Ob =>
    split at hb
    ·next s' els' k' hl =>
     split at hb
     ·next hs =>
      simp only [Zb,Zc] at hb;obtain ⟨rfl,rfl,rfl,rfl,rfl,rfl⟩:=hb;have Za7:=Yx (C:=C) (hint:=t) h.tmps x;have Qn5:=Yx (C:=C) (hint:=0) h.tmps hi;rw [hx] at Za7;rw [Ob] at Qn5;simp only [RA,hl] at Za7 Qn5;have hv:=Za7.2.2 c1;obtain ⟨q2,hq⟩:=Qn5.of_anyInt c2;obtain ⟨dd,hd,X7⟩:=K.1.kind hk rfl;simp only [TK.is] at X7;obtain ⟨rfl,he⟩:=X7;have My:=Hb (K.1 e he);obtain ⟨A,cp,Qmo,Er⟩:∃ A cp,G.hd i'=.slice A els'.length cp∧els'.length≤cp:=by
       have Kh:=h.objs i' _ hl;simp only [Ja] at Kh;rcases Kh with ⟨_,h2,h3,_⟩|⟨bb,cap,cs,ty,_,h2,h3,_⟩
       ·subst h3;exact ⟨none,0,by rw [h2];rfl,Zr _⟩
       ·exact ⟨_,cap,h2,h3⟩
      have uB:b'.i.toNat≤els'.length:=by omega
      have hr:=Ve (P:=P) (w:=w) (A:=A) (c:=cp) hd My (lo:=none) (hi:=some (.int q2 b'.i)) (n:=els'.length) (l:=0) (h:=b'.i.toNat) (.inl ⟨rfl,rfl⟩) (.inr ⟨q2,by rw [Hp c3]⟩) (Nat.zero_le _) uB Er
      have hA:(if cp=0 then A else A.map (·.add (0*C.size e)))=A:=by
       split
       ·rfl
       ·cases A<;>simp [Addr.add]
      have Zhx:=h.cut hl uB (by omega) c6 c7 Qmo
      have Q5:(els'.take b'.i.toNat).length=b'.i.toNat:=by rw [List.length_take];omega
      unfold Oper.wp;rw [show execOp a.eval o=(do pure (.value (←Instr.sliceAt t (a.eval x) none (some (a.eval hi)) none))) by simp only [execOp,Js];rfl]
      rw [hv,Qmo,hq];simp only [Sem.run_bind,hr,Result.andThen_ok,Sem.run_pure,Oper.upon];refine hn _ w m _ Zhx ?_;simp only [RA,Xw,if_true];refine ⟨rfl,by omega,fun _=>?_⟩
      rw [hA];simp
     ·cases hb
    ·cases hb
   ·cases hb
  ·cases hb
 ·cases hb
theorem Zbe {t e ty:TypeId} {z:Value} (ht:P.underlying t=some (.slice e)) (hv:∀ w,(zeroValue e).run P w=.ok z w) {zc:Value} (hz:z.cells=#[zc]) (h1:zc.oneCell'=true) {b o n c:Nat} (hn:0<n) {uQ:Array Value} {tt:TypeId}
  (hg:w.heap[b]?=some (.cells uQ tt (0,0))) (hl:o+n≤uQ.size) :
  (Builtin.clear_ #[t] ty #[.slice (some ⟨b,o,none⟩) n c]).run P w=.ok (.tuple #[]) (w.setRow b (uQ.toList.take o++List.replicate n zc++uQ.toList.drop (o+n)).toArray):=by
 have Qsq:(Builtin.zeroCells z.cells n).toList=List.replicate n zc:=by
  rw [hz];simp [Builtin.zeroCells];apply List.ext_getElem
  ·simp
  ·intro i h1 h2;simp [Nat.mod_one]
 have Jg:=run_storeCells_at P b o tt (List.replicate n zc) 0 uQ w hg (by simpa using hl) (by intro v hv';rw [List.eq_of_mem_replicate hv'];exact h1)
 simp only [Nat.add_zero,List.length_replicate] at Jg;obtain ⟨m,rfl⟩:∃ m,n=m+1:=⟨n-1,by omega⟩
 simp [Builtin.clear_,run_underlying ht,hv,Qsq,Jg]
theorem Qbz {F:Fix} {d:D} {z zc:Value} (h:R F d z) (hz:z.cells=#[zc]) (h1:zc.oneCell'=true):∀ n,RE F 1 (List.replicate n d) (List.replicate n zc)
 | 0=>by simp [RE]
 | n+1=>by
  rw [List.replicate_succ,List.replicate_succ];simp only [RE];exact ⟨z,_,by rw [hz];rfl,by rw [hz];rfl,by rw [hz];simpa using h1,h,Qbz h hz h1 n⟩
theorem Qnd (K:Co P C) {m:Nat→Nat} {G:Gh} (h:SRg base pass F0 m G st a w) {o:Oper} {c:Prop} {z:AV} {os:Qh} (hb:oU C o st=some (c,z,os)) (hc:c)
  {N:Act→World→Prop} {Q:Exit→Act→World→Prop} (hn:qY base pass F0 a st.tmps o.dst z os N):o.wp P a w N Q:=by
 unfold oU at hb;split at hb
 ·next t x lo Js =>
  split at hb
  ·next d hdst =>
   split at hb
   ·split at hb
    ·next e i n y hk hx mN =>
     split at hb
     ·next s els k hl =>
      split at hb
      ·next hs =>
       simp only [Zb,Zc] at hb;obtain ⟨rfl,rfl,rfl⟩:=hb;obtain ⟨c1,c2,c3,c4⟩:=hc;have Za7:=Yx (C:=C) (hint:=t) h.tmps x;have Qb2:=Yx (C:=C) (hint:=0) h.tmps lo;rw [hx] at Za7;rw [mN] at Qb2;simp only [RA,hl] at Za7 Qb2;have hv:=Za7.2.2 c1;obtain ⟨q2,hq⟩:=Qb2.of_anyInt c2;obtain ⟨dd,hd,X7⟩:=K.1.kind hk rfl;simp only [TK.is] at X7;obtain ⟨rfl,he⟩:=X7;have My:=Hb (K.1 e he);have Kh:=h.objs i _ hl;simp only [Ja] at Kh;rcases Kh with ⟨_,_,h3,_⟩|⟨bb,cap,cs,ty,h1,h2,h3,_⟩
       ·subst h3;simp at c4;omega
       ·have hr:=Ve (P:=P) (w:=w) (A:=some ⟨bb,0,none⟩) (c:=cap) hd My (lo:=some (.int q2 y.i)) (hi:=none) (n:=els.length) (l:=y.i.toNat) (h:=els.length) (.inr ⟨q2,by rw [Hp c3]⟩) (.inl ⟨rfl,rfl⟩) (by omega) (Zr _) h3
        have Tz:¬ cap=y.i.toNat:=by omega
        rw [if_neg Tz] at hr;refine Jz (st:=st) (s:=Instr.sliceAt t (a.eval x) (some (a.eval lo)) none none) (by simp only [execOp,Js];rfl) (Qu h (v:=.slice (some ⟨bb,y.i.toNat*s,none⟩) (els.length-y.i.toNat) (cap-y.i.toNat)) ?_ ?_) hn
        ·rw [hv,h2,hq,hr];simp [Cm,hs]
        ·simp only [RA,hl];refine ⟨rfl,by omega,fun _=>⟨bb,cap,h1,by rw [h2,c1],by omega,by rw [c1]⟩⟩
      ·cases hb
     ·cases hb
    ·cases hb
   ·cases hb
  ·cases hb
 ·next t x hi Js =>
  split at hb
  ·next d hdst =>
   split at hb
   ·split at hb
    ·next e i n y hk hx Ob =>
     split at hb
     ·next s els k hl N5 =>
      split at hb
      ·next hs =>
       simp only [Zb,Zc] at hb;obtain ⟨rfl,rfl,rfl⟩:=hb;obtain ⟨c1,c2,c3,c4,c5,c6⟩:=hc;have Za7:=Yx (C:=C) (hint:=t) h.tmps x;have Qn5:=Yx (C:=C) (hint:=0) h.tmps hi;rw [hx] at Za7;rw [Ob] at Qn5;simp only [RA,hl] at Za7 Qn5;have hv:=Za7.2.2 c1;obtain ⟨q2,hq⟩:=Qn5.of_anyInt c2;obtain ⟨dd,hd,X7⟩:=K.1.kind hk rfl;simp only [TK.is] at X7;obtain ⟨rfl,he⟩:=X7;have My:=Hb (K.1 e he);obtain ⟨A,cp,Qmo,Er⟩:∃ A cp,G.hd i=.slice A els.length cp∧els.length≤cp:=by
        have Kh:=h.objs i _ hl;simp only [Ja] at Kh;rcases Kh with ⟨_,h2,h3,_⟩|⟨bb,cap,cs,ty,_,h2,h3,_⟩
        ·subst h3;exact ⟨none,0,by rw [h2];rfl,Zr _⟩
        ·exact ⟨_,cap,h2,h3⟩
       have uB:y.i.toNat≤els.length:=by omega
       have hr:=Ve (P:=P) (w:=w) (A:=A) (c:=cp) hd My (lo:=none) (hi:=some (.int q2 y.i)) (n:=els.length) (l:=0) (h:=y.i.toNat) (.inl ⟨rfl,rfl⟩) (.inr ⟨q2,by rw [Hp c3]⟩) (Nat.zero_le _) uB Er
       have hA:(if cp=0 then A else A.map (·.add (0*C.size e)))=A:=by
        split
        ·rfl
        ·cases A<;>simp [Addr.add]
       have Ja5:=h.move hl N5 uB (by omega) Qmo
       have Q5:(els.take y.i.toNat).length=y.i.toNat:=by rw [List.length_take];omega
       unfold Oper.wp;rw [show execOp a.eval o=(do pure (.value (←Instr.sliceAt t (a.eval x) none (some (a.eval hi)) none))) by simp only [execOp,Js];rfl]
       rw [hv,Qmo,hq];simp only [Sem.run_bind,hr,Result.andThen_ok,Sem.run_pure,Oper.upon];refine hn _ w m _ Ja5 ?_;simp only [RA,Xw,if_true];refine ⟨rfl,by omega,fun _=>?_⟩
       rw [hA];simp
      ·cases hb
     ·cases hb
    ·cases hb
   ·cases hb
  ·cases hb
 ·next cl Js =>
  split at hb
  ·next hcal =>
   split at hb
   ·next x t hx ht =>
    split at hb
    ·next e i n f hk hxe =>
     split at hb
     ·next s els k hl =>
      split at hb
      ·next hs =>
       obtain ⟨hs,rfl⟩:=hs;simp only [Zb,Zc] at hb;obtain ⟨rfl,rfl,rfl⟩:=hb;obtain ⟨c1,c2⟩:=hc;have e1:=jX hx;have e2:=jX ht;have Za7:=Yx (C:=C) (hint:=t) h.tmps x;rw [hxe] at Za7;simp only [RA,hl] at Za7;obtain ⟨bb,cc,g1,g2,g3,hv⟩:=Za7.2.2 c1;obtain ⟨dd,hd,X7⟩:=K.1.kind hk rfl;simp only [TK.is] at X7;obtain ⟨rfl,he⟩:=X7;obtain ⟨ii,zv,i1,i2,i3,i4,i5,i6,i7,i8⟩:=(K.1 e he).info;have Jah:zv.cells.size=1:=by rw [i7];exact hs.symm
       obtain ⟨zc,Qsq⟩:∃ zc,zv.cells=#[zc]:=⟨zv.cells[0],by
        apply Array.ext
        ·simpa using Jah
        ·intro j h1 h2;have:j=0:=by simp at h2;omega
         subst this;rfl⟩
       have Qyp:zc.oneCell'=true:=i8 zc (by rw [Qsq];simp)
       have Jae:∀ w,(zeroValue e).run P w=.ok zv w:=by
        intro w;simp [zeroValue,typeInfo,i1,i4]
       have Kh:=h.objs i _ hl;simp only [Ja] at Kh;rcases Kh with ⟨_,_,h3,_⟩|⟨b',cap,cs,ty,h1,h2,h3,h4,h5,h6,h7,h8,h9⟩
       ·subst h3;simp at c1;omega
       ·rw [g1] at h1;injection h1 with h1
        subst h1;rw [h2] at g2;injection g2 with _ _ g2
        subst g2;simp only [Nat.mul_one] at hv h6 h7 h8;have hr:=Zbe (P:=P) (w:=w) (ty:=o.type) hd Jae Qsq Qyp (b:=bb) (o:=f) (n:=n-f) (c:=cap-f) (by omega) h5 (by omega)
        refine Jz (st:=st) (s:=Builtin.clear_ #[t] o.type #[a.eval x]) (by simp [execOp,Js,resolve,hcal,e1,e2,invoke,builtin]) ⟨_,_,m,G,by rw [hv];exact hr,?_,?_⟩ hn
        ·refine (h.write hl rfl g1 h5 (fun off ho=>?_) (by simp [Obj.isBox]) (fun s' els' k' he'=>?_) (fun hF hg=>?_)).2.2
         ·rw [h8] at ho;have:off<f:=by omega
          rw [←Array.getElem?_toList,List.append_assoc,List.getElem?_append_left (by simp;omega),List.getElem?_take,if_pos this]
          simp
         ·simp only [Obj.row.injEq] at he';obtain ⟨rfl,rfl,rfl⟩:=he';exact ⟨els,k,rfl,by simp;omega⟩
         ·simp only [Ja];have Q5:(els.take f++List.replicate (els.length-f) (C.τ e).zd).length=els.length:=by simp;omega
          have Jag:(cs.toList.take f++List.replicate (n-f) zc++cs.toList.drop (f+(n-f))).length=cs.size:=by simp;omega
          refine .inr ⟨bb,cap,_,ty,g1,by rw [Q5];exact h2,by rw [Q5];exact h3,h4,setRow_heap w bb cs _ ty (0,0) h5,?_,?_,by simpa using h8,by rw [Q5];exact h9⟩
          ·rw [Nat.mul_one,←h6];simpa using Jag
          ·have r1:=(RE.split f (RE.mono hF h7)).1;have r2:=RE.append r1 (Qbz (F:=⟨w.setRow bb (cs.toList.take f++List.replicate (n-f) zc++cs.toList.drop (f+(n-f))).toArray,m⟩) (i6 _) Qsq Qyp (els.length-f));rw [Q5];have e3:(cs.toList.take f++List.replicate (n-f) zc++cs.toList.drop (f+(n-f))).toArray.toList.take (els.length*1)=(cs.toList.take els.length).take (f*1)++List.replicate (els.length-f) zc:=by
            rw [Nat.mul_one,Nat.mul_one,List.take_take,c1];simp only [];rw [List.take_append_of_le_length (by simp;omega),List.take_of_length_le (by simp;omega)]
            congr 2
            omega
           rw [e3];exact r2
        ·simp only [RA,R,Rs];exact ⟨[],rfl,rfl⟩
      ·cases hb
     ·cases hb
    ·cases hb
   ·cases hb
  ·cases hb
 ·cases hb
theorem Qm9 (K:Co P C) {m:Nat→Nat} {G:Gh} (h:SRg base pass F0 m G st a w) {o:Oper} {c:Prop} {l:List D} {b:Bool} (hb:Zjw C o st=some (c,l,b)) (hc:c)
  {N:Act→World→Prop} {Q:Exit→Act→World→Prop} (Qs8:l=[]→qY base pass F0 a st.tmps o.dst (.d (.bool b)) st.objs N) (Qpu:qY base pass F0 a st.tmps o.dst (.d (.bool (!b))) st.objs N):o.wp P a w N Q:=by
 have key:∀ (op:BinOp) (t:Nat) (ox oy:Operand) (ty:TypeId),(op=.eql∧b=true∨op=.neq∧b=false)→o.op=.binOp op t ox oy ty→rC C t (st.ev C t ox) (st.ev C t oy) st.objs=some (c,l)→o.wp P a w N Q:=by
  intro op t ox oy ty Qwe Js Zzt;have Za7:=Yx (C:=C) (hint:=t) h.tmps ox;have Qn4:=Yx (C:=C) (hint:=t) h.tmps oy;obtain ⟨e,A,cc,hk,hv,hvy',Qs6⟩:∃ e A cc,(C.τ t).kind=.slice e∧a.eval ox=.slice A l.length cc∧a.eval oy=.slice none 0 0∧(A=none→l=[]):=by
   unfold rC at Zzt;split at Zzt
   ·next e d s hk hx hy =>
    simp only [Zb,Zc] at Zzt;obtain ⟨rfl,rfl⟩:=Zzt;rw [hx] at Za7;rw [hy] at Qn4;simp only [RA] at Za7 Qn4;have hl:=Za7.of_list hc;simp only [R] at hl;obtain ⟨A,cc,hv,_,_,hA⟩:=hl;refine ⟨e,A,cc,hk,hv,Qn4,fun hz=>?_⟩;apply Classical.byContradiction;intro Tz;obtain ⟨b,off,vs,hz',_⟩:=hA Tz;rw [hz] at hz';cases hz'
   ·next e i n s hk hx hy =>
    split at Zzt
    ·next s' els k hl =>
     simp only [Zb,Zc] at Zzt;obtain ⟨rfl,rfl⟩:=Zzt;rw [hx] at Za7;rw [hy] at Qn4;simp only [RA,hl] at Za7 Qn4;have hv:=Za7.2.2 hc;have Kh:=h.objs i _ hl;simp only [Ja] at Kh;rcases Kh with ⟨_,h2,h3,_⟩|⟨bb,cap,cs,ty',_,h2,_⟩
     ·subst h3;exact ⟨e,none,0,hk,by rw [hv,h2];rfl,Qn4,fun _=>rfl⟩
     ·exact ⟨e,_,cap,hk,by rw [hv,h2],Qn4,fun hz=>by cases hz⟩
    ·cases Zzt
   ·cases Zzt
  obtain ⟨dd,hd,X7⟩:=K.1.kind hk rfl;simp only [TK.is] at X7;obtain ⟨rfl,_⟩:=X7;have Zh7:∀ d:Nat,(Op.equalIn (d+1) t (.slice A l.length cc) (.slice none 0 0)).run P w=.ok A.isNone w:=fun d=>by cases A<;>simp [Op.equalIn,run_underlying hd]
  have run1:(Yb .eql t ox oy (a.eval ox) (a.eval oy)).run P w=.ok (.bool A.isNone) w:=by
   rw [hv,hvy'];unfold Yb;simp only [binOp];simp [eqGuard,Op.equal,Op.maxDepth,Zh7 9999]
  have run2:(Yb .neq t ox oy (a.eval ox) (a.eval oy)).run P w=.ok (.bool (!A.isNone)) w:=by
   rw [hv,hvy'];unfold Yb;simp only [binOp];simp [eqGuard,Op.equal,Op.maxDepth,Zh7 9999]
  have hnone':A.isNone=true→l=[]:=fun h=>Qs6 (by cases A with|none=>rfl|some _=>cases h)
  rcases Qwe with ⟨rfl,rfl⟩|⟨rfl,rfl⟩
  ·cases hz:A.isNone with
   | true =>
    rw [hz] at run1;exact Jz (st:=st) (s:=Yb .eql t ox oy (a.eval ox) (a.eval oy)) (by simp only [execOp,Js,Yb]) (Qu h run1 (by simp only [RA];exact R.bool)) (Qs8 (hnone' hz))
   | false =>
    rw [hz] at run1;exact Jz (st:=st) (s:=Yb .eql t ox oy (a.eval ox) (a.eval oy)) (by simp only [execOp,Js,Yb]) (Qu h run1 (by simp only [RA];exact R.bool)) Qpu
  ·cases hz:A.isNone with
   | true =>
    rw [hz] at run2;exact Jz (st:=st) (s:=Yb .neq t ox oy (a.eval ox) (a.eval oy)) (by simp only [execOp,Js,Yb]) (Qu h run2 (by simp only [RA];exact R.bool)) (Qs8 (hnone' hz))
   | false =>
    rw [hz] at run2;exact Jz (st:=st) (s:=Yb .neq t ox oy (a.eval ox) (a.eval oy)) (by simp only [execOp,Js,Yb]) (Qu h run2 (by simp only [RA];exact R.bool)) Qpu
 unfold Zjw at hb;split at hb
 ·next t ox oy ty Js =>
  split at hb
  ·split at hb
   ·split at hb
    ·next c' l' Zzt =>
     simp only [Zb,Zc] at hb;obtain ⟨rfl,rfl,h3⟩:=hb;exact key .eql t ox oy ty (.inl ⟨rfl,h3.symm⟩) Js Zzt
    ·cases hb
   ·cases hb
  ·cases hb
 ·next t ox oy ty Js =>
  split at hb
  ·split at hb
   ·split at hb
    ·next c' l' Zzt =>
     simp only [Zb,Zc] at hb;obtain ⟨rfl,rfl,h3⟩:=hb;exact key .neq t ox oy ty (.inr ⟨rfl,h3.symm⟩) Js Zzt
    ·cases hb
   ·cases hb
  ·cases hb
 ·cases hb
theorem N8 (K:Co P C) {ops:List Oper} {N:AS→Prop} {Q:Exit→Act→World→Prop} (hQ:∀ st a w,SR base pass F0 st a w→N st→Q .normal a w) :
  ∀ (l:List Oper) (st:AS) (a:Act) (w:World),SR base pass F0 st a w→Zhd C ops l N st→wpList P ops.toArray Q l a w
 | [],st,a,w,h,hn=>by
  simp only [Zhd] at hn;exact wpList_nil (hQ st a w h hn)
 | o::l,st,a,w,h,hn=>by
  simp only [Zhd] at hn;have exec:∀ st a w,SR base pass F0 st a w→qJ C o (Zhd C ops l N) st→o.wp P a w (wpList P ops.toArray Q l) Q:=by
   intro st a w ⟨m,G,h⟩ he;unfold qJ at he;split at he
   ·next bc args hbo =>
    obtain ⟨x,rs,Vt,Qmu,qF,Q5,Jg,Zaz,hk⟩:=he;subst Qmu;refine Zl6 K h hbo Vt qF Q5 Jg Zaz (fun v w' m' G' hs' hz=>?_);refine N8 K hQ l _ _ _ ⟨m',G',?_⟩ hk;have:=hs'.putO (t:=o.dst) hz;unfold AS.put;exact this
   ·split at he
    ·next i n b s els k hcu =>
     refine Qnl K h hcu he.1 (fun v w' m' G' hs' hz=>?_);refine N8 K hQ l _ _ _ ⟨m',G',?_⟩ he.2;have:=hs'.putO (t:=o.dst) hz;unfold AS.put;exact this
    ·split at he
     ·next c x os hs =>
      refine Qnd K h hs he.1 (fun v w' m' G' hs' hz=>?_);refine N8 K hQ l _ _ _ ⟨m',G',?_⟩ he.2;have:=hs'.putO (t:=o.dst) hz;unfold AS.put;exact this
     ·split at he
      ·next c ll b hni =>
       obtain ⟨Qiy,Zfb,Jbk⟩:=he;refine Qm9 K h hni Qiy (fun Qk6 v w' m' G' hs' hz=>?_) (fun v w' m' G' hs' hz=>?_)
       ·refine N8 K hQ l _ _ _ ⟨m',G',?_⟩ (Zfb Qk6);have:=hs'.putO (t:=o.dst) hz;unfold AS.put;exact this
       ·refine N8 K hQ l _ _ _ ⟨m',G',?_⟩ Jbk;have:=hs'.putO (t:=o.dst) hz;unfold AS.put;exact this
      ·unfold Zhe at he;split at he
       ·next c x os hs =>
        refine Zjq K h hs he.1 (fun v w' m' G' hs' hz=>?_);refine N8 K hQ l _ _ _ ⟨m',G',?_⟩ he.2;have:=hs'.putO (t:=o.dst) hz;unfold AS.put;exact this
       ·exact he.elim
  unfold Quk at hn;unfold wpList;split at hn
  ·next hg =>
   rw [if_pos (by simp [Region.wanted,hg])]
   exact .inl (exec st a w h hn)
  ·next j want hg =>
   split at hn
   ·next t b Cq =>
    obtain ⟨m,G,hs⟩:=h;have hy:=Az hs Cq;obtain ⟨g,g1,g2,g3,g4⟩:=bB Cq;have K8:({ st with tmps:=st.tmps.set t (.d (.bool b)) }:AS)=st:=by rw [Zi3 g4 g3]
    by_cases hb:b=want
    ·rw [if_pos (by simp [Region.wanted,hg,hy,hb])]
     have:=hn.1 hb;rw [←hb,K8] at this;exact .inl (exec st a w ⟨m,G,hs⟩ this)
    ·rw [if_neg (by simp [Region.wanted,hg,hy,hb])]
     have hb':b=!want:=by cases b<;>cases want<;>simp_all
     have:=hn.2 hb';rw [←hb',K8] at this;refine N8 K hQ l _ _ _ ⟨m,G,?_⟩ this;have hp:=hs.putO (t:=o.dst) (x:=.d (.tup [])) (v:=undef) wC;unfold AS.put;exact hp
   ·next Cq =>
    obtain ⟨m,G,hs⟩:=h;have hy:=Zdv hs Cq;rw [if_neg (by simp [Region.wanted,hg,hy])]
    refine N8 K hQ l _ _ _ ⟨m,G,?_⟩ hn;have hp:=hs.putO (t:=o.dst) (x:=.d (.tup [])) (v:=undef) wC;unfold AS.put;exact hp
   ·exact hn.elim
theorem lE:∀ {es:List Edge} {acc:List Nat} {k:Nat},(bY es acc).testBit k=true→∃ e∈es,Region.binds .any e=true∧(e.on=k∨(acc.getD e.on 0).testBit k=true)
 | [],acc,k,h=>by simp [bY] at h
 | e::r,acc,k,h=>by
  simp only [bY] at h;split at h
  ·next hb =>
   simp only [Nat.testBit_or,Bool.or_eq_true] at h;rcases h with (h|h)|h
   ·rw [Nat.testBit_two_pow] at h;exact ⟨e,by simp,hb,.inl (by simpa using h)⟩
   ·exact ⟨e,by simp,hb,.inr h⟩
   ·obtain ⟨e',h1,h2⟩:=lE h;exact ⟨e',List.mem_cons_of_mem _ h1,h2⟩
  ·obtain ⟨e',h1,h2⟩:=lE h;exact ⟨e',List.mem_cons_of_mem _ h1,h2⟩
theorem nN:∀ (r:List Oper) (acc:List Nat),∃ l,nO r acc=acc++l∧l.length=r.length∧∀ (j:Nat) (o:Oper),r[j]?=some o→l[j]?=some (bY o.after.toList (acc++l.take j))
 | [],acc=>⟨[],by simp [nO],rfl,by simp⟩
 | o::r,acc=>by
  obtain ⟨l,h1,h2,h3⟩:=nN r (acc++[bY o.after.toList acc]);refine ⟨bY o.after.toList acc::l,by simp [nO,h1],by simp [h2],fun j x hj=>?_⟩
  cases j with
  | zero=>simp only [List.getElem?_cons_zero,Zb] at hj;subst hj;simp
  | succ j =>
   simp only [List.getElem?_cons_succ] at hj ⊢;rw [h3 j x hj];simp
theorem Zda {ops:List Oper} {i k:Nat} {o:Oper} (ho:ops[i]?=some o) (h:((eB ops).getD i 0).testBit k=true) :
  ∃ e∈o.after.toList,Region.binds .any e=true∧(e.on=k∨(e.on<i∧((eB ops).getD e.on 0).testBit k=true)):=by
 obtain ⟨l,h1,h2,h3⟩:=nN ops [];have hm:eB ops=l:=by simpa [eB] using h1
 have hi:=h3 i o ho;simp only [List.nil_append] at hi;rw [hm,Zd,hi] at h;simp only [Option.getD_some] at h;obtain ⟨e,g1,g2,g3⟩:=lE h;refine ⟨e,g1,g2,g3.elim (fun h=>.inl h) fun g=>.inr ?_⟩;by_cases Zv:e.on<i
 ·refine ⟨Zv,?_⟩;rw [hm];rw [Zd,List.getElem?_take,if_pos Zv] at g;rw [Zd];exact g
 ·rw [Zd,List.getElem?_take,if_neg Zv] at g;simp at g
def Qii (ops:List Oper) (listed:Array Bool):Prop:=∀ i o,ops[i]?=some o→listed.getD i false=true→∀ e∈o.after.toList,Region.binds .any e=true→listed.getD e.on false=true
theorem Zzc {ops:List Oper} {listed:Array Bool} (hc:Qii ops listed):∀ (n i:Nat),i≤n→∀ o,ops[i]?=some o→(∀ e∈o.after.toList,Region.binds .any e=true→listed.getD e.on false=true) →
  ∀ k,((eB ops).getD i 0).testBit k=true→listed.getD k false=true:=by
 intro n
 induction n with
 | zero =>
  intro i hi o ho he k hk;obtain ⟨e,h1,h2,h3⟩:=Zda ho hk;rcases h3 with rfl|⟨h3,_⟩
  ·exact he e h1 h2
  ·omega
 | succ n ih =>
  intro i hi o ho he k hk;obtain ⟨e,h1,h2,h3⟩:=Zda ho hk;rcases h3 with rfl|⟨h3,h4⟩
  ·exact he e h1 h2
  ·have Zv:i<ops.length:=(List.getElem?_eq_some_iff.1 ho).1;have Qy9:ops[e.on]?=some ops[e.on]:=Zk (by omega)
   exact ih e.on (by omega) _ Qy9 (fun e' g1 g2=>hc e.on _ Qy9 (he e h1 h2) e' g1 g2) k h4
theorem bG:∀ {ops:List Oper} {n:Nat},pY n ops=true→∀ i o,ops[i]?=some o→∀ e∈o.after.toList,Region.binds .any e=true→e.on<n+i
 | [],n,_,i,o,ho=>by simp at ho
 | x::r,n,h,i,o,ho=>by
  simp only [pY,Zg,List.all_eq_true,Bool.or_eq_true,Bool.not_eq_true',decide_eq_true_eq] at h;cases i with
  | zero =>
   simp only [List.getElem?_cons_zero,Zb] at ho;subst ho;intro e he hb;rcases h.1 e he with h1|h1
   ·rw [hb] at h1;cases h1
   ·exact h1
  | succ i =>
   simp only [List.getElem?_cons_succ] at ho;intro e he hb;have:=bG h.2 i o ho e he hb;omega
theorem oF {l:Array Bool} {i:Nat} (h:i<l.size):l.getD i true=l.getD i false:=by simp [h]
theorem Qeu (K:Co P C) (hC:C.dp=1) {ops:Array Oper} (hE:pY 0 ops.toList=true) {N:Exit→Act→World→Prop}:∀ (n:Nat) (l:List (Nat×List Nat×Bool)) (listed:Array Bool) (s t:AS) (a:Act) (w:World),l.length=n →
  listed.size=ops.size→(∀ i,i<ops.size→(listed.getD i false=false↔∃ q∈l,q.1=i))→(∀ q∈l,q.1<ops.size)→(l.map (·.1)).Nodup→Qii ops.toList listed→Tr C ops.toList l s t →
  l.Pairwise (fun p q=>Qb1 ops.toList p q∨((eB ops.toList).getD q.1 0).testBit p.1=true)→SR base pass F0 s a w→(∀ a w,SR base pass F0 t a w→N .normal a w)→wpAny P .any ops N n listed a w:=by
 intro n
 induction n with
 | zero =>
  intro l listed s t a w hl My Qpm Zv qF Qmt Zmr Qv9 hs hN;have:l=[]:=List.eq_nil_of_length_eq_zero hl;subst this;cases Zmr;refine ⟨?_,hN a w hs⟩;cases hr:Region.ready .any ops listed with
  | nil=>rfl
  | cons j r =>
   have hj:j∈Region.ready .any ops listed:=by rw [hr];simp
   obtain ⟨h1,o,ho,_⟩:=mem_ready.1 hj;have C6:j<ops.size:=(Array.getElem?_eq_some_iff.1 ho).1;rw [oF (by omega)] at h1
   obtain ⟨q,hq,_⟩:=(Qpm j C6).1 h1;cases hq
 | succ n ih =>
  intro l listed s t a w hl My Qpm Zv qF Qmt Zmr Qv9 hs hN;refine ⟨fun Qk6=>?_,fun i hi=>?_⟩
  ·
   exfalso;have ex:∀ m i,i≤m→i<ops.size→listed.getD i false=false→∃ j,j∈Region.ready .any ops listed:=by
    intro m
    induction m with
    | zero =>
     intro i Jbf Ai hu;refine ⟨i,mem_ready.2 ⟨by rw [oF (by omega)];exact hu,ops[i],by simp [Ai],fun e he hb=>?_⟩⟩
     have:=bG hE i ops[i] (by simp [Ai]) e (by simpa using he) hb
     omega
    | succ m ihm =>
     intro i Jbf Ai hu;by_cases Od:∀ e∈ops[i].after,Region.binds .any e=true→listed.getD e.on false=true
     ·exact ⟨i,mem_ready.2 ⟨by rw [oF (by omega)];exact hu,ops[i],by simp [Ai],Od⟩⟩
     ·have:∃ e,e∈ops[i].after∧Region.binds .any e=true∧listed.getD e.on false=false:=by
       apply Classical.byContradiction;intro Jl;apply Od;intro e he hb;cases hx:listed.getD e.on false with
       | true=>rfl
       | false=>exact absurd ⟨e,he,hb,hx⟩ Jl
      obtain ⟨e,he,hb,hx⟩:=this;have:=bG hE i ops[i] (by simp [Ai]) e (by simpa using he) hb
      exact ihm e.on (by omega) (by omega) hx
   cases l with
   | nil=>simp at hl
   | cons q r =>
    have hq:=Zv q (by simp)
    obtain ⟨j,hj⟩:=ex q.1 q.1 (Zr _) hq ((Qpm q.1 hq).2 ⟨q,by simp,rfl⟩)
    rw [Qk6] at hj;cases hj
  ·obtain ⟨h1,o,ho,Od⟩:=mem_ready.1 hi;have Ai:i<ops.size:=(Array.getElem?_eq_some_iff.1 ho).1;have Zhr:ops.toList[i]?=some o:=by simpa using ho
   rw [oF (by omega)] at h1
   obtain ⟨q,hq,rfl⟩:=(Qpm i Ai).1 h1;obtain ⟨l1,l2,rfl⟩:=List.append_of_mem hq;have Qwu:∀ k∈l1,Qb1 ops.toList k q:=by
    intro k hk;rcases (List.pairwise_append.1 Qv9).2.2 k hk q (by simp) with h|h
    ·exact h
    ·exfalso;have:=Zzc Qmt q.1 q.1 (Zr _) o Zhr (fun e he hb=>Od e (by simpa using he) hb) k.1 h
     have h2:=(Qpm k.1 (Zv k (by simp [hk]))).2 ⟨k,by simp [hk],rfl⟩
     rw [this] at h2;cases h2
   obtain ⟨s1,t',Jg,htr',K8⟩:=Zmr.first hC Qwu;have rest:∀ a w,SR base pass F0 s1 a w→wpAny P .any ops N n (listed.setIfInBounds q.1 true) a w:=by
    intro a w mF;have hnd':q.1∉(l1++l2).map (·.1):=by
     simp only [List.map_append,List.map_cons] at qF;have h2:=List.nodup_append.1 qF;have h3:=List.nodup_cons.1 h2.2.1;simp only [List.map_append,List.mem_append,not_or];exact ⟨fun hx=>h2.2.2 q.1 hx q.1 (by simp) rfl,h3.1⟩
    refine ih (l1++l2) _ s1 t' a w (by simp at hl ⊢;omega) (by simpa using My) (fun i hi=>?_) (fun p hp=>Zv p (by simp at hp ⊢;rcases hp with hp|hp<;>simp [hp])) ?_ ?_ htr' ?_ mF (fun a w h=>hN a w (h.same K8.symm))
    ·by_cases Qwt:q.1=i
     ·subst Qwt;have:(listed.setIfInBounds q.1 true).getD q.1 false=true:=by simp [My,hi]
      rw [this];constructor
      ·intro h;cases h
      ·rintro ⟨p,hp,Jay⟩;exact absurd (List.mem_map.2 ⟨p,hp,Jay⟩) hnd'
     ·rw [getD_set_ne false Qwt,Qpm i hi];constructor
      ·rintro ⟨p,hp,rfl⟩;refine ⟨p,?_,rfl⟩;simp only [List.mem_append,Zs] at hp ⊢;rcases hp with hp|rfl|hp
       ·exact .inl hp
       ·exact absurd rfl Qwt
       ·exact .inr hp
      ·rintro ⟨p,hp,rfl⟩;refine ⟨p,?_,rfl⟩;simp only [List.mem_append,Zs] at hp ⊢;rcases hp with hp|hp
       ·exact .inl hp
       ·exact .inr (.inr hp)
    ·simp only [List.map_append,List.map_cons] at qF ⊢;have h2:=List.nodup_append.1 qF;have h3:=List.nodup_cons.1 h2.2.1;exact List.nodup_append.2 ⟨h2.1,h3.2,fun x hx y hy=>h2.2.2 x hx y (List.mem_cons_of_mem _ hy)⟩
    ·intro j oj dB Qze e he hb;by_cases Qzf:q.1=j
     ·subst Qzf;rw [Zhr] at dB;injection dB with dB
      subst dB;exact getD_set_true (Od e (by simpa using he) hb)
     ·rw [getD_set_ne false Qzf] at Qze;exact getD_set_true (Qmt j oj dB Qze e he hb)
    ·have h2:=List.pairwise_append.1 Qv9;have h3:=List.pairwise_cons.1 h2.2.1;exact List.pairwise_append.2 ⟨h2.1,h3.2,fun x hx y hy=>h2.2.2 x hx y (List.mem_cons_of_mem _ hy)⟩
   obtain ⟨o',ho',Ir⟩:=Jg;rw [Zhr] at ho';injection ho' with ho'
   subst ho';unfold wpOp;simp only [ho];obtain ⟨m,G,Qjc⟩:=hs;rcases Ir with Ir|⟨hg,_,_,c,x,os,e1,hc,rfl⟩|⟨hg,_,bc,x,rs,⟨b1,b2,b3,b4,b5,b6,b7⟩,_,rfl⟩
   ·cases Oc:o.guard with
    | none=>simp only [Oc] at Ir
    | some jw =>
     obtain ⟨j,want⟩:=jw;simp only [Oc] at Ir;obtain ⟨g1,_,_,rfl⟩:=Ir;have hw:¬ Region.wanted o (yielded ops a.tmps)=true:=by
      cases Cq:Xu ops.toList s j with
      | b t1 b =>
       rw [Cq] at g1;have hy:=Az Qjc Cq;have hy':yielded ops a.tmps j=some b:=by simpa using hy
       simp only [GV.skips] at g1;simp [Region.wanted,Oc,hy',g1]
      | und =>
       have hy:=Zdv Qjc Cq;have hy':yielded ops a.tmps j=none:=by simpa using hy
       simp [Region.wanted,Oc,hy']
      | no=>rw [Cq] at g1;exact g1.elim
     rw [if_neg hw];refine rest _ _ ⟨m,G,?_⟩;have hp:=Qjc.putO (t:=o.dst) (x:=.d (.tup [])) (v:=undef) wC;unfold AS.put;exact hp
   ·have hw:Region.wanted o (yielded ops a.tmps)=true:=by
     cases Oc:o.guard with
     | none=>simp [Region.wanted,Oc]
     | some jw =>
      obtain ⟨j,want⟩:=jw;simp only [Oc] at hg;cases Cq:Xu ops.toList s j with
      | b t1 b =>
       rw [Cq] at hg;simp only [GV.runs] at hg;subst hg;have hy:=Az Qjc Cq;have hy':yielded ops a.tmps j=some b:=by simpa using hy
       simp [Region.wanted,Oc,hy']
      | und=>rw [Cq] at hg;exact hg.elim
      | no=>rw [Cq] at hg;exact hg.elim
    rw [if_pos hw];refine .inl (Zjq K Qjc e1 hc (fun v w' m' G' hs' hz=>rest _ _ ⟨m',G',?_⟩));have:=hs'.putO (t:=o.dst) hz;unfold AS.put;exact this
   ·have hw:Region.wanted o (yielded ops a.tmps)=true:=by
     cases Oc:o.guard with
     | none=>simp [Region.wanted,Oc]
     | some jw =>
      obtain ⟨j,want⟩:=jw;simp only [Oc] at hg;cases Cq:Xu ops.toList s j with
      | b t1 b =>
       rw [Cq] at hg;simp only [GV.runs] at hg;subst hg;have hy:=Az Qjc Cq;have hy':yielded ops a.tmps j=some b:=by simpa using hy
       simp [Region.wanted,Oc,hy']
      | und=>rw [Cq] at hg;exact hg.elim
      | no=>rw [Cq] at hg;exact hg.elim
    rw [if_pos hw];refine .inl (Zl6 K Qjc b1 b2 b3 b4 b6 b7 (fun v w' m' G' hs' hz=>rest _ _ ⟨m',G',?_⟩));have:=hs'.putO (t:=o.dst) hz;unfold AS.put;exact this
theorem yR {ms:List Nat}:∀ {acc:List (Nat×List Nat×Bool)},Qba ms acc=true→acc.Pairwise (fun q p=>(∀ k,k∈p.2.1→k∉q.2.1)∨(p.2.2=true∧q.2.2=true)∨(ms.getD q.1 0).testBit p.1=true)
 | [],_=>List.Pairwise.nil
 | (i,fi,ri)::r,h=>by
  simp only [Qba,Zg,List.all_eq_true,Bool.or_eq_true] at h;refine List.pairwise_cons.2 ⟨fun p hp=>?_,yR h.2⟩;rcases h.1 p hp with (h1|h1)|h1
  ·exact .inr (.inr h1)
  ·refine .inl fun k hk Qol=>?_;have:=h1 k Qol;simp [hk] at this
  ·exact .inr (.inl ⟨h1.2,h1.1⟩)
theorem sP {rs0:List Nat}:∀ {ks:List Nat} {l:List Obj} {o:Qh},Jd rs0 ks l o→l.length≤ks.length
 | _,[],_,_=>by simp
 | [],_::_,_,h=>by simp [Jd] at h
 | k::ks,x::l,o,h=>by
  simp only [Jd] at h;have:=sP h.2;simp only [Zi];omega
theorem Cf {ops:List Oper} {Kp:AS→Prop}:∀ (r:List Oper) (i:Nat) (acc:List (Nat×List Nat×Bool)) (s:AS),(∀ j,r[j]?=ops[i+j]?)→K7 C ops i r acc Kp s →
  ∃ l t acc',Tr C ops l s t∧Qm7 ops acc'=true∧Kp t∧l.map (·.1)=List.range' i r.length ∧
   (∃ d,acc'=d++acc∧d.reverse.Sublist l∧∀ q∈l,q∉d→q.2.1=[]∧q.2.2=true)
 | [],i,acc,s,_,h=>by
  simp only [K7] at h;exact ⟨[],s,acc,.nil s,h.1,h.2,rfl,[],rfl,List.Sublist.refl _,by simp⟩
 | o::r,i,acc,s,hr,h=>by
  have ho:ops[i]?=some o:=by have:=hr 0;simpa using this.symm
  have hr':∀ j,r[j]?=ops[i+1+j]?:=fun j=>by have:=hr (j+1);simpa [Nat.add_assoc,Nat.add_comm 1] using this
  have exec:∀ s,cT C o (fun fp ro=>K7 C ops (i+1) r ((i,fp,ro)::acc) Kp) s→(match o.guard with
    | none=>True
    | some (j,want)=>(Xu ops s j).runs want)→∃ l t acc',Tr C ops l s t∧Qm7 ops acc'=true∧Kp t∧l.map (·.1)=List.range' i (o::r).length ∧
   (∃ d,acc'=d++acc∧d.reverse.Sublist l∧∀ q∈l,q∉d→q.2.1=[]∧q.2.2=true):=by
   intro s h hg;unfold cT at h;split at h
   ·next bc args hbo =>
    obtain ⟨x,rs,h1,rfl,h3,h4,h5,h6,h7⟩:=h;obtain ⟨l,t,acc',k1,k2,k3,k4,d,k5,k6,k7⟩:=Cf r (i+1) _ _ hr' h7;refine ⟨(i,rs.map (· % 4096),false)::l,t,acc',.cons ⟨o,ho,.inr (.inr ⟨hg,rfl,bc,x,rs,⟨hbo,h1,h3,h4,sP h5,h5,h6⟩,rfl,rfl⟩)⟩ k1,k2,k3,by simp [k4,List.range'],d++[(i,rs.map (· % 4096),false)],by simp [k5],by simpa using k6,fun q hq Qb4=>?_⟩
    simp only [List.mem_append,Zt,not_or] at Qb4;rcases Zs.1 hq with rfl|hq
    ·exact absurd rfl Qb4.2
    ·exact k7 q hq Qb4.1
   ·split at h
    ·next c x os hs =>
     obtain ⟨l,t,acc',k1,k2,k3,k4,d,k5,k6,k7⟩:=Cf r (i+1) _ _ hr' h.2;refine ⟨(i,Ce C o s,Iy o.op)::l,t,acc',.cons ⟨o,ho,.inr (.inl ⟨hg,rfl,rfl,c,x,os,hs,h.1,rfl⟩)⟩ k1,k2,k3,by simp [k4,List.range'],d++[(i,Ce C o s,Iy o.op)],by simp [k5],by simpa using k6,fun q hq Qb4=>?_⟩
     simp only [List.mem_append,Zt,not_or] at Qb4;rcases Zs.1 hq with rfl|hq
     ·exact absurd rfl Qb4.2
     ·exact k7 q hq Qb4.1
    ·exact h.elim
  simp only [K7] at h;split at h
  ·next hg=>exact exec s h (by simp only [hg])
  ·next j want hg =>
   split at h
   ·next t b Cq =>
    obtain ⟨g,g1,g2,g3,g4⟩:=bB Cq;have K8:({ s with tmps:=s.tmps.set t (.d (.bool b)) }:AS)=s:=by rw [Zi3 g4 g3]
    by_cases hb:b=want
    ·have:=h.1 hb;rw [←hb,K8] at this;exact exec s this (by simp only [hg,Cq,GV.runs];exact hb)
    ·have hb':b=!want:=by cases b<;>cases want<;>simp_all
     have:=h.2 hb';rw [←hb',K8] at this;obtain ⟨l,t',acc',k1,k2,k3,k4,d,k5,k6,k7⟩:=Cf r (i+1) _ _ hr' this;refine ⟨(i,[],true)::l,t',acc',.cons ⟨o,ho,.inl ?_⟩ k1,k2,k3,by simp [k4,List.range'],d,k5,k6.cons _,fun q hq Qb4=>?_⟩
     ·simp only [hg,Cq];exact ⟨hb,by simp⟩
     ·rcases Zs.1 hq with rfl|hq
      ·exact ⟨rfl,rfl⟩
      ·exact k7 q hq Qb4
   ·next Cq =>
    obtain ⟨l,t',acc',k1,k2,k3,k4,d,k5,k6,k7⟩:=Cf r (i+1) _ _ hr' h;refine ⟨(i,[],true)::l,t',acc',.cons ⟨o,ho,.inl ?_⟩ k1,k2,k3,by simp [k4,List.range'],d,k5,k6.cons _,fun q hq Qb4=>?_⟩
    ·simp only [hg,Cq];exact ⟨trivial,by simp⟩
    ·rcases Zs.1 hq with rfl|hq
     ·exact ⟨rfl,rfl⟩
     ·exact k7 q hq Qb4
   ·exact h.elim
theorem Zfo {ops:List Oper} (h:Zfp ops=true) {i k:Nat} {x y:Oper} (hk:ops[k]?=some x) (hi:ops[i]?=some y) (Zv:k<i):((eB ops).getD i 0).testBit k=true∨Fo ops x y=true:=by
 simp only [Zfp,List.all_eq_true,List.mem_range,Bool.or_eq_true] at h;have:=h i (List.getElem?_eq_some_iff.1 hi).1 k Zv;rw [hk,hi] at this;exact this
theorem Zyw (K:Co P C) (hC:C.dp=1) {ops:Array Oper} {N:AS→Prop} {Q:Exit→Act→World→Prop} (hQ:∀ st a w,SR base pass F0 st a w→N st→Q .normal a w) {s:AS} (h:SR base pass F0 s a w)
  (hn:K7 C ops.toList 0 ops.toList [] N s):wpAny P .any ops Q ops.size (Array.replicate ops.size false) a w:=by
 obtain ⟨l,t,d,k1,k2,k3,k4,d',k5,k6,k7⟩:=Cf ops.toList 0 [] s (fun j=>by simp) hn
 simp only [List.append_nil] at k5;subst k5;simp only [Qm7,Zg] at k2;obtain ⟨⟨e1,e2⟩,e3⟩:=k2;have Q5:l.length=ops.size:=by have:=congrArg List.length k4;simpa using this
 have Yn:∀ i,(∃ q∈l,q.1=i)↔i<ops.size:=by
  intro i;have:i∈l.map (·.1)↔i<ops.size:=by rw [k4];simp
  rw [←this,List.mem_map]
 have qF:(l.map (·.1)).Nodup:=by rw [k4,←List.range_eq_range'];exact List.nodup_range
 refine Qeu K hC e1 ops.size l _ s t a w Q5 (by simp) (fun i hi=>?_) (fun q hq=>(Yn q.1).1 ⟨q,hq,rfl⟩) qF (fun i o ho hl=>?_) k1 ?_ h (fun a w hs=>hQ t a w hs k3)
 ·simp [hi,Yn i]
 ·rcases Nat.lt_or_ge i ops.size with Zv|aY
  ·simp [Zv] at hl
  ·simp [Nat.not_lt.2 aY] at hl
 ·
  have Qs3:l.Pairwise (fun p q=>p.1<q.1):=by
   have:(l.map (·.1)).Pairwise (·<·):=by rw [k4,←List.range_eq_range'];exact List.pairwise_lt_range
   exact List.pairwise_map.1 this
  have Ze8:=yR e3;have hd:d.reverse.Pairwise (fun p q=>(∀ k,k∈p.2.1→k∉q.2.1)∨(p.2.2=true∧q.2.2=true)∨((eB ops.toList).getD q.1 0).testBit p.1=true):=List.pairwise_reverse.2 Ze8;have Od:∀ p∈l,∀ q∈l,p.1<q.1→(∀ k,k∈p.2.1→k∉q.2.1)∨(p.2.2=true∧q.2.2=true)∨((eB ops.toList).getD q.1 0).testBit p.1=true:=by
   intro p hp q hq Zv;by_cases Qy8:p∈d
   ·by_cases Qb4:q∈d
    ·
     have hs:d.reverse.Pairwise (fun p q=>p.1<q.1):=Qs3.sublist k6;have both:∀ {R:Nat×List Nat×Bool→Nat×List Nat×Bool→Prop} {L:List (Nat×List Nat×Bool)},L.Pairwise R→L.Pairwise (fun p q=>p.1<q.1)→∀ p∈L,∀ q∈L,p.1<q.1→R p q:=by
      intro R L
      induction L with
      | nil=>intro _ _ p hp;cases hp
      | cons x L ihL =>
       intro h1 h2 p hp q hq Zv;rw [List.pairwise_cons] at h1 h2;rcases Zs.1 hp with Qur|hp'
       ·rcases Zs.1 hq with Qsy|hq'
        ·subst Qur;subst Qsy;omega
        ·subst Qur;exact h1.1 q hq'
       ·rcases Zs.1 hq with Qsy|hq'
        ·subst Qsy;have:=h2.1 p hp';omega
        ·exact ihL h1.2 h2.2 p hp' q hq' Zv
     exact both hd hs p (by simpa using Qy8) q (by simpa using Qb4) Zv
    ·obtain ⟨q1,_⟩:=k7 q hq Qb4;exact .inl fun k _ hk=>by rw [q1] at hk;cases hk
   ·obtain ⟨q1,_⟩:=k7 p hp Qy8;exact .inl fun k hk=>by rw [q1] at hk;cases hk
  refine Qs3.imp_of_mem fun {p q} hp hq Zv=>?_;have qE:=(Yn p.1).1 ⟨p,hp,rfl⟩;have Zhp:=(Yn q.1).1 ⟨q,hq,rfl⟩;rcases Zfo e2 (k:=p.1) (i:=q.1) (x:=ops[p.1]) (y:=ops[q.1]) (by simp [qE]) (by simp [Zhp]) Zv with hb|Qtx
  ·exact .inr hb
  ·rcases Od p hp q hq Zv with h1|h1|h1
   ·refine .inl ⟨fun x y hx hy=>?_,.inl h1⟩;have hx':ops[p.1]=x:=by simpa [qE] using hx
    have hy':ops[q.1]=y:=by simpa [Zhp] using hy
    rw [←hx',←hy'];exact Qtx
   ·refine .inl ⟨fun x y hx hy=>?_,.inr h1⟩;have hx':ops[p.1]=x:=by simpa [qE] using hx
    have hy':ops[q.1]=y:=by simpa [Zhp] using hy
    rw [←hx',←hy'];exact Qtx
   ·exact .inr h1
theorem SR.drew (h:SR base pass F0 st a w):SR base pass F0 st a { w with drawn:=w.drawn+1 }:=by
 obtain ⟨m,G,h⟩:=h;exact ⟨m,G,h.drew⟩
def Qhg:AExit→Exit
 | .normal=>.normal
 | .exit id=>.exit id
 | .ret=>.ret
theorem Zey:∀ {ks:List Nat} {st st':AS} {m:Nat→Nat} {G:Gh},SRg base pass F0 m G st a w→Qpk ks st st'→∃ m' G',SRg base pass F0 m' G' st' a w
 | [],st,st',m,G,h,hw=>⟨m,_,h.weak hw⟩
 | k::ks,st,st',m,G,h,hw=>by
  simp only [Qpk] at hw;cases hp:pur 60 (st.tmps.getD k .dead) st.objs with
  | none=>rw [hp] at hw;exact hw.elim
  | some p =>
   obtain ⟨c,y,os⟩:=p;rw [hp] at hw;simp only at hw;obtain ⟨hc,hw⟩:=hw;have hk:k<st.tmps.length:=by
    refine Nat.lt_of_not_le fun hk=>?_;rw [Zd,List.getElem?_eq_none hk,Option.getD_none] at hp;simp [pur] at hp
   have hx:st.tmps[k]?=some (st.tmps.getD k .dead):=by
    rw [Zd,Zk hk,Option.getD_some]
   obtain ⟨v,hv,hr⟩:=RAs.at h.tmps hx;obtain ⟨m',h',_,_,hy⟩:=Sk h hp hc hr;refine Zey (m:=m') (G:=G) ?_ hw;have ht:RAs ⟨w,m'⟩ G (lk os) (st.tmps.set k (.d y)) (a.tmps.toList.set k v):=RAs.set h'.tmps (by simpa only [RA] using hy)
   have Qvx:a.tmps.toList.set k v=a.tmps.toList:=by
    have hl:k<a.tmps.toList.length:=by
     refine Nat.lt_of_not_le fun hn=>?_;rw [List.getElem?_eq_none hn] at hv;cases hv
    rw [Zk hl] at hv;injection hv with hv
    rw [←hv,List.set_getElem_self]
   rw [Qvx] at ht;exact ⟨h'.defers,ht,h'.objs,h'.apart,h'.mine,h'.frame,h'.old,h'.new,h'.small,h'.lent⟩
theorem B9 (K:Co P C):∀ (c:Code) {N:AExit→AS→Prop} {Q:Exit→Act→World→Prop} {st:AS} {a:Act} {w:World},
  (∀ e st a w,SR base pass F0 st a w→N e st→Q (Qhg e) a w)→SR base pass F0 st a w→Tw C c N st→c.wp P Q a w
 | .skip,N,Q,st,a,w,hQ,h,hn=>wp_skip (hQ .normal st a w h hn)
 | .region id ops false,N,Q,st,a,w,hQ,h,hn=>by
  simp only [Tw] at hn;refine wp_region_list ?_;have:=N8 (P:=P) K (Q:=Q) (hQ .normal) ops.toList st a w h hn;simpa using this
 | .region id ops true,N,Q,st,a,w,hQ,h,hn=>by
  simp only [Tw] at hn;refine wp_region_any K.2.2.1 (Zyw (C:=C.one) ⟨K.1,K.2.1,K.2.2.1,K.2.2.2⟩ rfl (hQ .normal) h.drew hn)
 | .seq x y,N,Q,st,a,w,hQ,h,hn=>by
  simp only [Tw] at hn;refine wp_seq (B9 K x ?_ h hn);intro e st a w hs he;cases e with
  | normal=>exact B9 K y hQ hs he
  | exit id=>exact hQ (.exit id) st a w hs he
  | ret=>exact hQ .ret st a w hs he
 | .cond c x y,N,Q,st,a,w,hQ,h,hn=>by
  simp only [Tw] at hn;split at hn
  ·next b hb =>
   obtain ⟨m,G,hs⟩:=h;have hr:=Yx (C:=C) (hint:=0) hs.tmps c;rw [hb] at hr;simp only [RA] at hr;have hv:=hr.of_bool hn.1;exact wp_cond_split hv (fun ht=>B9 K x hQ ⟨m,G,hs⟩ (hn.2.1 ht)) (fun hf=>B9 K y hQ ⟨m,G,hs⟩ (hn.2.2 hf))
  ·exact hn.elim
 | .block id c,N,Q,st,a,w,hQ,h,hn=>by
  simp only [Tw] at hn;refine wp_block (B9 K c ?_ h hn);intro e st a w hs he;cases e with
  | normal=>exact hQ .normal st a w hs he
  | exit id' =>
   simp only [Zao] at he;simp only [Qhg,Exit.inBlock];split
   ·next hid=>rw [if_pos hid] at he;exact hQ .normal st a w hs he
   ·next hid=>rw [if_neg hid] at he;exact hQ (.exit id') st a w hs he
  | ret=>exact hQ .ret st a w hs he
 | .loop c,N,Q,st,a,w,hQ,h,hn=>by
  simp only [Tw] at hn;obtain ⟨α,inv,ok,μ,rel,hrel,⟨x0,Qvw,Qwh⟩,Qn9⟩:=hn;obtain ⟨m,G,hs⟩:=h;obtain ⟨ks,Qvw⟩:=Qvw;obtain ⟨m,G,hs⟩:=Zey hs Qvw;refine wp_loop_ghost (fun n a w=>∃ x,ok x∧μ x=n∧SR base pass F0 (inv x) a w) (μ x0) ⟨x0,Qwh,rfl,m,G,hs⟩ ?_;rintro n a w ⟨x,Vt,rfl,Qv1⟩;refine B9 K c ?_ Qv1 (Qn9 x Vt);intro e st a w hs he;cases e with
  | normal =>
   obtain ⟨x',hw',hok',Zv⟩:=he;obtain ⟨m',G',hs'⟩:=hs;obtain ⟨m2,G2,aX⟩:=hs'.back (hrel _ _ hw');exact ⟨μ x',Zv,x',hok',rfl,m2,G2,aX⟩
  | exit id=>exact hQ (.exit id) st a w hs he
  | ret=>exact hQ .ret st a w hs he
 | .exit id,N,Q,st,a,w,hQ,h,hn=>wp_exit (hQ (.exit id) st a w h hn)
 | .ret,N,Q,st,a,w,hQ,h,hn=>wp_ret (hQ .ret st a w h hn)
 | .rangeFunc ..,_,_,_,_,_,_,_,hn=>by simp [Tw] at hn
 | .scope _,_,_,_,_,_,_,_,hn=>by simp [Tw] at hn
 | .label _,_,_,_,_,_,_,_,hn=>by simp [Tw] at hn
 | .goto _,_,_,_,_,_,_,_,hn=>by simp [Tw] at hn
 | .refuse _,_,_,_,_,_,_,_,hn=>by simp [Tw] at hn
end
def Zcx (C:Ctx) (st:AS):ResultVar→Option (Prop×AV)
 | .tmp t=>some (True,st.tmps.getD t .dead)
 | .cell t T=>match kX C T (st.tmps.getD t .dead) st.objs with
  | some (c,x,_)=>some (c,x)
  | none=>none
def aP (C:Ctx) (st:AS):List ResultVar→Option (Prop×List AV)
 | []=>some (True,[])
 | r::rs=>match Zcx C st r,aP C st rs with
  | some (c,x),some (c',l)=>some (c∧c',x::l)
  | _,_=>none
def Zjb (C:Ctx) (rs:List ResultVar) (outs:List Bool) (r:CV) (st:AS):Prop:=match aP C st rs with
 | some (c,xs)=>match Vv C outs xs st.objs with
  | some (c',Ji,_)=>c∧c'∧match Ji with
   | [x]=>x=r
   | l=>CV.tup l=r
  | none=>False
 | none=>False
def Qk0 (C:Ctx) (rs:List ResultVar) (outs:List Bool) (r:CV):AExit→AS→Prop
 | .exit _,_=>False
 | _,st=>Zjb C rs outs r st
def Yz:Nat→List CV→List AV×Qh
 | _,[]=>([],[])
 | k,.d x::r=>(.d x::(Yz (k+1) r).1,(Yz (k+1) r).2)
 | k,.own s l::r=>(.sl k l.length::(Yz (k+1) r).1,(k,.row s l 0)::(Yz (k+1) r).2)
 | k,.tup _::r=>(.dead::(Yz (k+1) r).1,(Yz (k+1) r).2)
def Dc:Nat→List AV
 | 0=>[]
 | n+1=>.dead::Dc n
def jQ (n:Nat) (Ji:List CV):AS:=⟨(Yz 80000 Ji).1++Dc (n-Ji.length),(Yz 80000 Ji).2⟩
theorem vD:∀ {o:Qh} {k:Nat} {x:Obj},lk o k=none→upd o k x=o++[(k,x)]
 | [],_,_,_=>rfl
 | (j,p)::r,k,x,h=>by
  simp only [lk] at h;by_cases Qk9:k=j
  ·rw [if_pos Qk9] at h;cases h
  ·rw [if_neg Qk9] at h;simp only [upd,if_neg Qk9,List.cons_append,vD h]
theorem fD {base:Nat} {pass:Nat→Prop} {F0:Anc} {m:Nat→Nat} {w:World}:∀ {Ji:List CV} {vs:List Value} {k:Nat} {os:Qh} {G:Gh},SRg base pass F0 m G ⟨[],os⟩ ⟨#[],[]⟩ w→Uw ⟨w,m⟩ Ji vs→(Jc Ji vs).Nodup →
  (∀ b∈Jc Ji vs,(base≤b∨pass b)∧∀ i oi,lk os i=some oi→oi.owns=true→G.γ i≠some b)→(∀ j,k≤j→lk os j=none) →
  ∃ G',G8 G (lk os) G' (lk (os++(Yz k Ji).2))∧SRg base pass F0 m G' ⟨[],os++(Yz k Ji).2⟩ ⟨#[],[]⟩ w∧RAs ⟨w,m⟩ G' (lk (os++(Yz k Ji).2)) (Yz k Ji).1 vs
 | [],vs,k,os,G,h,hc,_,_,_=>by
  simp only [Uw] at hc;subst hc;simp only [Yz,List.append_nil];exact ⟨G,G8.refl _ _,h,by simp [RAs]⟩
 | .tup l::Ji,vs,k,os,G,h,hc,_,_,_=>by
  simp only [Uw,Ze1] at hc;obtain ⟨_,_,_,hf,_⟩:=hc;exact hf.elim
 | .d x::Ji,vs,k,os,G,h,hc,hn,hb,hk=>by
  simp only [Uw,Ze1] at hc;obtain ⟨v,r,rfl,hx,dM⟩:=hc;obtain ⟨G',q1,q2,q3⟩:=fD (k:=k+1) h dM (by simpa [Jc] using hn) (fun b M9=>hb b (by simpa [Jc] using M9)) (fun j hj=>hk j (by omega))
  simp only [Yz];refine ⟨G',q1,q2,?_⟩;simp only [RAs,RA];exact ⟨v,r,rfl,hx,q3⟩
 | .own s l::Ji,vs,k,os,G,h,hc,hn,hb,hk=>by
  simp only [Uw,Ze1] at hc;obtain ⟨v,r,rfl,hx,dM⟩:=hc;have mE:Jc (.own s l::Ji) (v::r)=v.ownBlock.toList++Jc Ji r:=rfl;rw [mE] at hn hb;obtain ⟨n1,n2,n3⟩:=List.nodup_append.1 hn;have kH:=hk k (Zr _);obtain ⟨G1,q1,q2,q3,q4,q5⟩:=h.adopt kH hx (fun b M9=>hb b (List.mem_append_left _ (by simp [M9])))
  rw [vD kH] at q1 q2 q3;obtain ⟨G',p1,p2,p3⟩:=fD (k:=k+1) (os:=os++[(k,.row s l 0)]) q2 dM n2 (fun b M9=>by
   refine ⟨(hb b (List.mem_append_right _ M9)).1,fun i oi hi ho hg=>?_⟩;rw [←vD kH,Xw] at hi;by_cases Qom:i=k
   ·subst Qom;exact n3 b (by simp [q5 b hg]) b M9 rfl
   ·rw [if_neg Qom] at hi;rw [q4 i Qom] at hg;exact (hb b (List.mem_append_right _ M9)).2 i oi hi ho hg) (fun j hj=>by
   rw [←vD kH,Xw,if_neg (by omega)]
   exact hk j (by omega))
  simp only [Yz];simp only [List.append_assoc,List.singleton_append] at p1 p2 p3;refine ⟨G',?_,p2,?_⟩
  ·intro j o hj;obtain ⟨oa,a1,a2,a3⟩:=q1 j o hj;obtain ⟨ob,b1,b2,b3⟩:=p1 j oa a1;refine ⟨ob,b1,fun Qlb=>?_,fun s' els' k' he=>?_⟩
   ·obtain ⟨u1,u2⟩:=b2 Qlb;obtain ⟨u3,u4⟩:=a2 u1;exact ⟨u3,u2.trans u4⟩
   ·obtain ⟨els1,kk1,e1,e2,e3⟩:=b3 s' els' k' he;obtain ⟨els2,kk2,f1,f2,f3⟩:=a3 s' els1 kk1 e1;refine ⟨els2,kk2,f1,Nat.le_trans f2 e2,fun hl=>?_⟩;obtain ⟨u1,u2⟩:=e3 (by omega)
    obtain ⟨u3,u4⟩:=f3 (by omega)
    exact ⟨u1.trans u3,u2.trans u4⟩
  ·simp only [RAs];exact ⟨v,r,rfl,RA.mono (Fix.le_refl _) p1 q3,p3⟩
theorem Uw.length {F:Fix}:∀ {l:List CV} {vs:List Value},Uw F l vs→vs.length=l.length
 | [],_,h=>by simp only [Uw] at h;simp [h]
 | _::l,_,h=>by
  simp only [Uw] at h;obtain ⟨v,r,rfl,_,h3⟩:=h;simp [Uw.length h3]
theorem fQ {F:Fix} {G:Gh} {L:Nat→Option Obj}:∀ n,RAs F G L (Dc n) (List.replicate n undef)
 | 0=>by simp [Dc,RAs]
 | n+1=>by simp only [Dc,List.replicate_succ,RAs,RA];exact ⟨undef,_,rfl,trivial,fQ n⟩
def Zfv (a:Act):ResultVar→Sem Value
 | .tmp t=>pure (a.tmps.getD t undef)
 | .cell t T=>do loadVar T (←asAddr (a.tmps.getD t undef))
theorem Zxe {P:Program} {w:World} {T:TypeId} {v v':Value} (h:(Instr.loadAt T v).run P w=.ok v' w):(do loadVar T (←asAddr v):Sem Value).run P w=.ok v' w:=by
 cases v with
 | pointer a =>
  cases a with
  | none=>simp [Instr.loadAt,Instr.sureAddr] at h
  | some a=>simpa [Instr.loadAt,Instr.sureAddr,asAddr] using h
 | _=>simp [Instr.loadAt,Instr.sureAddr] at h
section
variable {P:Program} {C:Ctx} {base:Nat} {pass:Nat→Prop} {F0:Anc} {m:Nat→Nat} {G:Gh} {st:AS} {a:Act} {w:World}
theorem Zjc (T:Yd P C.τ) (h:SRg base pass F0 m G st a w) {r:ResultVar} {c:Prop} {x:AV}
  (hr:Zcx C st r=some (c,x)) (hc:c):∃ v,(Zfv a r).run P w=.ok v w∧RA ⟨w,m⟩ G (lk st.objs) x v:=by
 cases r with
 | tmp t =>
  simp only [Zcx,Zb,Zc] at hr;obtain ⟨rfl,rfl⟩:=hr;exact ⟨_,rfl,Yx (C:=C) (hint:=0) h.tmps (.tmp t)⟩
 | cell t T' =>
  simp only [Zcx] at hr;split at hr
  ·next c1 y os hl =>
   simp only [Zb,Zc] at hr;obtain ⟨rfl,rfl⟩:=hr;have hp:=Yx (C:=C) (hint:=0) h.tmps (.tmp t);obtain ⟨_,v,r1,r2⟩:=Qav (P:=P) T h hp hl hc;exact ⟨v,Zxe r1,r2⟩
  ·cases hr
theorem aO (T:Yd P C.τ) (h:SRg base pass F0 m G st a w):∀ {rs:List ResultVar} {c:Prop} {xs:List AV},aP C st rs=some (c,xs)→c →
  ∃ vs,(rs.mapM (Zfv a)).run P w=.ok vs w∧RAs ⟨w,m⟩ G (lk st.objs) xs vs
 | [],c,xs,hr,hc=>by
  simp only [aP,Zb,Zc] at hr;obtain ⟨rfl,rfl⟩:=hr;exact ⟨[],by simp,by simp [RAs]⟩
 | r::rs,c,xs,hr,hc=>by
  simp only [aP] at hr;split at hr
  ·next c1 x c2 l h1 h2 =>
   simp only [Zb,Zc] at hr;obtain ⟨rfl,rfl⟩:=hr;obtain ⟨v,e1,e2⟩:=Zjc T h h1 hc.1;obtain ⟨vs,g1,g2⟩:=aO T h h2 hc.2;refine ⟨v::vs,by simp [List.mapM_cons,e1,g1],?_⟩
   simp only [RAs];exact ⟨v,vs,rfl,e2,g2⟩
  ·cases hr
def xC:List Value→Value
 | [v]=>v
 | vs=>.tuple vs.toArray
theorem sT {fn:Func} {vs:List Value} (h:(fn.results.toList.mapM (Zfv a)).run P w=.ok vs w):(results fn a.tmps).run P w=.ok (xC vs) w:=by
 have e:results fn a.tmps=(do
   let us ←List.toArray <$> fn.results.toList.mapM (Zfv a)
   pure (if h:us.size=1 then us[0] else .tuple us)):=by
  unfold results
  congr 1
  rw [Array.mapM_eq_mapM_toList];rfl
 rw [e];simp only [Sem.run_bind,Sem.run_map,h,Result.andThen_ok,Sem.run_pure]
 match vs with
 | []=>simp [xC]
 | [v]=>simp [xC]
 | _::_::_=>simp [xC]
theorem Qhc (K:Co P C) {f:FuncId} {fn:Func} {c:Code} {con:Con} (hf:P.funcs[f]?=some fn) (hb:fn.body=some c) (rs:List ResultVar) (Qe8:fn.results.toList=rs) (nt:Nat) (hnt:fn.ntmps=nt)
  (h:∀ Ji,con.pre Ji→Tw C c (Qk0 C rs con.outs (con.fn Ji)) (jQ nt Ji)):Qie P f con:=by
 intro m w Ji vs Zh Znc qF N5;subst hnt;subst Qe8;refine calls_of_wp hf hb ?_;have Zv:∀ (l:List CV) (us:List Value),Uw ⟨w,m⟩ l us→∀ b∈Jc l us,b<w.heap.size:=by
  intro l
  induction l with
  | nil=>intro us hu b hb;simp [Jc] at hb
  | cons x l ih =>
   intro us hu b hb;simp only [Uw] at hu;obtain ⟨u,r,rfl,Zb4,Qn1⟩:=hu;have mE:Jc (x::l) (u::r)=Jc [x] [u]++Jc l r:=by cases x<;>simp [Jc]
   rw [mE] at hb;rcases List.mem_append.1 hb with hb|hb
   ·cases x with
    | own s els =>
     simp [Jc] at hb;exact (Zat.lt Zb4 hb).1
    | _=>simp [Jc] at hb
   ·exact ih r Qn1 b hb
 have h0:SRg w.heap.size (·∈Jc Ji vs) ⟨⟨w,m⟩,⟨fun _=>none,fun _=>undef⟩,fun _=>none⟩ m ⟨fun _=>none,fun _=>undef⟩ ⟨[],[]⟩ ⟨#[],[]⟩ w :=
  ⟨rfl,by simp [RAs],fun i o hi=>by simp [lk] at hi,fun i j oi oj b hi=>by simp [lk] at hi,fun i o b hi=>by simp [lk] at hi,Frame.refl _ _ _,fun _ _ _=>rfl,N5,Zr _,fun i o hi=>by cases hi⟩
 obtain ⟨G,q1,q2,q3⟩:=fD (k:=80000) (os:=[]) h0 Znc qF (fun b hb=>⟨.inr hb,fun i oi hi=>by simp [lk] at hi⟩) (fun _ _=>rfl)
 simp only [List.nil_append] at q1 q2 q3;have Q5:=Uw.length Znc;have hs:SRg w.heap.size (·∈Jc Ji vs) ⟨⟨w,m⟩,⟨fun _=>none,fun _=>undef⟩,fun _=>none⟩ m G (jQ fn.ntmps Ji) { tmps:=vs.toArray++Array.replicate (fn.ntmps-vs.toArray.size) undef,defers:=[] } w:=by
  refine ⟨rfl,?_,q2.objs,q2.apart,q2.mine,q2.frame,q2.old,q2.new,q2.small,q2.lent⟩;have:=RAs.append q3 (fQ (F:=⟨w,m⟩) (G:=G) (L:=lk (Yz 80000 Ji).2) (fn.ntmps-Ji.length));simpa [jQ,Q5] using this
 have fin:∀ (st:AS) (a:Act) (w':World),SR w.heap.size (·∈Jc Ji vs) ⟨⟨w,m⟩,⟨fun _=>none,fun _=>undef⟩,fun _=>none⟩ st a w'→Zjb C fn.results.toList con.outs (con.fn Ji) st →
   a.defers=[]∧∃ v,(results fn a.tmps).run P w'=.ok v w'∧∃ u m',Ending.returned v=.returned u∧Frame w.heap.size (·∈Jc Ji vs) w w'∧(∀ b,b<w.heap.size→b∉Jc Ji vs→m' b=m b) ∧
    (∀ b,w'.heap.size≤b→m' b=0)∧Zm5 ⟨w',m'⟩ w.heap.size (·∈Jc Ji vs) (con.fn Ji) u:=by
  intro st a w' ⟨m1,G1,mF⟩ fM;unfold Zjb at fM;split at fM
  ·next c1 xs Qsx =>
   split at fM
   ·next c2 cvs2 os fN =>
    obtain ⟨qG,Qje,Zzw⟩:=fM;obtain ⟨us,e1,e2⟩:=aO K.1 mF Qsx qG;obtain ⟨m2,k1,k2,k3,k4,k5⟩:=oK mF fN Qje e2;refine ⟨mF.defers,_,sT e1,_,m2,rfl,k1.frame,fun b hb uB=>k1.old b hb uB,k1.new,?_⟩;split at Zzw
    ·next x =>
     simp only [Uw] at k3;obtain ⟨v,r,rfl,hx,rfl⟩:=k3;rw [←Zzw];cases x with
     | tup l=>simp [Ze1] at hx
     | d x =>
      simp only [Zm5];exact ⟨⟨v,[],rfl,hx,rfl⟩,fun b hb=>(k5 b hb).1⟩
     | own s l =>
      simp only [Zm5];exact ⟨⟨v,[],rfl,hx,rfl⟩,fun b hb=>(k5 b hb).1⟩
    ·next Tz =>
     rw [←Zzw];simp only [Zm5];refine ⟨us,?_,k3,k4,fun b hb=>(k5 b hb).1⟩
     match us,Uw.length k3 with
     | [u],hl =>
      match cvs2,hl with
      | [x],_=>exact absurd rfl (Tz x)
     | [],_=>rfl
     | _::_::_,_=>rfl
   ·exact fM.elim
  ·exact fM.elim
 refine B9 K c ?_ ⟨m,G,hs⟩ (h Ji Zh);intro e st a w' Zh3 Zax;cases e with
 | normal=>exact fin st a w' Zh3 Zax
 | ret=>exact fin st a w' Zh3 Zax
 | exit id=>exact Zax.elim
def Zc4:List D→D
 | [d]=>d
 | l=>.tup l
def Qbn (n:Nat) (qs:List Nat):Prop:=∀ j,j<n→qs[j]?=some (90000+j)
def Qgh (C:Ctx) (rs:List ResultVar) (n:Nat) (res:D) (post:List Obj) (st:AS):Prop:=match aP C st rs with
 | some (c,xs)=>match purs C.dp xs st.objs with
  | some (c',ds,os)=>c∧c'∧Zc4 ds=res∧∃ qs:List Nat,qs.Nodup∧qs.length=post.length∧Qbn n qs∧Jd qs qs post os
  | none=>False
 | none=>False
def uK (C:Ctx) (rs:List ResultVar) (n:Nat) (res:D) (post:List Obj):AExit→AS→Prop
 | .exit _,_=>False
 | _,st=>Qgh C rs n res post st
def Qgg (C:Ctx) (rs:List ResultVar) (n j:Nat) (post:List Obj) (st:AS):Prop:=match aP C st rs with
 | some (c,[.mpr k])=>c∧∃ qs:List Nat,qs.Nodup∧qs.length=post.length∧Qbn n qs∧Jd qs qs post st.objs∧qs[j]?=some k
 | _=>False
def Qif (C:Ctx) (rs:List ResultVar) (n j:Nat) (post:List Obj):AExit→AS→Prop
 | .exit _,_=>False
 | _,st=>Qgg C rs n j post st
theorem Qjr {F:Fix} {ds:List D} {us:List Value} (h:Rs F ds us):R F (Zc4 ds) (xC us):=by
 match ds,us,h with
 | [],us,h =>
  simp only [Rs] at h;subst h;simp only [Zc4,xC,R,Rs];exact ⟨[],rfl,rfl⟩
 | [d],us,h =>
  simp only [Rs] at h;obtain ⟨v,r,rfl,h2,rfl⟩:=h;exact h2
 | d::e::l,us,h =>
  have h':=h;simp only [Rs] at h;obtain ⟨v,r,rfl,h2,v',r',rfl,h3,h4⟩:=h;simp only [Zc4,xC,R];exact ⟨_,rfl,h'⟩
theorem Qd2 (K:Co P C) {f:FuncId} {fn:Func} {c:Code} {bc:BCon} (hf:P.funcs[f]?=some fn) (hb:fn.body=some c) (rs:List ResultVar) (Qe8:fn.results.toList=rs) (nt:Nat) (hnt:fn.ntmps=nt)
  (h:∀ x,bc.ok x→Ah (bc.args x) (bc.objs x)∧J4 (bc.objs x)∧Ah [] (bc.post x)∧(bc.objs x).length≤(bc.post x).length ∧
   Tw C c (uK C rs (bc.objs x).length (bc.res x) (bc.post x)) ⟨bc.args x++Dc (nt-(bc.args x).length),Jq (bc.objs x)⟩) (C5:∀ x,bc.out x=none:=by intro _;rfl):Zzg P f bc:=by
 intro x Vt;obtain ⟨h1,h2,h3,h4,h5⟩:=h x Vt;refine ⟨h1,h2,h3,h4,fun m w G vs Zh3=>?_⟩;subst hnt;subst Qe8;refine calls_of_wp hf hb ?_;have Q5:=RAs.length (by simpa using Zh3.tmps:RAs ⟨w,m⟩ G (lk (Jq (bc.objs x))) (bc.args x) vs)
 have hs:SRg w.heap.size (dJ G (bc.objs x)) ⟨⟨w,m⟩,G,lk (Jq (bc.objs x))⟩ m G ⟨bc.args x++Dc (fn.ntmps-(bc.args x).length),Jq (bc.objs x)⟩
   { tmps:=vs.toArray++Array.replicate (fn.ntmps-vs.toArray.size) undef,defers:=[] } w:=by
  refine ⟨rfl,?_,Zh3.objs,Zh3.apart,Zh3.mine,Zh3.frame,Zh3.old,Zh3.new,Zh3.small,Zh3.lent⟩;have:=RAs.append (by simpa using Zh3.tmps:RAs ⟨w,m⟩ G (lk (Jq (bc.objs x))) (bc.args x) vs) (fQ (F:=⟨w,m⟩) (G:=G) (L:=lk (Jq (bc.objs x))) (fn.ntmps-(bc.args x).length))
  simpa [Q5] using this
 have fin:∀ (st:AS) (a:Act) (w':World),SR w.heap.size (dJ G (bc.objs x)) ⟨⟨w,m⟩,G,lk (Jq (bc.objs x))⟩ st a w'→Qgh C fn.results.toList (bc.objs x).length (bc.res x) (bc.post x) st →
   a.defers=[]∧∃ v,(results fn a.tmps).run P w'=.ok v w'∧∃ u m' G',Ending.returned v=.returned u∧RA ⟨w',m'⟩ G' (lk (Jq (bc.post x))) (bc.rv x) u ∧
    SRg w.heap.size (dJ G (bc.objs x)) ⟨⟨w,m⟩,G,lk (Jq (bc.objs x))⟩ m' G' ⟨[],Jq (bc.post x)⟩ ⟨#[],[]⟩ w':=by
  intro st a w' ⟨m1,Gf,mF⟩ fM;unfold Qgh at fM;split at fM
  ·next c1 xs Qsx =>
   split at fM
   ·next c2 ds os hpu =>
    obtain ⟨qG,Qje,Qwa,qs,qF,Zhp,Qoy,Jg⟩:=fM;obtain ⟨us,e1,e2⟩:=aO K.1 mF Qsx qG;obtain ⟨m2,k1,_,k3⟩:=purs_sound' mF hpu Qje e2;have Qla:∀ {j j' k:Nat},qs[j]?=some k→qs[j']?=some k→j=j':=by
     intro j j' k h1 h2;obtain ⟨hj,e1⟩:=List.getElem?_eq_some_iff.1 h1;obtain ⟨hj',e2⟩:=List.getElem?_eq_some_iff.1 h2;have hp:=List.pairwise_iff_getElem.1 qF;rcases Nat.lt_trichotomy j j' with Zv|Zh7|Quz
     ·exact absurd (e1.trans e2.symm) (hp j j' hj hj' Zv)
     ·exact Zh7
     ·exact absurd (e2.trans e1.symm) (hp j' j hj' hj Quz)
    let G':Gh:=⟨fun i=>Gf.γ (rk qs i),fun i=>Gf.hd (rk qs i)⟩
    have al:Alike qs (bc.post x) G' Gf (lk os):=⟨fun i o hi=>by
     obtain ⟨j,rfl,hj⟩:=Vg hi;obtain ⟨k,hk,Zba⟩:=V4 Jg hj;rw [Fs hk];exact Zba,fun i o hi=>⟨rfl,rfl⟩⟩
    refine ⟨mF.defers,_,sT e1,_,m2,G',rfl,by unfold BCon.rv;rw [C5 x];simp only [RA];rw [←Qwa];exact Qjr k3,?_⟩
    constructor
    ·rfl
    ·simp [RAs]
    ·intro i o hi;obtain ⟨j,rfl,hj⟩:=Vg hi;exact (xJ al hi (aD h3.2 hj)).2 (k1.objs _ _ (al.obj _ _ hi))
    ·intro i i' o o' b hi hi' ho ho' hb hb';have e:=k1.apart _ _ _ _ b (al.obj _ _ hi) (al.obj _ _ hi') (by rw [Nj];exact ho) (by rw [Nj];exact ho') hb hb'
     obtain ⟨j,rfl,hj⟩:=Vg hi;obtain ⟨j',rfl,hj'⟩:=Vg hi';obtain ⟨k,hk,_⟩:=V4 Jg hj;obtain ⟨k',hk',_⟩:=V4 Jg hj';rw [Fs hk,Fs hk'] at e;subst e;rw [Qla hk hk']
    ·intro i o b hi ho hb;exact k1.mine _ _ b (al.obj _ _ hi) (by rw [Nj];exact ho) hb
    ·exact k1.frame
    ·exact k1.old
    ·exact k1.new
    ·exact k1.small
    ·intro i o hi;obtain ⟨aY,o',ho',hw⟩:=k1.lent i o hi;obtain ⟨j,rfl,hj⟩:=Vg hi;have Qtj:j<(bc.objs x).length:=(List.getElem?_eq_some_iff.1 hj).1;have Qwr:j<(bc.post x).length:=by omega
     have hp:=Zk (l:=bc.post x) Qwr;obtain ⟨k,hk,Zba⟩:=V4 Jg hp;rw [Qoy j Qtj] at hk;injection hk with hk
     subst hk;simp only at ho';rw [Zba] at ho';injection ho' with ho'
     subst ho';have eg:G'.γ (90000+j)=Gf.γ (90000+j):=by show Gf.γ (rk qs (90000+j))=_;rw [Fs (Qoy j Qtj)]
     have eh:G'.hd (90000+j)=Gf.hd (90000+j):=by show Gf.hd (rk qs (90000+j))=_;rw [Fs (Qoy j Qtj)]
     refine ⟨aY,_,Hd hp,fun hb=>?_,fun s els' k' he=>?_⟩
     ·obtain ⟨w1,w2⟩:=hw.1 (by rw [Eh];exact hb)
      exact ⟨w1,eg.trans w2⟩
     ·obtain ⟨els,k0,f1,f2,f3⟩:=hw.2 s els' k' (Zfu.2 he);refine ⟨els,k0,f1,f2,fun Zh7=>?_⟩;obtain ⟨q1,q2⟩:=f3 Zh7;exact ⟨eg.trans q1,eh.trans q2⟩
   ·exact fM.elim
  ·exact fM.elim
 refine B9 K c ?_ ⟨m,G,hs⟩ h5;intro e st a w' Zh3 Zax;cases e with
 | normal=>exact fin st a w' Zh3 Zax
 | ret=>exact fin st a w' Zh3 Zax
 | exit id=>exact Zax.elim
end
mutual
def zD:D→Value→Bool
 | .int k n,.int k' n'=>k==k'&&n==n'
 | .bool b,.bool b'=>b==b'
 | .str s,.string b=>s==b.data.toList
 | .nilf,.nilFunc=>true
 | .nilp,.pointer none=>true
 | .nilm,.map none=>true
 | .list _ l,.slice none 0 0=>l.isEmpty
 | .agg l,.agg cs=>zDs l cs.toList&&cs.toList.all (·.oneCell')
 | _,_=>false
def zDs:List D→List Value→Bool
 | [],[]=>true
 | x::l,v::vs=>zD x v&&zDs l vs
 | _,_=>false
end
mutual
def zA:AV→Value→Bool
 | .d x,v=>zD x v
 | .nils _,.slice none 0 0=>true
 | .agg l,.agg cs=>zAs l cs.toList&&cs.toList.all (·.oneCell')
 | _,_=>false
def zAs:List AV→List Value→Bool
 | [],[]=>true
 | x::l,v::vs=>zA x v&&zAs l vs
 | _,_=>false
end
mutual
theorem zD_sound:∀ {x:D} {v:Value},zD x v=true→∀ F,R F x v
 | .int k n,v,h,F=>by
  cases v<;>simp only [zD,Zu,Zg,Zj] at h;simp only [R];rw [h.1,h.2]
 | .bool b,v,h,F=>by
  cases v<;>simp only [zD,Zu,Zj] at h;simp only [R];rw [h]
 | .str s,v,h,F=>by
  cases v<;>simp only [zD,Zu,Zj] at h;simp only [R];rw [h]
 | .nilf,v,h,F=>by
  cases v<;>simp only [zD,Zu] at h;simp only [R]
 | .nilm,v,h,F=>by
  cases v with
  | map a=>cases a<;>simp only [zD,Zu] at h;simp only [R]
  | _=>simp only [zD,Zu] at h
 | .nilp,v,h,F=>by
  cases v with
  | pointer a=>cases a<;>simp only [zD,Zu] at h;simp only [R]
  | _=>simp only [zD,Zu] at h
 | .list s l,v,h,F=>by
  cases v with
  | slice A n c =>
   cases A with
   | some A=>simp only [zD,Zu] at h
   | none =>
    cases n with
    | succ n=>simp only [zD,Zu] at h
    | zero =>
     cases c with
     | succ c=>simp only [zD,Zu] at h
     | zero =>
      simp only [zD,List.isEmpty_iff] at h;subst h;simp only [R];exact ⟨none,0,rfl,by simp,by simp [maxLen],by simp⟩
  | _=>simp only [zD,Zu] at h
 | .agg l,v,h,F=>by
  cases v with
  | agg cs =>
   simp only [zD,Zg,List.all_eq_true] at h;simp only [R];exact ⟨cs.toList,by simp,zDs_sound h.1 F,h.2⟩
  | _=>simp only [zD,Zu] at h
 | .tup l,v,h,F=>by cases v<;>simp only [zD,Zu] at h
 | .ptr s x,v,h,F=>by cases v<;>simp only [zD,Zu] at h
 | .clo f l,v,h,F=>by cases v<;>simp only [zD,Zu] at h
theorem zDs_sound:∀ {l:List D} {vs:List Value},zDs l vs=true→∀ F,Rs F l vs
 | [],vs,h,F=>by
  cases vs with
  | nil=>simp only [Rs]
  | cons=>simp only [zDs,Zu] at h
 | x::l,vs,h,F=>by
  cases vs with
  | nil=>simp only [zDs,Zu] at h
  | cons v vs =>
   simp only [zDs,Zg] at h;simp only [Rs];exact ⟨v,vs,rfl,zD_sound h.1 F,zDs_sound h.2 F⟩
end
mutual
theorem zA_sound:∀ {x:AV} {v:Value},zA x v=true→∀ F G L,RA F G L x v
 | .d x,v,h,F,G,L=>by
  simp only [zA] at h;simp only [RA];exact zD_sound h F
 | .nils s,v,h,F,G,L=>by
  cases v with
  | slice A n c =>
   cases A with
   | some A=>simp only [zA,Zu] at h
   | none =>
    cases n with
    | succ n=>simp only [zA,Zu] at h
    | zero =>
     cases c with
     | succ c=>simp only [zA,Zu] at h
     | zero=>simp only [RA]
  | _=>simp only [zA,Zu] at h
 | .agg l,v,h,F,G,L=>by
  cases v with
  | agg cs =>
   simp only [zA,Zg,List.all_eq_true] at h;simp only [RA];exact ⟨cs.toList,by simp,zAs_sound h.1 F G L,h.2⟩
  | _=>simp only [zA,Zu] at h
 | .ref ..,v,h,F,G,L=>by cases v<;>simp only [zA,Zu] at h
 | .rref ..,v,h,F,G,L=>by cases v<;>simp only [zA,Zu] at h
 | .sl ..,v,h,F,G,L=>by cases v<;>simp only [zA,Zu] at h
 | .sb ..,v,h,F,G,L=>by cases v<;>simp only [zA,Zu] at h
 | .mpr ..,v,h,F,G,L=>by cases v<;>simp only [zA,Zu] at h
 | .tup ..,v,h,F,G,L=>by cases v<;>simp only [zA,Zu] at h
 | .clo ..,v,h,F,G,L=>by cases v<;>simp only [zA,Zu] at h
 | .dead,v,h,F,G,L=>by cases v<;>simp only [zA,Zu] at h
theorem zAs_sound:∀ {l:List AV} {vs:List Value},zAs l vs=true→∀ F G L,RAs F G L l vs
 | [],vs,h,F,G,L=>by
  cases vs with
  | nil=>simp only [RAs]
  | cons=>simp only [zAs,Zu] at h
 | x::l,vs,h,F,G,L=>by
  cases vs with
  | nil=>simp only [zAs,Zu] at h
  | cons v vs =>
   simp only [zAs,Zg] at h;simp only [RAs];exact ⟨v,vs,rfl,zA_sound h.1 F G L,zAs_sound h.2 F G L⟩
end
def gL (P:Program):List Field→List (Nat×Nat)→Bool
 | [],[]=>true
 | f::l,p::r=>f.offset==p.1&&((P.info? f.type).map (·.size)==some p.2)&&decide (0<p.2)&&(p.2 != 1||(match P.underlying f.type with|some d=>gZ d|none=>false))&&gL P l r
 | _,_=>false
theorem kK {P:Program}:∀ {l:List Field} {r:List (Nat×Nat)},gL P l r=true→r.length=l.length∧∀ (j:Nat) (f:Field) (p:Nat×Nat),l[j]?=some f→r[j]?=some p →
  f.offset=p.1∧(P.info? f.type).map (·.size)=some p.2∧0<p.2∧(p.2=1→∃ d',P.underlying f.type=some d'∧gZ d'=true)
 | [],[],_=>⟨rfl,fun j f p h=>by simp at h⟩
 | [],_::_,h=>by simp [gL] at h
 | _::_,[],h=>by simp [gL] at h
 | f::l,p::r,h=>by
  simp only [gL,Zg,Zj,decide_eq_true_eq,Bool.or_eq_true,bne_iff_ne] at h;obtain ⟨⟨⟨⟨h1,h2⟩,h3⟩,h4⟩,h5⟩:=h;obtain ⟨g1,g2⟩:=kK h5;refine ⟨by simp [g1],fun j f' p' hj hp=>?_⟩
  cases j with
  | zero =>
   simp only [List.getElem?_cons_zero,Zb] at hj hp;subst hj;subst hp;refine ⟨h1,h2,h3,fun he=>?_⟩;rcases h4 with h4|h4
   ·exact absurd he h4
   ·split at h4
    ·next d hd=>exact ⟨d,hd,h4⟩
    ·cases h4
  | succ j =>
   simp only [List.getElem?_cons_succ] at hj hp;exact g2 j f' p' hj hp
def Qg0 (P:Program) (τ:Nat→TI):TK→TypeDesc→Bool
 | .int k,.int k'=>k==k'
 | .bool,.bool=>true
 | .str,.string=>true
 | .slice e,.slice e'=>e==e'&&(τ e).kind.ag.isSome
 | .struct fs,.struct fields=>gL P fields.toList fs
 | .array n e,.array n' e'=>n==n'&&e==e'&&(τ e).kind.ag==some false
 | .ptr e,.pointer e'=>e==e'
 | .map k e,.map k' e'=>k==k'&&e==e'
 | .func,.func ..=>true
 | _,_=>false
theorem Zkl {P:Program} {τ:Nat→TI} {k:TK} {d:TypeDesc} (h:Qg0 P τ k d=true):k.is P τ d:=by
 cases k<;>cases d<;>simp only [Qg0,Zu,Zj,Zg] at h<;>simp only [TK.is]
 case int.int=>rw [h]
 case slice.slice=>exact ⟨by rw [h.1],h.2⟩
 case struct.struct fs fields =>
  obtain ⟨g1,g2⟩:=kK h;exact ⟨fields,rfl,by simpa using g1,fun j f p hj hp=>g2 j f p (by simpa using hj) hp⟩
 case array.array=>exact ⟨by rw [h.1.1,h.1.2],h.2⟩
 case ptr.pointer=>rw [h]
 case map.map=>rw [h.1,h.2]
 case func.func a b c=>exact ⟨a,b,c,rfl⟩
def SK.sameB:SK→TypeDesc→Bool
 | .int k,.int k'=>k==k'
 | .bool,.bool=>true
 | .str,.string=>true
 | _,_=>false
def Zeb (P : Program) : Nat → List Field → List SK → Bool
  | _, [], [] => true
  | j, f :: fs, k :: ks => (f.name != "_") && f.offset == j && (match P.underlying f.type with
    | some d => k.sameB d
    | none => false) && Zeb P (j + 1) fs ks
  | _, _, _ => false
def Qvj (P:Program) (t:Nat):List SK→Bool
 | []=>true
 | ks=>(match P.underlying t with
  | some (.struct _)=>true
  | _=>false)&&!P.stoodInHeld t&&!P.eqGuardType P.depth t&&Zeb P 0 (P.fieldsOf t).toList ks
theorem tT {P:Program}:∀ {j:Nat} {fs:List Field} {ks:List SK},Zeb P j fs ks=true→Qkg P j fs ks
 | _,[],[],_=>trivial
 | _,[],_::_,h=>by simp [Zeb] at h
 | _,_::_,[],h=>by simp [Zeb] at h
 | j,f::fs,k::ks,h=>by
  simp only [Zeb,Zg,bne_iff_ne,Zj] at h;obtain ⟨⟨⟨h1,h2⟩,h3⟩,h4⟩:=h;refine ⟨h1,h2,?_,tT h4⟩;split at h3
  ·next d hd =>
   rw [hd];cases k<;>cases d<;>simp only [SK.sameB,Zu,Zj] at h3<;>first|rfl|(subst h3;rfl)
  ·cases h3
theorem Qeb {P:Program} {t:Nat} {ks:List SK} (h:Qvj P t ks=true) (hk:ks≠[]):Qnz P t ks:=by
 cases ks with
 | nil=>exact absurd rfl hk
 | cons k ks =>
  simp only [Qvj,Zg,Bool.not_eq_true'] at h;obtain ⟨⟨⟨h1,h2⟩,h3⟩,h4⟩:=h;refine ⟨?_,h2,h3,tT h4⟩;unfold Program.fieldsOf;split at h1
  ·next fs he=>simp [he]
  ·cases h1
def Qvh (P:Program) (τ:Nat→TI) (t:Nat) (ti:TI):Bool:=match P.underlying t,P.info? t with
 | some d,some i=>Qg0 P τ ti.kind d&&i.size==ti.size&&i.bytes==ti.bytes&&decide (0<ti.size)&&Qvj P t ti.eqk&&(match i.zero with
  | some z=>zA ti.zero z&&zD ti.zd z&&z.cells.size==ti.size&&z.cells.toList.all (·.oneCell')
  | none=>false)
 | _,_=>false
theorem Qch {P:Program} {τ:Nat→TI} {t:Nat} (h:Qvh P τ t (τ t)=true):TyOk P τ t:=by
 unfold Qvh at h;split at h
 ·next d i hd hi =>
  simp only [Zg,Zj,decide_eq_true_eq] at h;obtain ⟨⟨⟨⟨⟨h1,h2⟩,h3⟩,h4⟩,hq⟩,h5⟩:=h;split at h5
  ·next z hz =>
   simp only [Zg,Zj,List.all_eq_true] at h5;obtain ⟨⟨⟨g1,g2⟩,g3⟩,g4⟩:=h5;exact ⟨⟨d,hd,Zkl h1⟩,⟨i,z,hi,h2,h3,hz,zA_sound g1,zD_sound g2,g3,g4⟩,h4,Qeb hq⟩
  ·cases h5
 ·cases h
def Ql1:List (Nat×TI)→Nat→TI
 | [],_=>⟨.other,0,0,.dead,.nilp,[]⟩
 | (j,x)::r,i=>if i=j then x else Ql1 r i
theorem Qaw:∀ {tt:List (Nat×TI)} {t:Nat},(Ql1 tt t).kind.ag.isSome=true→(t,Ql1 tt t)∈tt
 | [],t,h=>by simp [Ql1,TK.ag] at h
 | (j,x)::r,t,h=>by
  simp only [Ql1] at h ⊢;by_cases Qyx:t=j
  ·subst Qyx;simp
  ·rw [if_neg Qyx] at h ⊢;exact List.mem_cons_of_mem _ (Qaw h)
theorem Qf4 {P:Program} {tt:List (Nat×TI)} (h:tt.all (fun p=>Qvh P (Ql1 tt) p.1 p.2)=true):Yd P (Ql1 tt):=by
 intro t ht;exact Qch (List.all_eq_true.1 h _ (Qaw ht))
theorem Jv {P : Program} {f : FuncId} {fn : Func} (hf : P.funcs[f]? = some fn) (h1 : (fn.name == "runtime.NumGoroutine") = false) (h2 : fn.body.isNone = false) : Oa P f := by
  intro args w
  have h1' : ¬ fn.name = "runtime.NumGoroutine" := by simpa using h1
  have h2' : ¬ fn.body = none := by
    intro h
    rw [h] at h2
    simp at h2
  simp [callFunc, hf, h1', h2']
class Enc (α:Type) where
 enc:α→D
 dec:D→α
 dec_enc:∀ a,dec (enc a)=a
open Enc (enc dec)
def Ul (α:Type) [Enc α] (x:D):Prop:=x=enc (dec x:α)
theorem Wc {α:Type} [Enc α] (a:α):Ul α (enc a):=by unfold Ul;rw [Enc.dec_enc]
instance encInt:Enc Int:=⟨.int .i64,D.i,fun _=>rfl⟩
instance encBool:Enc Bool:=⟨.bool,D.b,fun _=>rfl⟩
instance encStr:Enc (List UInt8):=⟨.str,D.s,fun _=>rfl⟩
class Sz (α:Type) where
 sz:Nat
instance szInt:Sz Int:=⟨1⟩
instance szBool:Sz Bool:=⟨1⟩
instance szStr:Sz (List UInt8):=⟨1⟩
structure Sl (α:Type) where
 l:List α
instance encSl {α:Type} [Enc α] [Sz α]:Enc (Sl α):=⟨fun a=>.list (Sz.sz α) (a.l.map enc),fun x=>⟨x.l.map dec⟩,fun a=>by
 show Sl.mk ((a.l.map enc).map dec)=a;rw [List.map_map];have:(dec∘enc:α→α)=id:=funext fun x=>Enc.dec_enc x;rw [this,List.map_id]⟩
instance szSl {α:Type}:Sz (Sl α):=⟨1⟩
section
variable {k k':IntKind} {n:Int} {s s':Nat} {l:List D} {b:Bool} {x:D} {bs:List UInt8} {f:Nat}
theorem Qa7:D.i (.int k n)=n:=rfl
theorem Zg5:D.b (.bool b)=b:=rfl
theorem Qad:D.s (.str bs)=bs:=rfl
theorem Zgd:D.l (.list s l)=l:=rfl
theorem gK:D.isInt k (.int k' n)=(k'=k):=rfl
theorem Ax:D.isBool (.bool b)=True:=rfl
theorem gW:D.isStr (.str bs)=True:=rfl
theorem Aw:D.isList s (.list s' l)=(s'=s):=rfl
theorem Dm:D.isAnyInt (.int k n)=True:=rfl
theorem oR:D.fits s (.int k n)=(s=1):=rfl
theorem gH:D.fits s (.bool b)=(s=1):=rfl
theorem oO:D.fits s (.str bs)=(s=1):=rfl
theorem gF:D.fits s (.list s' l)=(s=1):=rfl
theorem oT:D.fits s (.agg l)=(l.length=s):=rfl
theorem oP:D.fits s (.ptr s' x)=(s=1):=rfl
theorem oS:D.fits s (.clo s' l)=(s=1):=rfl
theorem gD:D.fits s .nilp=(s=1):=rfl
theorem gE:D.fits s .nilf=(s=1):=rfl
theorem Zlb {ks vs:List D}:D.fits s (.map ks vs)=(s=1):=rfl
theorem Zd2:D.fits s .nilm=(s=1):=rfl
theorem Zlz {ks vs:List D}:D.cell (.map ks vs) f=.map ks vs:=rfl
theorem pP:D.cell (.int k n) f=.int k n:=rfl
theorem iT:D.cell (.bool b) f=.bool b:=rfl
theorem pM:D.cell (.str bs) f=.str bs:=rfl
theorem iR:D.cell (.list s l) f=.list s l:=rfl
theorem pR:D.cell (.clo s l) f=.clo s l:=rfl
theorem pO:D.cell (.ptr s x) f=.ptr s x:=rfl
theorem pS:D.cell (.agg l) f=l.getD f .nilp:=rfl
theorem Ql5 {n:Int}:D.i (enc n)=n:=rfl
theorem Ql7 {n:Bool}:D.b (enc n)=n:=rfl
theorem Qlu {n:List UInt8}:D.s (enc n)=n:=rfl
theorem Zdt {n:Int}:D.isInt k (enc n)=(.i64=k):=rfl
theorem yG {n:Bool}:D.isBool (enc n)=True:=rfl
theorem Zdr {n:List UInt8}:D.isStr (enc n)=True:=rfl
theorem Zd4 {n:Int}:D.fits s (enc n)=(s=1):=rfl
theorem Zeq {n:Int}:D.cell (enc n) f=enc n:=rfl
theorem Zd5 {n:Bool}:D.fits s (enc n)=(s=1):=rfl
theorem Zer {n:Bool}:D.cell (enc n) f=enc n:=rfl
theorem Zd3 {n:List UInt8}:D.fits s (enc n)=(s=1):=rfl
theorem Zep {n:List UInt8}:D.cell (enc n) f=enc n:=rfl
theorem oW {n:Int}:D.isAnyInt (enc n)=True:=rfl
section
variable {α:Type} [Enc α] [Sz α] {a:Sl α}
theorem Qay:D.l (enc a)=a.l.map enc:=rfl
theorem bW:D.isList s (enc a)=(Sz.sz α=s):=rfl
theorem gG:D.fits s (enc a)=(s=1):=rfl
theorem iS:D.cell (enc a) f=enc a:=rfl
end
theorem vO:(dec (.int k n):Int)=n:=rfl
theorem pW:(dec (.bool b):Bool)=b:=rfl
theorem vN:(dec (.str bs):List UInt8)=bs:=rfl
theorem pV {α:Type} [Enc α] (a:α):(dec (enc a):α)=a:=Enc.dec_enc a
theorem vI:Ul Int (.int .i64 n)=True:=eq_true rfl
theorem oY:Ul Bool (.bool b)=True:=eq_true rfl
theorem vH:Ul (List UInt8) (.str bs)=True:=eq_true rfl
theorem oJ {α:Type} [Enc α] (a:α):Ul α (enc a)=True:=eq_true (Wc a)
section
variable {α:Type} [Enc α] [Sz α]
theorem J6:(dec (.list s l):Sl α)=⟨l.map dec⟩:=rfl
theorem Xd:Ul (Sl α) (.list s l)=(s=Sz.sz α∧∀ y∈l,Ul α y):=by
 apply propext;unfold Ul;constructor
 ·intro h;have h':D.list s l=D.list (Sz.sz α) ((l.map (dec:D→α)).map enc):=h;injection h' with h1 h2
  refine ⟨h1,fun y hy=>?_⟩;rw [List.map_map] at h2;have h3:l.map id=l.map ((enc:α→D)∘dec):=by rw [List.map_id];exact h2
  exact List.map_inj_left.1 h3 y hy
 ·rintro ⟨rfl,h⟩;show D.list (Sz.sz α) l=D.list (Sz.sz α) ((l.map (dec:D→α)).map enc);rw [List.map_map]
  congr 1
  conv=>lhs;rw [←List.map_id l]
  exact List.map_congr_left fun y hy=>h y hy
end
end
theorem Qa1 {α:Type} [Enc α] {l:List α}:(∀ y∈l.map enc,Ul α y)=True:=eq_true (by
 intro y hy;obtain ⟨a,_,rfl⟩:=List.mem_map.1 hy;exact Wc a)
theorem Jx {α:Type} [Enc α] {l:List α}:(l.map enc).map (dec:D→α)=l:=by
 rw [List.map_map];have:(dec∘enc:α→α)=id:=funext fun x=>Enc.dec_enc x;rw [this,List.map_id]
theorem Jj {a b:Int}:(Wd a b=true)=(a<b):=by simp [Wd]
theorem Q7 {a b:Int}:(Wd a b=false)=(b≤a):=by simp [Wd]
theorem Q9 {a b:Int}:(Xp a b=true)=(a≤b):=by simp [Xp]
theorem St {a b:Int}:(Xp a b=false)=(b<a):=by simp [Xp]
theorem Quc:Sz.sz Int=1:=rfl
theorem Qud:Sz.sz Bool=1:=rfl
theorem Qua:Sz.sz (List UInt8)=1:=rfl
theorem Qub {α:Type}:Sz.sz (Sl α)=1:=rfl
theorem Ql6 {b b':Bool}:(D.bool b=enc b')=(b=b'):=propext ⟨fun h=>by have h':D.bool b=D.bool b':=h;injection h',fun h=>by rw [h];rfl⟩
theorem Qro {b b':Int}:(D.int .i64 b=enc b')=(b=b'):=propext ⟨fun h=>by have h':D.int .i64 b=D.int .i64 b':=h;injection h',fun h=>by rw [h];rfl⟩
theorem Qqa {b b':List UInt8}:(D.str b=enc b')=(b=b'):=propext ⟨fun h=>by have h':D.str b=D.str b':=h;injection h',fun h=>by rw [h];rfl⟩
theorem Ql2 {α:Type} [Enc α] [Sz α] {s:Nat} {l:List D} {a:Sl α}:(D.list s l=enc a)=(s=Sz.sz α∧l=a.l.map enc):=propext ⟨fun h=>by have h':D.list s l=D.list (Sz.sz α) (a.l.map enc):=h;injection h' with h1 h2;exact ⟨h1,h2⟩,fun h=>by rw [h.1,h.2];rfl⟩
theorem Qrp {α:Type} [Enc α] {a b:α}:(enc a=enc b)=(a=b):=propext ⟨fun h=>by rw [←Enc.dec_enc a,h,Enc.dec_enc],fun h=>by rw [h]⟩
theorem Qul {α:Type} {a b:List α}:(Sl.mk a=Sl.mk b)=(a=b):=propext ⟨fun h=>by injection h,fun h=>by rw [h]⟩
@[simp] theorem encI_def {n:Int}:(enc n:D)=.int .i64 n:=rfl
@[simp] theorem encB_def {n:Bool}:(enc n:D)=.bool n:=rfl
@[simp] theorem encS_def {n:List UInt8}:(enc n:D)=.str n:=rfl
theorem Mk {α:Type} {l:List α} {p:α→Bool} (d:α) (h:∀ j,j<l.length→p (l.getD j d)=true):l.all p=true:=by
 rw [List.all_eq_true];intro x hx;obtain ⟨j,hj,rfl⟩:=List.getElem_of_mem hx;have:=h j hj;simpa [hj] using this
theorem Ec {α:Type} {l:List α} {p:α→Bool} (d:α) (j:Nat) (hj:j<l.length) (h:p (l.getD j d)=false):l.all p=false:=by
 cases hc:l.all p with
 | false=>rfl
 | true =>
  rw [List.all_eq_true] at hc;have:=hc (l.getD j d) (by simp [hj])
  rw [h] at this;cases this
theorem fF {α:Type} {l:List α} {p:α→Bool} (d:α) (j:Nat) (hj:j<l.length) (h:p (l.getD j d)=true):l.any p=true:=by
 rw [List.any_eq_true];exact ⟨l.getD j d,by simp [hj],h⟩
theorem Eb {α:Type} {l:List α} {p:α→Bool} (d:α) (h:∀ j,j<l.length→p (l.getD j d)=false):l.any p=false:=by
 cases hc:l.any p with
 | false=>rfl
 | true =>
  rw [List.any_eq_true] at hc;obtain ⟨x,hx,hp⟩:=hc;obtain ⟨j,hj,rfl⟩:=List.getElem_of_mem hx;have:=h j hj;simp [hj,hp] at this
theorem Qnj {α:Type} {f:α→D} {l:List α} {i:Nat} (d:α) (h:i<l.length):el (l.map f) i=f (l.getD i d):=by
 simp [el,h]
theorem Xt {n:Int}:Za4 .i64 n↔-9223372036854775808≤n∧n≤9223372036854775807:=by
 unfold Za4;constructor<;>intro h<;>simpa [IntKind.min,IntKind.max,IntKind.bits,IntKind.signed] using h
def Xj {A B:Type} [Enc A] [Enc B] (p:A→Prop) (f:A→B):Con:=⟨[false],[false],fun c=>match c with
 | [.d x]=>Ul A x∧p (dec x)
 | _=>False,fun c=>match c with
 | [.d x]=>.d (enc (f (dec x)))
 | _=>.d .nilp⟩
theorem Xm:type_of% @Xj.eq_def:=@Xj.eq_def
def Jy {A B R:Type} [Enc A] [Enc B] [Enc R] (p:A→B→Prop) (f:A→B→R):Con:=⟨[false,false],[false],fun c=>match c with
 | [.d x,.d y]=>Ul A x∧Ul B y∧p (dec x) (dec y)
 | _=>False,fun c=>match c with
 | [.d x,.d y]=>.d (enc (f (dec x) (dec y)))
 | _=>.d .nilp⟩
theorem Xl:type_of% @Jy.eq_def:=@Jy.eq_def
def Um {A B C R:Type} [Enc A] [Enc B] [Enc C] [Enc R] (p:A→B→C→Prop) (f:A→B→C→R):Con:=⟨[false,false,false],[false],fun c=>match c with
 | [.d x,.d y,.d z]=>Ul A x∧Ul B y∧Ul C z∧p (dec x) (dec y) (dec z)
 | _=>False,fun c=>match c with
 | [.d x,.d y,.d z]=>.d (enc (f (dec x) (dec y) (dec z)))
 | _=>.d .nilp⟩
theorem Xk:type_of% @Um.eq_def:=@Um.eq_def
def Zem {A B R S:Type} [Enc A] [Enc B] [Enc R] [Enc S] (p:A→B→Prop) (f:A→B→R×S):Con:=⟨[false,false],[false,false],fun c=>match c with
 | [.d x,.d y]=>Ul A x∧Ul B y∧p (dec x) (dec y)
 | _=>False,fun c=>match c with
 | [.d x,.d y]=>.tup [.d (enc (f (dec x) (dec y)).1),.d (enc (f (dec x) (dec y)).2)]
 | _=>.d .nilp⟩
def Yy {A B C R S:Type} [Enc A] [Enc B] [Enc C] [Enc R] [Enc S] (p:A→B→C→Prop) (f:A→B→C→R×S):Con:=⟨[false,false,false],[false,false],fun c=>match c with
 | [.d x,.d y,.d z]=>Ul A x∧Ul B y∧Ul C z∧p (dec x) (dec y) (dec z)
 | _=>False,fun c=>match c with
 | [.d x,.d y,.d z]=>.tup [.d (enc (f (dec x) (dec y) (dec z)).1),.d (enc (f (dec x) (dec y) (dec z)).2)]
 | _=>.d .nilp⟩
theorem J2:type_of% @Yy.eq_def:=@Yy.eq_def
def Mw {R:Type} [Enc R] (r:R):Con:=⟨[],[false],fun c=>match c with
 | []=>True
 | _=>False,fun _=>.d (enc r)⟩
theorem Xn:type_of% @Mw.eq_def:=@Mw.eq_def
theorem Q8 {A B:Type} [Enc A] [Enc B] {p:A→Prop} {f:A→B} {c:List CV} (h:(Xj p f).pre c):∃ a,c=[.d (enc a)]∧p a:=by
 unfold Xj at h;simp only at h;split at h
 ·next x=>exact ⟨dec x,by rw [←h.1],h.2⟩
 ·exact h.elim
theorem Qf {A B R:Type} [Enc A] [Enc B] [Enc R] {p:A→B→Prop} {f:A→B→R} {c:List CV} (h:(Jy p f).pre c):∃ a b,c=[.d (enc a),.d (enc b)]∧p a b:=by
 unfold Jy at h;simp only at h;split at h
 ·next x y=>exact ⟨dec x,dec y,by rw [←h.1,←h.2.1],h.2.2⟩
 ·exact h.elim
theorem Vb {A B C R:Type} [Enc A] [Enc B] [Enc C] [Enc R] {p:A→B→C→Prop} {f:A→B→C→R} {c:List CV} (h:(Um p f).pre c):∃ a b d,c=[.d (enc a),.d (enc b),.d (enc d)]∧p a b d:=by
 unfold Um at h;simp only at h;split at h
 ·next x y z=>exact ⟨dec x,dec y,dec z,by rw [←h.1,←h.2.1,←h.2.2.1],h.2.2.2⟩
 ·exact h.elim
theorem Zel {A B R S:Type} [Enc A] [Enc B] [Enc R] [Enc S] {p:A→B→Prop} {f:A→B→R×S} {c:List CV} (h:(Zem p f).pre c):∃ a b,c=[.d (enc a),.d (enc b)]∧p a b:=by
 unfold Zem at h;simp only at h;split at h
 ·next x y=>exact ⟨dec x,dec y,by rw [←h.1,←h.2.1],h.2.2⟩
 ·exact h.elim
theorem Mi {A B C R S:Type} [Enc A] [Enc B] [Enc C] [Enc R] [Enc S] {p:A→B→C→Prop} {f:A→B→C→R×S} {c:List CV} (h:(Yy p f).pre c):∃ a b d,c=[.d (enc a),.d (enc b),.d (enc d)]∧p a b d:=by
 unfold Yy at h;simp only at h;split at h
 ·next x y z=>exact ⟨dec x,dec y,dec z,by rw [←h.1,←h.2.1,←h.2.2.1],h.2.2.2⟩
 ·exact h.elim
theorem Zab {R:Type} [Enc R] {r:R} {c:List CV} (h:(Mw r).pre c):c=[]:=by
 unfold Mw at h;simp only at h;split at h
 ·rfl
 ·exact h.elim
def Qj2:List (Nat×Con)→Nat→Option Con
 | [],_=>none
 | (j,x)::r,i=>if i=j then some x else Qj2 r i
def Qc (P:Program) (p:Nat×Con):Prop:=Oa P p.1∧Qie P p.1 p.2
def Qj3:List (Nat×BCon)→Nat→Option BCon
 | [],_=>none
 | (j,x)::r,i=>if i=j then some x else Qj3 r i
def dA (P:Program) (p:Nat×BCon):Prop:=Oa P p.1∧Zzg P p.1 p.2
theorem Qhm {P:Program} {τ:Nat→TI} {l:List (Nat×Con)} {n:Nat} (hT:Yd P τ) (hm:P.follows .mixedOrders=true) (h:∀ p∈l,Qc P p) {lb:List (Nat×BCon)} (hb:∀ p∈lb,dA P p:=by simp) {cu:List Nat} {wr:Bool}:Co P ⟨τ,Qj2 l,n,Qj3 lb,cu,wr⟩:=by
 refine ⟨hT,fun f con hf=>?_,hm,fun f bc hf=>?_⟩
 case refine_2 =>
  have:∀ (l:List (Nat×BCon)),Qj3 l f=some bc→(f,bc)∈l:=by
   intro l
   induction l with
   | nil=>intro h;simp [Qj3] at h
   | cons p r ih =>
    intro h;obtain ⟨j,x⟩:=p;simp only [Qj3] at h;by_cases Qop:f=j
    ·rw [if_pos Qop] at h;injection h with h
     subst h;subst Qop;simp
    ·rw [if_neg Qop] at h;exact List.mem_cons_of_mem _ (ih h)
  exact hb _ (this lb hf)
 have:∀ (l:List (Nat×Con)),Qj2 l f=some con→(f,con)∈l:=by
  intro l
  induction l with
  | nil=>intro h;simp [Qj2] at h
  | cons p r ih =>
   intro h;obtain ⟨j,x⟩:=p;simp only [Qj2] at h;by_cases Qop:f=j
   ·rw [if_pos Qop] at h;injection h with h
    subst h;subst Qop;simp
   ·rw [if_neg Qop] at h;exact List.mem_cons_of_mem _ (ih h)
 exact h _ (this l hf)
def Ho:List AV→List Nat→List AV
 | l,[]=>l
 | l,i::r=>Ho (l.set i .dead) r
def U1:List AV→List (Nat×AV)→List AV
 | l,[]=>l
 | l,(i,x)::r=>U1 (l.set i x) r
def Lg:Qh→List (Nat×Obj)→Qh
 | o,[]=>o
 | o,(i,x)::r=>Lg (upd o i x) r
def Tj (st:AS) (kills:List Nat) (vals:List (Nat×AV)) (objs:List (Nat×Obj)):AS:=⟨U1 (Ho st.tmps kills) vals,Lg st.objs objs⟩
structure Shut (p:Prop):Prop where
 out:p
theorem Qaa {p:Prop}:Shut p=p:=propext ⟨fun h=>h.out,fun h=>⟨h⟩⟩
theorem Zm {C:Ctx} {c:Code} {Q:AExit→AS→Prop} {st:AS} (kills:List Nat) {α:Type} (vals:α→List (Nat×AV)) (objs:α→List (Nat×Obj)) (ok:α→Prop) (μ:α→Nat) (a0:α) (h0:ok a0)
  (hw:Wk st (Tj st kills (vals a0) (objs a0))) (h:∀ a,ok a→Shut (Tw C c (qX (fun s'=>∃ a',Wk s' (Tj st kills (vals a') (objs a'))∧ok a'∧μ a'<μ a) Q) (Tj st kills (vals a) (objs a)))):Qbu C c Q st :=
 ⟨α,fun a=>Tj st kills (vals a) (objs a),ok,μ,Wk,fun _ _ h=>.inl h,⟨a0,⟨[],hw⟩,h0⟩,fun a ha=>(h a ha).out⟩
theorem fH {C:Ctx} {c:Code} {Q:AExit→AS→Prop} {st:AS} (k i j:Nat) (kills:List Nat) {α:Type} (vals:α→List (Nat×AV)) (objs:α→List (Nat×Obj)) (ok:α→Prop) (μ:α→Nat) (a0:α) (h0:ok a0)
  (hw:Wk st (Tj st kills (vals a0) (objs a0))) (h:∀ a,ok a→Shut (Tw C c (qX (fun s'=>∃ a',Qsh k i j s' (Tj st kills (vals a') (objs a'))∧ok a'∧μ a'<μ a) Q) (Tj st kills (vals a) (objs a)))):Qbu C c Q st :=
 ⟨α,fun a=>Tj st kills (vals a) (objs a),ok,μ,Qsh k i j,fun _ _ h=>.inr (.inl ⟨k,i,j,h⟩),⟨a0,⟨[],hw⟩,h0⟩,fun a ha=>(h a ha).out⟩
theorem K6 (t:List AV) (o:Qh) (kills:List Nat) (vals:List (Nat×AV)) (objs:List (Nat×Obj)):Tj ⟨t,o⟩ kills vals objs=⟨U1 (Ho t kills) vals,Lg o objs⟩:=rfl
theorem Zn (a b:Nat):(a<b∧Wd (a:Int) (b:Int)=true)∨(b≤a∧Wd (a:Int) (b:Int)=false):=by
 rcases Nat.lt_or_ge a b with h|h
 ·exact .inl ⟨h,by rw [Jj];omega⟩
 ·exact .inr ⟨h,by rw [Q7];omega⟩
theorem Y3 (a b:Int):(a<b∧Wd a b=true)∨(b≤a∧Wd a b=false):=by
 rcases Int.lt_or_le a b with h|h
 ·exact .inl ⟨h,by rw [Jj];exact h⟩
 ·exact .inr ⟨h,by rw [Q7];exact h⟩
theorem Ou (a b:Int):(a≤b∧Xp a b=true)∨(b<a∧Xp a b=false):=by
 rcases Int.lt_or_le b a with h|h
 ·exact .inr ⟨h,by rw [St];exact h⟩
 ·exact .inl ⟨h,by rw [Q9];exact h⟩
section
theorem map_snoc {α:Type} [Enc α] {l:List α} {x:α}:l.map (enc:α→D)++[enc x]=(l++[x]).map enc:=by simp
theorem Zdc {l:List Int} {x:Int}:l.map (enc:Int→D)++[.int .i64 x]=(l++[x]).map enc:=by simp
theorem Zdd {l:List Bool} {x:Bool}:l.map (enc:Bool→D)++[.bool x]=(l++[x]).map enc:=by simp
theorem Zdb {l:List (List UInt8)} {x:List UInt8}:l.map (enc:List UInt8→D)++[.str x]=(l++[x]).map enc:=by simp
theorem Qas {α:Type} [Enc α] {l r:List α}:l.map (enc:α→D)++r.map enc=(l++r).map enc:=by simp
end
def Rb (W:World):Fix:=⟨W,fun b=>match W.heap[b]? with
 | some (.cells cs _ _)=>cs.size
 | _=>0⟩
theorem Zd1 (W:World) (b:Nat) (h:W.heap.size≤b):(Rb W).m b=0:=by
 unfold Rb;simp only;rw [Array.getElem?_eq_none h]
theorem Zyl {W:World} {b off:Nat} {u:Value} (h:W.cell? ⟨b,off,none⟩=some u):off+1≤(Rb W).m b:=by
 unfold Rb;unfold World.cell? at h;simp only at h ⊢;split at h
 ·next c _ _ he =>
  simp only [he];simp only [Option.isSome_none,Zu,if_false] at h;have:=(Array.getElem?_eq_some_iff.1 h).1;omega
 ·cases h
def Value.noAgg:Value→Bool
 | .agg _=>false
 | _=>true
theorem uZ {v:Value} (h:Value.noAgg v=true):v.cells=#[v]:=by
 cases v<;>first|rfl|simp [Value.noAgg] at h
def Qff (P:Program) (t s:Nat) (ag:Bool) (p:D→Prop):Prop :=
 ∀ (H:Type) (enc:TypeId×Value→H) (W:World) (base fuel:Nat) (cs:List Value) (d:DataW H) (ps:List MemPlace),DataW.trod enc P W base (fun _=>true) true fuel t cs=some (d,ps) →
  ∃ x v,p x∧(ag=true→v=.agg cs.toArray)∧(ag=false→cs=[v]∧Value.noAgg v=true)∧cs.length=s∧(∀ u∈cs,u.oneCell'=true)∧R (Rb W) x v
theorem Qff.mono {P:Program} {t s:Nat} {ag:Bool} {p q:D→Prop} (h:Qff P t s ag p) (hpq:∀ x,p x→q x):Qff P t s ag q:=by
 intro H enc W base fuel cs d ps ht;obtain ⟨x,v,h1,h2⟩:=h _ enc W base fuel cs d ps ht;exact ⟨x,v,hpq x h1,h2⟩
theorem Qf2 {P:Program} {t fuel:Nat} {k:IntKind} {H:Type} {enc:TypeId×Value→H} {W:World} {base:Nat} {cs:List Value} {x:DataW H×List MemPlace} (ht:P.underlying t=some (.int k))
  (h:DataW.trod enc P W base (fun _=>true) true fuel t cs=some x):∃ n,cs=[.int k n]∧(Lit.int k n).wf=true:=by
 cases fuel with
 | zero=>simp [DataW.trod] at h
 | succ fuel =>
  unfold DataW.trod at h;simp only [ht] at h;split at h<;>first|(exfalso;simp_all;done)|skip
  all_goals rename_i e
  all_goals injection e with e
  all_goals injection e with e
  all_goals subst e
  all_goals split at h
  all_goals first|(next hk=>exact ⟨_,by rw [hk.1],hk.2⟩)|cases h
theorem Qf1 {P:Program} {t fuel:Nat} {H:Type} {enc:TypeId×Value→H} {W:World} {base:Nat} {cs:List Value} {x:DataW H×List MemPlace} (ht:P.underlying t=some .string)
  (h:DataW.trod enc P W base (fun _=>true) true fuel t cs=some x):∃ s:ByteArray,cs=[.string s]∧s.size≤maxLen:=by
 cases fuel with
 | zero=>simp [DataW.trod] at h
 | succ fuel =>
  unfold DataW.trod at h;simp only [ht] at h;split at h<;>first|(exfalso;simp_all;done)|skip
  all_goals split at h
  all_goals first|(next hk=>exact ⟨_,rfl,hk⟩)|cases h
theorem Qm4 {P:Program} {t:Nat} {k:IntKind} (ht:P.underlying t=some (.int k)):Qff P t 1 false (fun x=>∃ n,x=.int k n∧(Lit.int k n).wf=true):=by
 intro H enc W base fuel cs d ps h;obtain ⟨n,rfl,hw⟩:=Qf2 ht h;exact ⟨.int k n,.int k n,⟨n,rfl,hw⟩,by simp,fun _=>⟨rfl,rfl⟩,rfl,by simp [Value.oneCell'],by simp [R]⟩
theorem Qm3 {P:Program} {t:Nat} (ht:P.underlying t=some .string):Qff P t 1 false (fun x=>∃ s,x=.str s∧s.length≤maxLen):=by
 intro H enc W base fuel cs d ps h;obtain ⟨s,rfl,hw⟩:=Qf1 ht h;have e:s.data.toList.length=s.size:=by rw [Array.length_toList];rfl
 exact ⟨.str s.data.toList,.string s,⟨_,rfl,by omega⟩,by simp,fun _=>⟨rfl,rfl⟩,rfl,by simp [Value.oneCell'],by simp [R]⟩
theorem Qgi {P:Program} {t e s:Nat} {ag:Bool} {p:D→Prop} (ht:P.underlying t=some (.slice e)) (hs:P.cellsOf e=s) (mH:0<s) (he:Qff P e s ag p) :
  Qff P t 1 false (fun x=>∃ l,x=.list s l∧l.length≤maxLen∧∀ y∈l,p y):=by
 intro H enc W base fuel cs d ps h;rcases Go.Deep.open_slice ht h with ⟨rfl,hx⟩|⟨a,len,cap,m,n,D',Pl,rfl,hb,hl,hm,Zb8,hx,aA⟩
 ·refine ⟨.list s [],.slice none 0 0,⟨[],rfl,by simp [maxLen],by simp⟩,by simp,fun _=>⟨rfl,rfl⟩,rfl,by simp [Value.oneCell'],?_⟩
  simp only [R];exact ⟨none,0,rfl,by simp,by simp [maxLen],by simp⟩
 ·rw [hs] at aA;have hm':len≤m:=by rw [Zb8];simp only [if_true];exact hl
  have key:∀ k,k≤len→∃ (xs:List D) (vs:List Value),xs.length=k∧(∀ y∈xs,p y)∧RE (Rb W) s xs vs∧∀ j,j<k*s→W.cell? ⟨a.block,a.off+j,none⟩=vs[j]?:=by
   intro k
   induction k with
   | zero=>intro _;exact ⟨[],[],rfl,by simp,by simp [RE],by simp⟩
   | succ k ih =>
    intro hk;obtain ⟨xs,vs,h1,h2,h3,h4⟩:=ih (by omega)
    obtain ⟨cs',g1,g2⟩:=aA k (by omega)
    obtain ⟨x,v,q1,q2,q3,q4,q5,q6⟩:=he _ enc W base n cs' _ _ g2;obtain ⟨_,g4,g5⟩:=World.cells?_some g1;have Qvy:v.cells.toList=cs':=by
     cases ag with
     | true=>rw [q2 rfl];rfl
     | false =>
      obtain ⟨q3a,q3b⟩:=q3 rfl;rw [uZ q3b,q3a]
    refine ⟨xs++[x],vs++cs',by simp [h1],?_,?_,?_⟩
    ·intro y hy;rcases List.mem_append.1 hy with hy|hy
     ·exact h2 y hy
     ·rw [Zt] at hy;subst hy;exact q1
    ·rw [←Qvy];refine RE.append h3 (RE.one q6 ?_ ?_)
     ·rw [←Array.length_toList,Qvy];exact q4
     ·rw [Qvy];exact q5
    ·intro j hj;have Qb2:vs.length=k*s:=by rw [RE.length h3,h1]
     rcases Nat.lt_or_ge j (k*s) with Zv|aY
     ·rw [h4 j Zv,List.getElem?_append_left (by omega)]
     ·rw [List.getElem?_append_right (by omega),Qb2]
      have Jbe:j-k*s<s:=by
       rw [Nat.add_mul] at hj;omega
      rw [←g5 (j-k*s) Jbe]
      congr 1
      unfold Addr.add;by_cases kH:k*s=0
      ·rw [if_pos kH];by_cases Qtk:j-k*s=0
       ·rw [if_pos Qtk];have Za8:a.spot=none:=by
         have h0:=g5 0 mH;have Tz:cs'[0]?=some cs'[0]:=by simp
         rw [Tz] at h0;unfold Addr.add at h0;rw [if_pos rfl] at h0;simp only [kH,if_true] at h0;unfold World.cell? at h0;split at h0
         ·cases hh:a.spot with
          | none=>rfl
          | some z=>simp [hh] at h0
         ·cases h0
        have:j=0:=by omega
        subst this;rw [←Za8];rfl
       ·rw [if_neg Qtk];simp only [Addr.mk.injEq,true_and,and_true];omega
      ·rw [if_neg kH];by_cases Qtk:j-k*s=0
       ·rw [if_pos Qtk];simp only [Addr.mk.injEq,true_and,and_true];omega
       ·rw [if_neg Qtk];simp only [Addr.mk.injEq,true_and,and_true];omega
  obtain ⟨xs,vs,h1,h2,h3,h4⟩:=key len (Zr _);refine ⟨.list s xs,.slice (some a) len cap,⟨xs,rfl,by omega,h2⟩,by simp,fun _=>⟨rfl,rfl⟩,rfl,by simp [Value.oneCell'],?_⟩
  simp only [R];refine ⟨some a,cap,by rw [h1],by omega,hm,fun Tz=>?_⟩
  have Q5:0<len:=by
   rw [←h1];exact List.length_pos_iff.2 Tz
  have Qb2:vs.length=len*s:=by rw [RE.length h3,h1]
  have Za8:a.spot=none:=by
   obtain ⟨cs',g1,_⟩:=aA 0 (by omega)
   obtain ⟨_,g4,g5⟩:=World.cells?_some g1;have h0:=g5 0 mH;have Tz:cs'[0]?=some cs'[0]:=by simp
   rw [Tz] at h0;unfold Addr.add at h0;simp only [Nat.zero_mul,if_true] at h0;unfold World.cell? at h0;split at h0
   ·cases hh:a.spot with
    | none=>rfl
    | some z=>simp [hh] at h0
   ·cases h0
  refine ⟨a.block,a.off,vs,by cases a;simp at Za8;subst Za8;rfl,h3,?_,fun j u hj=>?_⟩
  ·have Qy7:0<len*s:=Nat.mul_pos Q5 mH;have Zmy:=h4 (len*s-1) (by omega)
   have Zmz:len*s-1<vs.length:=by omega
   rw [Zk Zmz] at Zmy;have:=Zyl Zmy;omega
  ·have C6:=(List.getElem?_eq_some_iff.1 hj).1;have:=h4 j (by omega)
   rw [hj] at this;exact this
def Zzk:List (D→Prop)→List D→Prop
 | [],[]=>True
 | p::ps,x::xs=>p x∧Zzk ps xs
 | _,_=>False
def Qns (P:Program):Nat→List Field→List (D→Prop)→Prop
 | _,[],[]=>True
 | k,f::fs,p::ps=>f.offset=k∧P.cellsOf f.type=1∧Qff P f.type 1 false p∧Qns P (k+1) fs ps
 | _,_,_=>False
theorem Zc1 {P:Program} {H:Type} {enc:TypeId×Value→H} {W:World} {base fuel:Nat} {cs:List Value}:∀ {fs:List Field} {k:Nat} {ps:List (D→Prop)} {xs:List (DataW H×List MemPlace)},Qns P k fs ps→k+fs.length≤cs.length →
  (fs.mapM fun f=>DataW.trod enc P W base (fun _=>true) true fuel f.type ((cs.drop f.offset).take (P.cellsOf f.type)))=some xs →
  ∃ ds,Zzk ps ds∧Rs (Rb W) ds ((cs.drop k).take fs.length)∧∀ u∈(cs.drop k).take fs.length,u.oneCell'=true
 | [],k,[],xs,_,_,_=>⟨[],by simp [Zzk],by simp [Rs],by simp⟩
 | [],_,_::_,_,h,_,_=>h.elim
 | _::_,_,[],_,h,_,_=>h.elim
 | f::fs,k,p::ps,xs,h,hl,hm=>by
  obtain ⟨h1,h2,h3,h4⟩:=h;simp only [List.mapM_cons,Option.bind_eq_bind,Option.bind_eq_some_iff] at hm;obtain ⟨y,hy,ys,Qmb,_⟩:=hm;simp only [Zi] at hl;obtain ⟨ds,g1,g2,g3⟩:=Zc1 h4 (by omega) Qmb
  rw [h1,h2] at hy;obtain ⟨d,q⟩:=y;obtain ⟨x,v,q1,_,q3,q4,q5,q6⟩:=h3 _ enc W base fuel _ _ _ hy;obtain ⟨q3a,q3b⟩:=q3 rfl;have e:(cs.drop k).take (fs.length+1)=v::(cs.drop (k+1)).take fs.length:=by
   have hk:k<cs.length:=by omega
   rw [List.drop_eq_getElem_cons hk] at q3a ⊢;simp only [List.take_succ_cons,List.take_zero,List.cons.injEq] at q3a ⊢;exact ⟨q3a.1,trivial⟩
  rw [Zi,e];refine ⟨x::ds,⟨q1,g1⟩,?_,?_⟩
  ·simp only [Rs];exact ⟨v,_,rfl,q6,g2⟩
  ·intro u hu;rcases Zs.1 hu with rfl|hu
   ·exact q5 u (by rw [q3a];simp)
   ·exact g3 u hu
theorem rJ {P:Program} {t s:Nat} {fs:Array Field} {ps:List (D→Prop)} (ht:P.underlying t=some (.struct fs)) (hs:P.cellsOf t=s) (hl:fs.toList.length=s) (hf:Qns P 0 fs.toList ps) :
  Qff P t s true (fun x=>∃ ds,x=.agg ds∧Zzk ps ds):=by
 intro H enc W base fuel cs d qs h;cases fuel with
 | zero=>simp [DataW.trod] at h
 | succ fuel =>
  unfold DataW.trod at h;simp only [ht] at h;rw [hs] at h;by_cases hc:cs.length=s
  ·rw [if_pos hc] at h;rw [Option.map_eq_some_iff] at h;obtain ⟨xs,hx,_⟩:=h;obtain ⟨ds,g1,g2,g3⟩:=Zc1 (cs:=cs) hf (by omega) hx
   rw [List.drop_zero,hl,←hc,List.take_length] at g2 g3;refine ⟨.agg ds,.agg cs.toArray,⟨ds,rfl,g1⟩,fun _=>rfl,by simp,hc,g3,?_⟩
   simp only [R];exact ⟨cs,rfl,g2,g3⟩
  ·rw [if_neg hc] at h;cases h
theorem Qh7 {P:Program} {H:Type} {enc:TypeId×Value→H} {W:World} {base b2 t s:Nat} {p:D→Prop} {v:Value} {d:DataW H} {ps:List MemPlace} (h:Qff P t s false p) (Qwi:∀ fs,P.underlying t≠some (.struct fs)) (Zzt:∀ n e,P.underlying t≠some (.array n e))
  (dQ:Value.okWide P W .any base t v) (hr:DataW.Trod enc P W b2 (fun _=>true) true t v d ps):∃ x,p x∧R (Rb W) x v:=by
 obtain ⟨fuel,hr⟩:=hr;obtain ⟨x,u,h1,_,h3,_,_,h6⟩:=h _ enc W b2 fuel _ _ _ hr;obtain ⟨Qxp,Jcv⟩:=h3 rfl;have hv:Value.noAgg v=true:=by
  cases v with
  | agg cs =>
   unfold Value.okWide at dQ;exfalso;split at dQ
   ·next fs he=>exact Qwi _ he
   ·next n e he=>exact Zzt _ _ he
   ·unfold Cell.okWide at dQ;split at dQ<;>try simp_all
    unfold Cell.ok at dQ;split at dQ<;>simp_all
  | _=>rfl
 rw [uZ hv] at Qxp;simp only [List.cons.injEq,and_true] at Qxp;subst Qxp;exact ⟨x,h1,h6⟩
theorem Qbs {P:Program} {H:Type} {enc:TypeId×Value→H} {W:World} {base b2 t s:Nat} {p:D→Prop} {v:Value} {d:DataW H} {ps:List MemPlace} (h:Qff P t s true p) (Qwi:(∃ fs,P.underlying t=some (.struct fs))∨∃ n e,P.underlying t=some (.array n e))
  (dQ:Value.okWide P W .any base t v) (hr:DataW.Trod enc P W b2 (fun _=>true) true t v d ps):∃ x,p x∧R (Rb W) x v:=by
 obtain ⟨fuel,hr⟩:=hr;obtain ⟨x,u,h1,h2,_,_,_,h6⟩:=h _ enc W b2 fuel _ _ _ hr;have hv:∃ cs,v=.agg cs:=by
  unfold Value.okWide at dQ;rcases Qwi with ⟨fs,he⟩|⟨n,e,he⟩
  ·rw [he] at dQ;obtain ⟨cs,hc,_⟩:=dQ;exact ⟨cs,hc⟩
  ·rw [he] at dQ;obtain ⟨cs,hc,_⟩:=dQ;exact ⟨cs,hc⟩
 obtain ⟨cs,rfl⟩:=hv;have:u=.agg cs:=by rw [h2 rfl];simp [Value.cells]
 subst this;exact ⟨x,h1,h6⟩
theorem mD {F:Fix}:∀ {l:List D} {vs:List Value},Rs F l vs→Uw F (l.map .d) vs
 | [],_,h=>by simp only [Rs] at h;simpa [Uw] using h
 | x::l,vs,h=>by
  simp only [Rs] at h;obtain ⟨v,r,rfl,h2,h3⟩:=h;simp only [List.map_cons,Uw,Ze1];exact ⟨v,r,rfl,h2,mD h3⟩
theorem Ok:∀ (l:List D) (vs:List Value),Jc (l.map .d) vs=[]
 | [],[]=>rfl
 | [],_::_=>rfl
 | _::l,[]=>rfl
 | x::l,v::vs=>by
  simp only [List.map_cons,Jc];exact Ok l vs
theorem Zby {P:Program} {f:FuncId} {con:Con} (hg:Qc P (f,con)) (W:World) (xs:List D) (args:Array Value) (hR:Rs (Rb W) xs args.toList) (Zh:con.pre (xs.map .d)) (sN:con.fn (xs.map .d)=.d (.bool true)) :
  Calls P f args W fun e W'=>e=.returned (.bool true)∧Below W.heap.size W W':=by
 have h:=hg.2 (Rb W).m W (xs.map .d) args.toList Zh (mD hR) (by rw [Ok];exact List.nodup_nil) (Zd1 W)
 rw [show args.toList.toArray=args by simp] at h
 refine h.mono ?_;rintro e W' ⟨v,m',rfl,Zaz,_,_,Zaw⟩
 change Zm5 _ _ _ (con.fn (xs.map .d)) v at Zaw
 rw [sN] at Zaw;simp only [Zm5,Uw,Ze1,R] at Zaw;obtain ⟨⟨v1,r,aW,rfl,rfl⟩,_⟩:=Zaw;injection aW with aW _
 subst aW;refine ⟨rfl,Zaz.os,Zaz.tape,Zaz.output,Zaz.size,fun k hk=>Zaz.block k hk ?_⟩;rw [Ok];simp
open Go.ChangeShapes Go.WideShapes Go.ChangeAt Go.RowKit
theorem jG {H:Type} {enc:TypeId×Value→H} {P:Program} (hl:laidOutB P=true) {W W':World} (hb:Below W.heap.size W W'):∀ {ts:List TypeId} {vs:List Value} {ds:List (DataW H)} {ps:List MemPlace},(∀ t∈ts,P.readableRec t=true∧t<P.types.size) →
  DataW.TrodAll enc P W 0 (fun _=>true) true ts vs ds ps→(∀ x∈ps,x.block<W.heap.size)→∀ sp:Nat→Bool,(∀ x∈ps,sp x.block=true)→DataW.TrodAll enc P W' 0 sp true ts vs ds ps
 | [],vs,ds,ps,_,h,_,_,_=>by
  obtain ⟨rfl,rfl,rfl⟩:=trodAll_nil h;exact trodAll_mk0
 | t::ts,vs,ds,ps,hr,h,Zv,sp,Za8=>by
  obtain ⟨v,vs',d,ds',p,q,rfl,rfl,rfl,h1,h2⟩:=trodAll_cons h;refine trodAll_cons_mk ?_ (jG hl hb (fun t ht=>hr t (List.mem_cons_of_mem _ ht)) h2 (fun x hx=>Zv x (List.mem_append_right _ hx)) sp (fun x hx=>Za8 x (List.mem_append_right _ hx)));obtain ⟨r1,r2⟩:=hr t (by simp)
  exact WideElems.Trod_stays hl r1 r2 h1 (fun x hx=>hb.same (Zv x (List.mem_append_left _ hx))) (fun x hx=>Za8 x (List.mem_append_left _ hx))
theorem mS {H:Type} {enc:TypeId×Value→H} {P:Program} {W:World} {base:Nat} {spare:Nat→Bool} {held:Bool}:∀ {ts:List TypeId} {vs:List Value} {ds:List (DataW H)} {ps:List MemPlace},DataW.TrodAll enc P W base spare held ts vs ds ps→ds.length=ts.length
 | [],vs,ds,ps,h=>by
  obtain ⟨rfl,rfl,rfl⟩:=trodAll_nil h;rfl
 | t::ts,vs,ds,ps,h=>by
  obtain ⟨v,vs',d,ds',p,q,rfl,rfl,rfl,h1,h2⟩:=trodAll_cons h;simp [mS h2]
theorem Zf9 {P:Program} {f:FuncId} {fn:Func} {con:Con} {s:ChangeSpec} {tb:TypeId} (hg:Qc P (f,con)) (hv:s.vars=[]) (hl:laidOutB P=true)
  (hr:∀ t∈fn.params.toList,P.readableRec t=true∧t<P.types.size) (Zaw:fn.resultTypes=#[tb]) (htb:P.underlying tb=some .bool)
  (hspec:∀ (H:Type) (ds:List (DataW H)),ds.length=fn.params.toList.length→s.fn H ds={ results:=[.lit (.bool true)],args:=ds })
  {H:Type} (enc:TypeId×Value→H) (W:World) (args:Array Value) (ds gs:List (DataW H)) (before:List MemPlace)
  (Qb3:∀ ps,DataW.TrodAll enc P W 0 (fun _=>true) true fn.params.toList args.toList ds ps→∃ xs:List D,Rs (Rb W) xs args.toList∧con.pre (xs.map .d)∧con.fn (xs.map .d)=.d (.bool true))
  (hW:DataW.Whole enc P fn.params.toList s.vars false W args.toList ds gs before) :
  Calls P f args W fun e W'=>∃ v,e=.returned v∧s.post enc P fn false true false false W args v W':=by
 have hW':=hW;obtain ⟨p,q,hA,hV,rfl,Qzk,qF⟩:=hW;rw [hv] at hV;obtain ⟨rfl,rfl⟩:=trodVars_none hV;obtain ⟨xs,hR,Zh,sN⟩:=Qb3 p hA;have Q5:=(mS hA);refine (Zby hg W xs args hR Zh sN).mono ?_;rintro e W' ⟨rfl,hb⟩;have Zv:∀ x∈p,x.block<W.heap.size:=fun x hx=>hW'.lt x (by simpa using hx)
 have Za8:=hspec H (ds++[]) (by simpa using Q5)
 rw [List.append_nil] at Za8;refine ⟨_,rfl,ds,[],p++[],[],p,[],hW',?_,?_,?_,hb.frame _,fun h=>by cases h⟩
 ·rw [List.append_nil,Za8,Zaw];exact trodAll_cons_mk (shut_bool htb _) trodAll_mk0
 ·rw [List.append_nil,Za8];exact jG hl hb hr hA Zv _ (fun x hx=>by simpa using Zv x hx)
 ·rw [List.append_nil,Za8,hv];rfl
section
def Qja (P:Program) (t s:Nat) (ag:Bool) (α:Type) [Enc α] (ok:α→Prop):Prop:=Qff P t s ag fun x=>∃ a:α,x=enc a∧ok a
theorem Zfx {P:Program} {t:Nat} (ht:P.underlying t=some (.int .i64)):Qja P t 1 false Int (fun a=>Za4 .i64 a):=(Qm4 ht).mono fun x h=>by
 obtain ⟨n,rfl,hw⟩:=h;refine ⟨n,rfl,?_⟩;show Za4 .i64 n;rw [Xt];have h:=hw;simp [Lit.wf,IntKind.min,IntKind.max,IntKind.signed,IntKind.bits] at h;omega
theorem Qaf {P:Program} {t:Nat} (ht:P.underlying t=some .string):Qja P t 1 false (List UInt8) (fun a=>a.length≤maxLen):=(Qm3 ht).mono fun x h=>by
 obtain ⟨s,rfl,hs⟩:=h;exact ⟨s,rfl,hs⟩
theorem Zkg {α:Type} [Enc α] {ok:α→Prop}:∀ {l:List D},(∀ y∈l,∃ a:α,y=enc a∧ok a)→∃ r:List α,l=r.map enc∧∀ a∈r,ok a
 | [],_=>⟨[],rfl,by simp⟩
 | y::l,h=>by
  obtain ⟨a,rfl,ha⟩:=h y (by simp)
  obtain ⟨r,rfl,hr⟩:=Zkg (l:=l) fun z hz=>h z (List.mem_cons_of_mem _ hz);exact ⟨a::r,rfl,by
   intro b hb;rcases Zs.1 hb with rfl|hb
   ·exact ha
   ·exact hr b hb⟩
theorem Zxk {P:Program} {t e s:Nat} {ag:Bool} {α:Type} [Enc α] [Sz α] {ok:α→Prop} (ht:P.underlying t=some (.slice e)) (hs:P.cellsOf e=s) (hz:Sz.sz α=s) (mH:0<s) (he:Qja P e s ag α ok) :
  Qja P t 1 false (Sl α) (fun a=>a.l.length≤maxLen∧∀ y∈a.l,ok y):=(Qgi ht hs mH he).mono fun x h=>by
 obtain ⟨l,rfl,hl,hy⟩:=h;obtain ⟨r,rfl,hr⟩:=Zkg hy;rw [Zf] at hl;refine ⟨⟨r⟩,?_,hl,hr⟩;show D.list s (r.map enc)=D.list (Sz.sz α) (r.map enc);rw [hz]
end
def Kv:Nat→List AV→List AV
 | 0,_=>[]
 | n+1,[]=>.dead::Kv n []
 | n+1,x::l=>x::Kv n l
theorem B6:∀ (n:Nat) (l:List AV),(Kv n l).length=n
 | 0,_=>rfl
 | n+1,[]=>by simp [Kv,B6 n]
 | n+1,x::l=>by simp [Kv,B6 n]
theorem lA:∀ (n:Nat) (l:List AV) (t:Nat),t<n→(Kv n l).getD t .dead=l.getD t .dead
 | 0,_,t,h=>by omega
 | n+1,[],0,_=>by simp [Kv]
 | n+1,[],t+1,h=>by
  have:=lA n [] t (by omega)
  simpa [Kv] using this
 | n+1,x::l,0,_=>by simp [Kv]
 | n+1,x::l,t+1,h=>by
  have:=lA n l t (by omega)
  simpa [Kv] using this
def Sa:Nat→AV→List AV→List AV
 | 0,x,[]=>[x]
 | n+1,x,[]=>.dead::Sa n x []
 | 0,x,_::l=>x::l
 | n+1,x,y::l=>y::Sa n x l
theorem rA:∀ (n:Nat) (l:List AV) (t:Nat) (x:AV),t<n→(Kv n l).set t x=Kv n (Sa t x l)
 | 0,_,t,_,h=>by omega
 | n+1,[],0,x,_=>by simp [Kv,Sa]
 | n+1,[],t+1,x,h=>by
  have:=rA n [] t x (by omega)
  simpa [Kv,Sa] using this
 | n+1,y::l,0,x,_=>by simp [Kv,Sa]
 | n+1,y::l,t+1,x,h=>by
  have:=rA n l t x (by omega)
  simpa [Kv,Sa] using this
def fl:List (List AV)→List AV→List AV
 | [],r=>r
 | c::cs,r=>Kv 16 c++fl cs r
def rR:List (List AV)→List AV→Nat→Nat→AV
 | [],r,a,b=>r.getD (16*a+b) .dead
 | c::_,_,0,b=>c.getD b .dead
 | _::cs,r,a+1,b=>rR cs r a b
theorem Qa9:∀ (cs:List (List AV)) (r:List AV) (a b:Nat),b<16→(fl cs r).getD (16*a+b) .dead=rR cs r a b
 | [],r,a,b,_=>rfl
 | c::cs,r,0,b,hb=>by
  simp only [fl,rR,Nat.mul_zero,Nat.zero_add];rw [Zd,List.getElem?_append_left (by rw [B6];exact hb),←Zd]
  exact lA 16 c b hb
 | c::cs,r,a+1,b,hb=>by
  simp only [fl,rR];rw [Zd,List.getElem?_append_right (by rw [B6];omega),←Zd,B6,show 16*(a+1)+b-16=16*a+b by omega]
  exact Qa9 cs r a b hb
theorem oG (cs:List (List AV)) (r:List AV) (t:Nat):(fl cs r).getD t .dead=rR cs r (t / 16) (t % 16):=by
 rw [←Qa9 cs r (t / 16) (t % 16) (Nat.mod_lt _ (by omega)),Nat.div_add_mod]
def Qcp:List (List AV)→List AV→Nat→Nat→AV→List AV
 | [],r,a,b,x=>r.set (16*a+b) x
 | c::cs,r,0,b,x=>fl (Sa b x c::cs) r
 | c::cs,r,a+1,b,x=>Kv 16 c++Qcp cs r a b x
theorem Qab:∀ (cs:List (List AV)) (r:List AV) (a b:Nat) (x:AV),b<16→(fl cs r).set (16*a+b) x=Qcp cs r a b x
 | [],r,a,b,x,_=>rfl
 | c::cs,r,0,b,x,hb=>by
  simp only [fl,Qcp,Nat.mul_zero,Nat.zero_add];rw [List.set_append_left _ _ (by rw [B6];exact hb),rA 16 c b x hb]
 | c::cs,r,a+1,b,x,hb=>by
  simp only [fl,Qcp];rw [List.set_append_right _ _ (by rw [B6];omega),B6,show 16*(a+1)+b-16=16*a+b by omega,Qab cs r a b x hb]
def Hl:List (List AV)→List AV→Nat→Nat→AV→List (List AV)×List AV
 | [],r,a,b,x=>([],r.set (16*a+b) x)
 | c::cs,r,0,b,x=>(Sa b x c::cs,r)
 | c::cs,r,a+1,b,x=>(c::(Hl cs r a b x).1,(Hl cs r a b x).2)
theorem Qac:∀ (cs:List (List AV)) (r:List AV) (a b:Nat) (x:AV),Qcp cs r a b x=fl (Hl cs r a b x).1 (Hl cs r a b x).2
 | [],r,a,b,x=>rfl
 | c::cs,r,0,b,x=>rfl
 | c::cs,r,a+1,b,x=>by
  simp only [Qcp,Hl,fl];rw [Qac cs r a b x]
theorem Si (cs:List (List AV)) (r:List AV) (t:Nat) (x:AV):(fl cs r).set t x=fl (Hl cs r (t / 16) (t % 16) x).1 (Hl cs r (t / 16) (t % 16) x).2:=by
 rw [←Qac,←Qab cs r (t / 16) (t % 16) x (Nat.mod_lt _ (by omega)),Nat.div_add_mod]
theorem Zdn (i:Nat):∀ (a b:List AV),Nr i (a++b)=Nr i a++Nr i b
 | [],_=>rfl
 | x::a,b=>by simp [Nr,Zdn i a b]
theorem rH (i:Nat):∀ (n:Nat) (l:List AV),Nr i (Kv n l)=Kv n (Nr i l)
 | 0,_=>rfl
 | n+1,[]=>by
  have:=rH i n [];simp only [Nr] at this;simp [Kv,Nr,AV.off,this]
 | n+1,x::l=>by simp [Kv,Nr,rH i n l]
def yA (i:Nat):List (List AV)→List (List AV)
 | []=>[]
 | c::cs=>Nr i c::yA i cs
theorem yK (i:Nat):∀ (cs:List (List AV)) (r:List AV),Nr i (fl cs r)=fl (yA i cs) (Nr i r)
 | [],_=>rfl
 | c::cs,r=>by simp only [fl,yA,Zdn,rH,yK i cs r]
theorem Zz2 {o1 o2:Qh}:∀ {a a' b b':List AV},qA o1 o2 a a'→qA o1 o2 b b'→qA o1 o2 (a++b) (a'++b')
 | [],[],_,_,_,h=>h
 | [],_::_,_,_,h,_=>h.elim
 | _::_,[],_,_,h,_=>h.elim
 | x::a,y::a',b,b',h,h'=>⟨h.1,Zz2 h.2 h'⟩
theorem Zfd {o1 o2:Qh}:∀ {n:Nat} {a a':List AV},qA o1 o2 a a'→qA o1 o2 (Kv n a) (Kv n a')
 | 0,_,_,_=>trivial
 | n+1,[],[],_=>⟨by simp [Zci],Zfd (a:=[]) (a':=[]) trivial⟩
 | n+1,[],_::_,h=>h.elim
 | n+1,_::_,[],h=>h.elim
 | n+1,x::a,y::a',h=>⟨h.1,Zfd h.2⟩
def Zff (o1 o2:Qh):List (List AV)→List (List AV)→Prop
 | [],[]=>True
 | c::cs,d::ds=>qA o1 o2 c d∧Zff o1 o2 cs ds
 | _,_=>False
theorem Qfs {o1 o2:Qh}:∀ {cs ds:List (List AV)} {r r':List AV},Zff o1 o2 cs ds→qA o1 o2 r r'→qA o1 o2 (fl cs r) (fl ds r')
 | [],[],_,_,_,h=>h
 | [],_::_,_,_,h,_=>h.elim
 | _::_,[],_,_,h,_=>h.elim
 | c::cs,d::ds,r,r',h,h'=>Zz2 (Zfd h.1) (Qfs h.2 h')
theorem Wk.of_fl {cs ds:List (List AV)} {r r':List AV} {o o':Qh} (h:Zff o o' cs ds∧qA o o' r r'∧Zfe o o' o'∧Zh9 o' o):Wk ⟨fl cs r,o⟩ ⟨fl ds r',o'⟩ :=
 ⟨Qfs h.1 h.2.1,h.2.2.1,h.2.2.2⟩
theorem tI {o:Qh}:∀ {a b:List AV},keptAll o a→keptAll o b→keptAll o (a++b)
 | [],_,_,h=>h
 | _::_,_,h,h'=>⟨h.1,tI h.2 h'⟩
theorem eF {o:Qh}:∀ {n:Nat} {a:List AV},keptAll o a→keptAll o (Kv n a)
 | 0,_,_=>trivial
 | n+1,[],_=>⟨by simp only [AV.kept],eF (a:=[]) trivial⟩
 | n+1,_::_,h=>⟨h.1,eF h.2⟩
def Zge (o:Qh):List (List AV)→Prop
 | []=>True
 | c::cs=>keptAll o c∧Zge o cs
theorem lN {o:Qh}:∀ {cs:List (List AV)} {r:List AV},Zge o cs∧keptAll o r→keptAll o (fl cs r)
 | [],_,h=>h.2
 | _::_,_,h=>tI (eF h.1.1) (lN ⟨h.1.2,h.2⟩)
def Qep:Nat→List AV→List (List AV)×List AV
 | 0,l=>([],l)
 | n+1,l=>(l.take 16::(Qep n (l.drop 16)).1,(Qep n (l.drop 16)).2)
theorem xB:∀ (n:Nat) (l:List AV),l.length=n→Kv n l=l
 | 0,[],_=>rfl
 | 0,_::_,h=>by simp at h
 | n+1,[],h=>by simp at h
 | n+1,x::l,h=>by simp only [Kv,xB n l (by simpa using h)]
theorem Qhq:∀ (n:Nat) (l:List AV),16*n≤l.length→fl (Qep n l).1 (Qep n l).2=l
 | 0,l,_=>rfl
 | n+1,l,h=>by
  simp only [Qep,fl];rw [xB 16 (l.take 16) (by rw [List.length_take];omega),Qhq n (l.drop 16) (by rw [List.length_drop];omega),List.take_append_drop]
theorem Qku {C:Ctx} {c:Code} {Q:AExit→AS→Prop} {t:List AV} {o:Qh} (n:Nat) (hn:16*n≤t.length) (h:Shut (Tw C c Q ⟨fl (Qep n t).1 (Qep n t).2,o⟩)):Tw C c Q ⟨t,o⟩:=by
 have:=h.out;rw [Qhq n t hn] at this;exact this
theorem Qf7 {α:Type} {l:List α} {i:Nat} {x d:α} (h:l.getD i d=x) (hx:x≠d):l.set i x=l:=by
 apply List.ext_getElem?;intro j;rw [List.getElem?_set];by_cases fO:i=j
 ·subst fO;rw [if_pos rfl];by_cases hi:i<l.length
  ·rw [if_pos hi];rw [Zd,Zk hi] at h;rw [Zk hi,←h];rfl
  ·rw [Zd,List.getElem?_eq_none (by omega)] at h
   exact absurd h.symm hx
 ·rw [if_neg fO]
theorem wT (C:Ctx) (t:Nat) (x y:Code) (Q:AExit→AS→Prop) (T:List AV) (o:Qh):Tw C (.cond (.tmp t) x y) Q ⟨T,o⟩=(match T.getD t .dead with
  | .d (.bool b)=>(b=true→Tw C x Q ⟨T.set t (.d (.bool true)),o⟩)∧(b=false→Tw C y Q ⟨T.set t (.d (.bool false)),o⟩)
  | _=>False):=by
 rw [Zmd];simp only [AS.ev];generalize hz:T.getD t .dead=z;cases z with
 | d x =>
  cases x with
  | bool b =>
   simp only [D.isBool,D.b,true_and,Qug];have h:=Qf7 hz (by simp)
   cases b with
   | true=>simp only [h];simp
   | false=>simp only [h];simp
  | _=>simp [D.isBool]
 | _=>rfl
theorem wU (C:Ctx) (b:Bool) (x y:Code) (Q:AExit→AS→Prop) (T:List AV) (o:Qh):Tw C (.cond (.const (.bool b)) x y) Q ⟨T,o⟩=((b=true→Tw C x Q ⟨T,o⟩)∧(b=false→Tw C y Q ⟨T,o⟩)):=by
 rw [Zmd];simp only [AS.ev,Pe,bI,D.isBool,D.b,true_and,Qug]
theorem Qqp (b want:Bool) (P Q:Prop):Quf b want P Q=(match want with
  | true=>(b=true→P)∧(b=false→Q)
  | false=>(b=false→P)∧(b=true→Q)):=by
 cases b<;>cases want<;>simp [Quf]
theorem Qx3 (C:Ctx) (ops:List Oper) (o:Oper) (K:AS→Prop) (st:AS):Quk C ops o K st=(match o.guard with
 | none=>qJ C o K st
 | some (j,want)=>match Xu ops st j with
  | .b t b=>(match want with
   | true=>(b=true→qJ C o K ⟨st.tmps.set t (.d (.bool true)),st.objs⟩)∧(b=false→K (AS.put ⟨st.tmps.set t (.d (.bool false)),st.objs⟩ o.dst (.d (.tup [])) st.objs))
   | false=>(b=false→qJ C o K ⟨st.tmps.set t (.d (.bool false)),st.objs⟩)∧(b=true→K (AS.put ⟨st.tmps.set t (.d (.bool true)),st.objs⟩ o.dst (.d (.tup [])) st.objs)))
  | .und=>K (AS.put st o.dst (.d (.tup [])) st.objs)
  | .no=>False):=by
 unfold Quk;cases o.guard with
 | none=>rfl
 | some p =>
  obtain ⟨j,want⟩:=p;simp only;cases Xu ops st j with
  | b t b =>
   simp only [Qqp];cases want<;>rfl
  | und=>rfl
  | no=>rfl
theorem wS (C:Ctx) (ops:List Oper) (i:Nat) (acc:List (Nat×List Nat×Bool)) (K:AS→Prop) (st:AS):K7 C ops i [] acc K st=(Qm7 ops acc=true∧K st):=rfl
theorem sS (C:Ctx) (ops:List Oper) (i:Nat) (o:Oper) (r:List Oper) (acc:List (Nat×List Nat×Bool)) (K:AS→Prop) (st:AS):K7 C ops i (o::r) acc K st=(match o.guard with
  | none=>cT C o (fun fp ro=>K7 C ops (i+1) r ((i,fp,ro)::acc) K) st
  | some (j,want)=>match Xu ops st j with
   | .b t b=>(match want with
    | true=>(b=true→cT C o (fun fp ro=>K7 C ops (i+1) r ((i,fp,ro)::acc) K) ⟨st.tmps.set t (.d (.bool true)),st.objs⟩) ∧
      (b=false→K7 C ops (i+1) r acc K (AS.put ⟨st.tmps.set t (.d (.bool false)),st.objs⟩ o.dst (.d (.tup [])) st.objs))
    | false=>(b=false→cT C o (fun fp ro=>K7 C ops (i+1) r ((i,fp,ro)::acc) K) ⟨st.tmps.set t (.d (.bool false)),st.objs⟩) ∧
      (b=true→K7 C ops (i+1) r acc K (AS.put ⟨st.tmps.set t (.d (.bool true)),st.objs⟩ o.dst (.d (.tup [])) st.objs)))
   | .und=>K7 C ops (i+1) r acc K (AS.put st o.dst (.d (.tup [])) st.objs)
   | .no=>False):=by
 rw [K7];cases o.guard with
 | none=>rfl
 | some p =>
  obtain ⟨j,want⟩:=p;simp only;cases Xu ops st j with
  | b t b =>
   simp only [Qqp];cases want<;>rfl
  | und=>rfl
  | no=>rfl
section
variable (a:Option Tmp) (b:Op) (c:TypeId) (d:String) (e:Array Edge) (f:Option (Nat×Bool))
theorem Qx7:(Oper.mk a b c d e f).dst=a:=rfl
theorem Qx6:(Oper.mk a b c d e f).op=b:=rfl
theorem Qx5:(Oper.mk a b c d e f).type=c:=rfl
theorem Qx4:(Oper.mk a b c d e f).guard=f:=rfl
end
section
variable (a:TK) (b c:Nat) (d:AV) (e:D) (f:List SK)
theorem Qxy:(TI.mk a b c d e f).kind=a:=rfl
theorem Qxx:(TI.mk a b c d e f).size=b:=rfl
theorem Qxw:(TI.mk a b c d e f).bytes=c:=rfl
theorem Qxv:(TI.mk a b c d e f).zero=d:=rfl
theorem Qxu:(TI.mk a b c d e f).zd=e:=rfl
theorem Qxt:(TI.mk a b c d e f).eqk=f:=rfl
end
section
variable (a:Nat→TI) (b:Nat→Option Con) (c:Nat) (d:Nat→Option BCon) (e:List Nat) (f:Bool)
theorem Qyh:(Ctx.mk a b c d e f).τ=a:=rfl
theorem Qyg:(Ctx.mk a b c d e f).Γ=b:=rfl
theorem Qyf:(Ctx.mk a b c d e f).dp=c:=rfl
theorem Qye:(Ctx.mk a b c d e f).Δ=d:=rfl
theorem Qyd:(Ctx.mk a b c d e f).cuts=e:=rfl
theorem Qyc:(Ctx.mk a b c d e f).wr=f:=rfl
end
theorem Qyk (a:List AV) (b:Qh):(AS.mk a b).tmps=a:=rfl
theorem Qyj (a:List AV) (b:Qh):(AS.mk a b).objs=b:=rfl
theorem Qx2 {α β:Type} (a:α) (b:β):(a,b).1=a:=rfl
theorem Qx1 {α β:Type} (a:α) (b:β):(a,b).2=b:=rfl
theorem Qyb (a b:List Bool) (p:List CV→Prop) (f:List CV→CV):(Con.mk a b p f).modes=a:=rfl
theorem Qya (a b:List Bool) (p:List CV→Prop) (f:List CV→CV):(Con.mk a b p f).outs=b:=rfl
theorem Qx9 (a b:List Bool) (p:List CV→Prop) (f:List CV→CV) (x:List CV):(Con.mk a b p f).pre x=p x:=rfl
theorem Qx8 (a b:List Bool) (p:List CV→Prop) (f:List CV→CV) (x:List CV):(Con.mk a b p f).fn x=f x:=rfl
theorem Qx0 {α:Type} (l:List α):l.toArray.toList=l:=rfl
theorem Qf9 {α β:Type} (f:α→β) (x:α) (l:List α):(x::l).map f=f x::l.map f:=rfl
theorem Qae {α β:Type} (f:α→β):([]:List α).map f=[]:=rfl
theorem Qlw {α:Type} (x:α) (l:List α):(x::l).length=l.length+1:=rfl
theorem Qlv {α:Type}:([]:List α).length=0:=rfl
theorem Qly {α:Type} (x:α) (l:List α):(x::l)[0]?=some x:=rfl
theorem Qlx {α:Type} (x:α) (l:List α) (n:Nat):(x::l)[n+1]?=l[n]?:=rfl
theorem Qga {α:Type} (a b:α):cond true a b=a:=rfl
theorem Qgb {α:Type} (a b:α):cond false a b=b:=rfl
theorem Qri (s:Nat) (k:IntKind) (n:Int):AV.cells false s (.d (.int k n))=[.d (.int k n)]:=rfl
theorem Qrh (s:Nat) (b:Bool):AV.cells false s (.d (.bool b))=[.d (.bool b)]:=rfl
theorem Qrg (s:Nat) (b:List UInt8):AV.cells false s (.d (.str b))=[.d (.str b)]:=rfl
theorem Qrf (s:Nat):AV.cells false s (.d .nilf)=[.d .nilf]:=rfl
theorem Qre (s:Nat):AV.cells false s (.d .nilp)=[.d .nilp]:=rfl
theorem Qrd (s m:Nat) (l:List D):AV.cells false s (.d (.list m l))=[.d (.list m l)]:=rfl
theorem Qrc (s m:Nat) (x:D):AV.cells false s (.d (.ptr m x))=[.d (.ptr m x)]:=rfl
theorem Qrb (s f:Nat) (l:List D):AV.cells false s (.d (.clo f l))=[.d (.clo f l)]:=rfl
theorem Qra {α:Type} [Enc α] [Sz α] (s:Nat) (a:Sl α):AV.cells false s (.d (enc a))=[.d (enc a)]:=rfl
theorem Qq9 (ag:Bool) (s i f:Nat):AV.cells ag s (.ref i f)=[.ref i f]:=rfl
theorem Qq8 (ag:Bool) (s i n e f:Nat):AV.cells ag s (.rref i n e f)=[.rref i n e f]:=rfl
theorem Qq7 (ag:Bool) (s i n:Nat):AV.cells ag s (.sl i n)=[.sl i n]:=rfl
theorem Qq3 (ag:Bool) (s i n f:Nat):AV.cells ag s (.sb i n f)=[.sb i n f]:=rfl
theorem Qq2 (ag:Bool) (s i:Nat):AV.cells ag s (.mpr i)=[.mpr i]:=rfl
theorem Qq1 (s:Nat) (ks vs:List D):AV.cells false s (.d (.map ks vs))=[.d (.map ks vs)]:=rfl
theorem Qq0 (s:Nat):AV.cells false s (.d .nilm)=[.d .nilm]:=rfl
theorem Qq6 (ag:Bool) (s f:Nat) (l:List AV):AV.cells ag s (.clo f l)=[.clo f l]:=rfl
theorem Qq5 (ag:Bool) (s m:Nat):AV.cells ag s (.nils m)=[.nils m]:=rfl
theorem Qq4 (ag:Bool) (s:Nat):AV.cells ag s .dead=[.dead]:=rfl
theorem Qqs (i:Decidable True):@decide True i=true:=by simp
theorem Qlz (i:Decidable False):@decide False i=false:=by simp
theorem Qqz (C:Ctx) (h:Nat) (k:IntKind) (n:Int):Pe C h (.int k n)=.d (.int k n):=rfl
theorem Qqy (C:Ctx) (h:Nat) (b:Bool):Pe C h (.bool b)=.d (.bool b):=rfl
theorem Qqx (C:Ctx) (h:Nat) (b:ByteArray):Pe C h (.string b)=.d (.str b.data.toList):=rfl
theorem Qqw (C:Ctx) (h:Nat):Pe C h .nilFunc=.d .nilf:=rfl
theorem Qqv (C:Ctx) (h:Nat):Pe C h (.pointer none)=.d .nilp:=rfl
theorem Qqu (C:Ctx) (h:Nat):Pe C h (.slice none 0 0)=.nils (C.esize h):=rfl
theorem Qqt (C:Ctx) (h:Nat):Pe C h (.map none)=.d .nilm:=rfl
theorem Qyi (l:Array UInt8):(ByteArray.mk l).data=l:=rfl
theorem cU {bc:BCon} {args:List AV} {dst:Option Tmp} {K:List Nat→AS→Prop} {st:AS} (x:bc.X) (rs:List Nat) (h1:bc.ok x) (h2:rnAs rs (bc.args x)=args) (h3:rs.Nodup) (h4:rs.length=(bc.post x).length)
  (h5:Jd rs rs (bc.objs x) st.objs) (h6:Wi (rs.drop (bc.objs x).length) st.objs) (h7:Shut (K (rs.map (· % 4096)) (AS.put st dst (.d (bc.res x)) (Yu rs rs (bc.post x) st.objs)))) (h0:bc.out x=none:=by rfl):Qbv bc args dst K st :=
 ⟨x,rs,h1,h2,h3,h4,h5,h6,by unfold BCon.rvr;rw [h0];exact h7.out⟩
theorem X1 {P:Program} {f:Nat} {con:Con} (h:Oa P f) (hv:∀ c,¬ con.pre c):Qc P (f,con):=⟨h,fun _ _ c _ hp=>absurd hp (hv c)⟩
theorem Zx7 {P:Program} {f:Nat} {bc:BCon} (h:Oa P f) (hv:∀ x,¬ bc.ok x):dA P (f,bc):=⟨h,fun x hx=>absurd hx (hv x)⟩
theorem O9 {bc:BCon} {args:List AV} {dst:Option Tmp} {K:AS→Prop} {st:AS} (x:bc.X) (rs:List Nat) (h1:bc.ok x) (h2:rnAs rs (bc.args x)=args) (h3:rs.Nodup) (h4:rs.length=(bc.post x).length)
  (h5:Jd rs rs (bc.objs x) st.objs) (h6:Wi (rs.drop (bc.objs x).length) st.objs) (h7:Shut (K (AS.put st dst (.d (bc.res x)) (Yu rs rs (bc.post x) st.objs)))) (h0:bc.out x=none:=by rfl):Qid bc args dst K st :=
 ⟨x,rs,h1,h2,h3,h4,h5,h6,by unfold BCon.rvr;rw [h0];exact h7.out⟩
theorem Qqo:((0:Nat):Int)=0:=rfl
theorem Qqn:((1:Nat):Int)=1:=rfl
theorem Qqr (x:D) (l:List D):el (x::l) 0=x:=rfl
theorem Qqq (x:D) (l:List D) (n:Nat):el (x::l) (n+1)=el l n:=rfl
theorem Qqm:((2:Nat):Int)=2:=rfl
theorem Qql:((3:Nat):Int)=3:=rfl
theorem Qqk:((4:Nat):Int)=4:=rfl
theorem Qqe:Int.toNat 1=1:=rfl
theorem Qqd:Int.toNat 2=2:=rfl
theorem Qqc:Int.toNat 3=3:=rfl
theorem Qqj (k:IntKind) (n:Int) (f:Nat) (y:D):D.setCell (.int k n) f y=y:=rfl
theorem Qqi (b:Bool) (f:Nat) (y:D):D.setCell (.bool b) f y=y:=rfl
theorem Qqh (b:List UInt8) (f:Nat) (y:D):D.setCell (.str b) f y=y:=rfl
theorem Qqg (m:Nat) (l:List D) (f:Nat) (y:D):D.setCell (.list m l) f y=y:=rfl
theorem Qqf {α:Type} [Enc α] [Sz α] (a:Sl α) (f:Nat) (y:D):D.setCell (enc a) f y=y:=rfl
theorem Qxz {α:Type} (l:List α):(Sl.mk l).l=l:=rfl
theorem eK (k:Nat):(NatCast.natCast k:Int)=Int.ofNat k:=rfl
theorem Zp {α:Type} [Enc α] {l:List α} {i:Nat} (d:α) (h:i<l.length):el (l.map enc) i=enc (l.getD i d):=Qnj d h
theorem Zw0:type_of% @jQ.eq_def:=@jQ.eq_def
theorem Zwz:type_of% @qJ.eq_def:=@qJ.eq_def
theorem Zwy:type_of% @Nn.eq_def:=@Nn.eq_def
theorem Zwx:type_of% @Xu.eq_def:=@Xu.eq_def
theorem Zww:type_of% @AS.put.eq_def:=@AS.put.eq_def
theorem Zwv:type_of% @qX.eq_def:=@qX.eq_def
theorem Zwu:type_of% @Zao.eq_def:=@Zao.eq_def
theorem Zwt:type_of% @Ctx.one.eq_def:=@Ctx.one.eq_def
theorem Zws:type_of% @Ce.eq_def:=@Ce.eq_def
theorem Zwr:type_of% @Jo.eq_def:=@Jo.eq_def
theorem Zwq:type_of% @Zf0.eq_def:=@Zf0.eq_def
theorem Zwp:type_of% @On.eq_def:=@On.eq_def
theorem Zwo:type_of% @Iy.eq_def:=@Iy.eq_def
theorem Zwn:type_of% @Ctx.esize.eq_def:=@Ctx.esize.eq_def
theorem Zwm:type_of% @Ctx.size.eq_def:=@Ctx.size.eq_def
theorem Zwl:type_of% @Ctx.ag.eq_def:=@Ctx.ag.eq_def
theorem Zwk:type_of% @TK.ag.eq_def:=@TK.ag.eq_def
theorem Zwj:type_of% @Ctx.elemT.eq_def:=@Ctx.elemT.eq_def
theorem Zwi:type_of% @Ctx.fieldAt.eq_def:=@Ctx.fieldAt.eq_def
theorem Zwh:type_of% @Qa8.eq_def:=@Qa8.eq_def
theorem Zwg:type_of% @bA.eq_def:=@bA.eq_def
theorem Zwf:type_of% @kX.eq_def:=@kX.eq_def
theorem Zwe:type_of% @lP.eq_def:=@lP.eq_def
theorem Zwd:type_of% @Nt.eq_def:=@Nt.eq_def
theorem Zwc:type_of% @eH.eq_def:=@eH.eq_def
theorem Zwb:type_of% @Ns.eq_def:=@Ns.eq_def
theorem Zwa:type_of% @eG.eq_def:=@eG.eq_def
theorem Zv9:type_of% @lR.eq_def:=@lR.eq_def
theorem Zv8:type_of% @Nu.eq_def:=@Nu.eq_def
theorem Zv7:type_of% @lS.eq_def:=@lS.eq_def
theorem Zv6:type_of% @Bp.eq_def:=@Bp.eq_def
theorem Zv5:type_of% @Hr.eq_def:=@Hr.eq_def
theorem Zv4:type_of% @bK.eq_def:=@bK.eq_def
theorem Zv3:type_of% @Zkx.eq_def:=@Zkx.eq_def
theorem Zv2:type_of% @Zx5.eq_def:=@Zx5.eq_def
theorem Zv1:type_of% @Zx6.eq_def:=@Zx6.eq_def
theorem Zv0:type_of% @kJ.eq_def:=@kJ.eq_def
theorem Zvz:type_of% @Cc.eq_def:=@Cc.eq_def
theorem Zvy:type_of% @oA.eq_def:=@oA.eq_def
theorem Zvx:type_of% @yI.eq_def:=@yI.eq_def
theorem Zvw:type_of% @rO.eq_def:=@rO.eq_def
theorem Zvv:type_of% @Qpi.eq_def:=@Qpi.eq_def
theorem Zvu:type_of% @Vf.eq_def:=@Vf.eq_def
theorem Zvt:type_of% @nB.eq_def:=@nB.eq_def
theorem Zvs:type_of% @Sn.eq_def:=@Sn.eq_def
theorem Zvr:type_of% @Zc7.eq_def:=@Zc7.eq_def
theorem Zvq:type_of% @tK.eq_def:=@tK.eq_def
theorem Zvp:type_of% @Zj4.eq_def:=@Zj4.eq_def
theorem Zvo:type_of% @Qbe.eq_def:=@Qbe.eq_def
theorem Zvn:type_of% @Iw.eq_def:=@Iw.eq_def
theorem Zvm:type_of% @AV.fits.eq_def:=@AV.fits.eq_def
theorem Zvl:type_of% @Obj.isBox.eq_def:=@Obj.isBox.eq_def
theorem Zvk:type_of% @Zjb.eq_def:=@Zjb.eq_def
theorem Zvj:type_of% @Zcx.eq_def:=@Zcx.eq_def
theorem Zvi:type_of% @Qk0.eq_def:=@Qk0.eq_def
theorem Zvh:type_of% @Zhe.eq_def:=@Zhe.eq_def
theorem Zvg:type_of% @cT.eq_def:=@cT.eq_def
theorem Zvf:type_of% @Qi9.eq_def:=@Qi9.eq_def
theorem Zve:type_of% @Cw.eq_def:=@Cw.eq_def
theorem Zvd:type_of% @rk.eq_def:=@rk.eq_def
theorem Zvc:type_of% @uK.eq_def:=@uK.eq_def
theorem Zvb:type_of% @Qgh.eq_def:=@Qgh.eq_def
theorem Zva:type_of% @Zc4.eq_def:=@Zc4.eq_def
theorem Zu9:type_of% @wN.eq_def:=@wN.eq_def
theorem Zu8:type_of% @SK.is.eq_def:=@SK.is.eq_def
theorem Zu7:type_of% @Zb1.eq_def:=@Zb1.eq_def
theorem Zu6:type_of% @Zlt.eq_def:=@Zlt.eq_def
theorem Zu5:type_of% @AS.ev.eq_def:=@AS.ev.eq_def
theorem Zu4:type_of% @Jq.eq_def:=@Jq.eq_def
theorem Zu3:type_of% @Zhd.eq_def:=@Zhd.eq_def
theorem Zu2:type_of% @keysAll.eq_def:=@keysAll.eq_def
theorem Zu1:type_of% @AV.keys.eq_def:=@AV.keys.eq_def
theorem Zu0:type_of% @U9.eq_def:=@U9.eq_def
theorem Zuz:type_of% @Vv.eq_def:=@Vv.eq_def
theorem Zuy:type_of% @Bk.eq_def:=@Bk.eq_def
theorem Zux:type_of% @Zbz.eq_def:=@Zbz.eq_def
theorem Zuw:type_of% @Nl.eq_def:=@Nl.eq_def
theorem Zuv:type_of% @uV.eq_def:=@uV.eq_def
theorem Zuu:type_of% @Ix.eq_def:=@Ix.eq_def
theorem Zut:type_of% @I9.eq_def:=@I9.eq_def
theorem Zus:type_of% @qC.eq_def:=@qC.eq_def
theorem Zur:type_of% @Vj.eq_def:=@Vj.eq_def
theorem Zuq:type_of% @lk.eq_def:=@lk.eq_def
theorem Zup:type_of% @upd.eq_def:=@upd.eq_def
theorem Zuo:type_of% @Qj2.eq_def:=@Qj2.eq_def
theorem Zun:type_of% @aP.eq_def:=@aP.eq_def
theorem Zum:type_of% @Qj3.eq_def:=@Qj3.eq_def
theorem Zul:type_of% @Bl.eq_def:=@Bl.eq_def
theorem Zuk:type_of% @rnA.eq_def:=@rnA.eq_def
theorem Zuj:type_of% @rnAs.eq_def:=@rnAs.eq_def
theorem Zui:type_of% @Jd.eq_def:=@Jd.eq_def
theorem Zuh:type_of% @Wi.eq_def:=@Wi.eq_def
theorem Zug:type_of% @Yu.eq_def:=@Yu.eq_def
theorem Zuf:type_of% @dU.eq_def:=@dU.eq_def
theorem Zue:type_of% @Zkw.eq_def:=@Zkw.eq_def
theorem Zud:type_of% @AV.off.eq_def:=@AV.off.eq_def
theorem Zuc:type_of% @offAll.eq_def:=@offAll.eq_def
theorem Zub:type_of% @Kl.eq_def:=@Kl.eq_def
theorem Zua:type_of% @yA.eq_def:=@yA.eq_def
theorem Zt9:type_of% @Yz.eq_def:=@Yz.eq_def
theorem Zt8:type_of% @Option.toList.eq_def:=@Option.toList.eq_def
theorem Zt7:type_of% @Ho.eq_def:=@Ho.eq_def
theorem Zt6:type_of% @U1.eq_def:=@U1.eq_def
theorem Zt5:type_of% @Lg.eq_def:=@Lg.eq_def
theorem Zt4:type_of% @Nr.eq_1:=@Nr.eq_1
theorem Zt3:type_of% @Nr.eq_2:=@Nr.eq_2
theorem Zt2:type_of% @Dc.eq_1:=@Dc.eq_1
theorem Zt1:type_of% @Dc.eq_2:=@Dc.eq_2
theorem Zt0:type_of% @Sa.eq_1:=@Sa.eq_1
theorem Ztz:type_of% @Sa.eq_2:=@Sa.eq_2
theorem Zty:type_of% @Sa.eq_3:=@Sa.eq_3
theorem Ztx:type_of% @Sa.eq_4:=@Sa.eq_4
theorem Ztw:type_of% @rR.eq_1:=@rR.eq_1
theorem Ztv:type_of% @rR.eq_2:=@rR.eq_2
theorem Ztu:type_of% @rR.eq_3:=@rR.eq_3
theorem Ztt:type_of% @Hl.eq_1:=@Hl.eq_1
theorem Zts:type_of% @Hl.eq_2:=@Hl.eq_2
theorem Ztr:type_of% @Hl.eq_3:=@Hl.eq_3
theorem Ztq:type_of% @Es.eq_1:=@Es.eq_1
theorem Ztp:type_of% @Es.eq_2:=@Es.eq_2
theorem Zto:type_of% @Th.eq_1:=@Th.eq_1
theorem Ztn:type_of% @Th.eq_2:=@Th.eq_2
theorem Ztm:type_of% @pur.eq_1:=@pur.eq_1
theorem Ztl:type_of% @pur.eq_2:=@pur.eq_2
theorem Ztk:type_of% @pur.eq_3:=@pur.eq_3
theorem Ztj:type_of% @pur.eq_4:=@pur.eq_4
theorem Zti:type_of% @pur.eq_5:=@pur.eq_5
theorem Zth:type_of% @pur.eq_6:=@pur.eq_6
theorem Ztg:type_of% @pur.eq_7:=@pur.eq_7
theorem Ztf:type_of% @pur.eq_8:=@pur.eq_8
theorem Zte:type_of% @purs.eq_1:=@purs.eq_1
theorem Ztd:type_of% @purs.eq_2:=@purs.eq_2
theorem Ztc:type_of% @purs.eq_3:=@purs.eq_3
theorem Ztb:type_of% @Qep.eq_1:=@Qep.eq_1
theorem Zta:type_of% @Qep.eq_2:=@Qep.eq_2
theorem Zs9:type_of% @D.asAgg.eq_1:=@D.asAgg.eq_1
theorem Zs8:type_of% @D.setCell.eq_1:=@D.setCell.eq_1
theorem Zs7:type_of% @AV.cells.eq_1:=@AV.cells.eq_1
theorem Zs6:type_of% @AV.cells.eq_2:=@AV.cells.eq_2
theorem Zs5:type_of% @Mw.eq_1:=@Mw.eq_1
theorem Zs4:type_of% @Xj.eq_1:=@Xj.eq_1
theorem Zs3:type_of% @Jy.eq_1:=@Jy.eq_1
theorem Zs2:type_of% @Um.eq_1:=@Um.eq_1
theorem Zs1:type_of% @Zem.eq_1:=@Zem.eq_1
theorem Zs0:type_of% @Yy.eq_1:=@Yy.eq_1
theorem Zsz:type_of% @Ln.eq_1:=@Ln.eq_1
theorem Zsy:type_of% @Ln.eq_2:=@Ln.eq_2
theorem Zsx:type_of% @D.eqb.eq_1:=@D.eqb.eq_1
theorem Zsw:type_of% @D.eqb.eq_2:=@D.eqb.eq_2
theorem Zsv:type_of% @D.eqb.eq_3:=@D.eqb.eq_3
theorem Zsu:type_of% @Zl9:=@Zl9
theorem Zst:type_of% @Zam:=@Zam
theorem Zss:type_of% @Zmc:=@Zmc
theorem Zsr:type_of% @Qbp:=@Qbp
theorem Zsq:type_of% @wT:=@wT
theorem Zsp:type_of% @wU:=@wU
theorem Zso:type_of% @Zeu:=@Zeu
theorem Zsn:type_of% @Zma:=@Zma
theorem Zsm:type_of% @Zmb:=@Zmb
theorem Zsl:type_of% @Qbq:=@Qbq
theorem Zsk:type_of% @Qx3:=@Qx3
theorem Zsj:type_of% @wS:=@wS
theorem Zsi:type_of% @sS:=@sS
theorem Zsh:type_of% @Qx7:=@Qx7
theorem Zsg:type_of% @Qx6:=@Qx6
theorem Zsf:type_of% @Qx5:=@Qx5
theorem Zse:type_of% @Qx4:=@Qx4
theorem Zsd:type_of% @Qxy:=@Qxy
theorem Zsc:type_of% @Qxx:=@Qxx
theorem Zsb:type_of% @Qxw:=@Qxw
theorem Zsa:type_of% @Qxv:=@Qxv
theorem Zr9:type_of% @Qxu:=@Qxu
theorem Zr8:type_of% @Qxt:=@Qxt
theorem Zr7:type_of% @Qyh:=@Qyh
theorem Zr6:type_of% @Qyg:=@Qyg
theorem Zr5:type_of% @Qyf:=@Qyf
theorem Zr4:type_of% @Qye:=@Qye
theorem Zr3:type_of% @Qyd:=@Qyd
theorem Zr2:type_of% @Qyc:=@Qyc
theorem Zr1:type_of% @Qyk:=@Qyk
theorem Zr0:type_of% @Qyj:=@Qyj
theorem Zrz:type_of% @Qx2:=@Qx2
theorem Zry:type_of% @Qx1:=@Qx1
theorem Zrx:type_of% @Qyb:=@Qyb
theorem Zrw:type_of% @Qya:=@Qya
theorem Zrv:type_of% @Qx9:=@Qx9
theorem Zru:type_of% @Qx8:=@Qx8
theorem Zrt:type_of% @Qx0:=@Qx0
theorem Zrs:type_of% @Qf9:=@Qf9
theorem Zrr:type_of% @Qae:=@Qae
theorem Zrq:type_of% @Qlw:=@Qlw
theorem Zrp:type_of% @Qlv:=@Qlv
theorem Zro:type_of% @Qly:=@Qly
theorem Zrn:type_of% @Qlx:=@Qlx
theorem Zrm:type_of% @Qga:=@Qga
theorem Zrl:type_of% @Qgb:=@Qgb
theorem Zrk:type_of% @oG:=@oG
theorem Zrj:type_of% @Si:=@Si
theorem Zri:type_of% @yK:=@yK
theorem Zrh:type_of% @K6:=@K6
theorem Zrg:type_of% @Qa7:=@Qa7
theorem Zrf:type_of% @Zg5:=@Zg5
theorem Zre:type_of% @Qad:=@Qad
theorem Zrd:type_of% @Zgd:=@Zgd
theorem Zrc:type_of% @gK:=@gK
theorem Zrb:type_of% @Ax:=@Ax
theorem Zra:type_of% @gW:=@gW
theorem Zq9:type_of% @Aw:=@Aw
theorem Zq8:type_of% @Dm:=@Dm
theorem Zq7:type_of% @oR:=@oR
theorem Zq6:type_of% @gH:=@gH
theorem Zq5:type_of% @oO:=@oO
theorem Zq4:type_of% @gF:=@gF
theorem Zq3:type_of% @oT:=@oT
theorem Zq2:type_of% @oP:=@oP
theorem Zq1:type_of% @oS:=@oS
theorem Zq0:type_of% @gD:=@gD
theorem Zqz:type_of% @gE:=@gE
theorem Zqy:type_of% @pP:=@pP
theorem Zqx:type_of% @iT:=@iT
theorem Zqw:type_of% @pM:=@pM
theorem Zqv:type_of% @iR:=@iR
theorem Zqu:type_of% @pR:=@pR
theorem Zqt:type_of% @pO:=@pO
theorem Zqs:type_of% @pS:=@pS
theorem Zqr:type_of% @encI_def:=@encI_def
theorem Zqq:type_of% @encB_def:=@encB_def
theorem Zqp:type_of% @encS_def:=@encS_def
theorem Zqo:type_of% @Qay:=@Qay
theorem Zqn:type_of% @bW:=@bW
theorem Zqm:type_of% @gG:=@gG
theorem Zql:type_of% @iS:=@iS
theorem Zqk:type_of% @Quc:=@Quc
theorem Zqj:type_of% @Qud:=@Qud
theorem Zqi:type_of% @Qua:=@Qua
theorem Zqh:type_of% @Qub:=@Qub
theorem Zqg:type_of% @List.getD_cons_zero:=@List.getD_cons_zero
theorem Zqf:type_of% @List.getD_cons_succ:=@List.getD_cons_succ
theorem Zqe:type_of% @List.set_cons_zero:=@List.set_cons_zero
theorem Zqd:type_of% @List.set_cons_succ:=@List.set_cons_succ
theorem Zqc:type_of% @List.cons_append:=@List.cons_append
theorem Zqb:type_of% @List.nil_append:=@List.nil_append
theorem Zqa:type_of% @List.take_succ_cons:=@List.take_succ_cons
theorem Zp9:type_of% @List.take_zero:=@List.take_zero
theorem Zp8:type_of% @List.drop_succ_cons:=@List.drop_succ_cons
theorem Zp7:type_of% @List.drop_zero:=@List.drop_zero
theorem Zp6:type_of% @vO:=@vO
theorem Zp5:type_of% @pW:=@pW
theorem Zp4:type_of% @vN:=@vN
theorem Zp3:type_of% @pV:=@pV
theorem Zp2:type_of% @J6:=@J6
theorem Zp1:type_of% @Jx:=@Jx
theorem Zp0:type_of% @vI:=@vI
theorem Zpz:type_of% @oY:=@oY
theorem Zpy:type_of% @vH:=@vH
theorem Zpx:type_of% @oJ:=@oJ
theorem Zpw:type_of% @Bool.not_true:=@Bool.not_true
theorem Zpv:type_of% @Bool.not_false:=@Bool.not_false
theorem Zpu:type_of% @Bool.not_not:=@Bool.not_not
theorem Zpt:type_of% @Int.toNat_natCast:=@Int.toNat_natCast
theorem Zps:type_of% @Int.toNat_zero:=@Int.toNat_zero
theorem Zpr:type_of% @Qaa:=@Qaa
theorem Zpq:type_of% @Qul:=@Qul
theorem Zpp:type_of% @Qxz:=@Qxz
theorem Zpo:type_of% @Qqr:=@Qqr
theorem Zpn:type_of% @Qqq:=@Qqq
theorem Zpm:type_of% @Qqm:=@Qqm
theorem Zpl:type_of% @Qql:=@Qql
theorem Zpk:type_of% @Qqk:=@Qqk
theorem Zpj:type_of% @Qqe:=@Qqe
theorem Zpi:type_of% @Qqd:=@Qqd
theorem Zph:type_of% @Qqc:=@Qqc
theorem Zpg:type_of% @Qqj:=@Qqj
theorem Zpf:type_of% @Qqi:=@Qqi
theorem Zpe:type_of% @Qqh:=@Qqh
theorem Zpd:type_of% @Qqg:=@Qqg
theorem Zpc:type_of% @Qqf:=@Qqf
theorem Zpb:type_of% @Qqo:=@Qqo
theorem Zpa:type_of% @Qqn:=@Qqn
theorem Zo9:type_of% @Qqs:=@Qqs
theorem Zo8:type_of% @Qlz:=@Qlz
theorem Zo7:type_of% @Qqz:=@Qqz
theorem Zo6:type_of% @Qqy:=@Qqy
theorem Zo5:type_of% @Qqx:=@Qqx
theorem Zo4:type_of% @Qqw:=@Qqw
theorem Zo3:type_of% @Qqv:=@Qqv
theorem Zo2:type_of% @Qqu:=@Qqu
theorem Zo1:type_of% @Qyi:=@Qyi
theorem Zo0:type_of% @Bool.and_true:=@Bool.and_true
theorem Zoz:type_of% @Bool.true_and:=@Bool.true_and
theorem Zoy:type_of% @Bool.and_false:=@Bool.and_false
theorem Zox:type_of% @Bool.false_and:=@Bool.false_and
theorem Zow:type_of% @Qri:=@Qri
theorem Zov:type_of% @Qrh:=@Qrh
theorem Zou:type_of% @Qrg:=@Qrg
theorem Zot:type_of% @Qrf:=@Qrf
theorem Zos:type_of% @Qre:=@Qre
theorem Zor:type_of% @Qrd:=@Qrd
theorem Zoq:type_of% @Qrc:=@Qrc
theorem Zop:type_of% @Qrb:=@Qrb
theorem Zoo:type_of% @Qra:=@Qra
theorem Zon:type_of% @Qq9:=@Qq9
theorem Zom:type_of% @Qq8:=@Qq8
theorem Zol:type_of% @Qq7:=@Qq7
theorem Zok:type_of% @Qq6:=@Qq6
theorem Zoj:type_of% @Qq5:=@Qq5
theorem Zoi:type_of% @Qq4:=@Qq4
theorem Zoh:type_of% @Bool.true_eq_false:=@Bool.true_eq_false
theorem Zog:type_of% @Bool.false_eq_true:=@Bool.false_eq_true
theorem Zof:type_of% @true_and:=@true_and
theorem Zoe:type_of% @and_true:=@and_true
theorem Zod:type_of% @and_assoc:=@and_assoc
theorem Zoc:type_of% @List.length_map:=@List.length_map
theorem Zob:type_of% @List.append_nil:=@List.append_nil
theorem Zoa:type_of% @List.getD_nil:=@List.getD_nil
theorem Zn9:type_of% @oU.eq_def:=@oU.eq_def
theorem Zn8:type_of% @Qq3:=@Qq3
theorem Zn7:type_of% @Zjw.eq_def:=@Zjw.eq_def
theorem Zn6:type_of% @rC.eq_def:=@rC.eq_def
theorem Zn5:type_of% @Ay.eq_def:=@Ay.eq_def
theorem Zn4:type_of% @Bo.eq_def:=@Bo.eq_def
theorem Zn3:type_of% @Oy.eq_def:=@Oy.eq_def
theorem Zn2:type_of% @Fw.eq_def:=@Fw.eq_def
theorem Zn1:type_of% @G4.eq_def:=@G4.eq_def
theorem Zn0:type_of% @Ctx.mapE.eq_def:=@Ctx.mapE.eq_def
theorem Znz:type_of% @Qq2:=@Qq2
theorem Zny:type_of% @Qq1:=@Qq1
theorem Znx:type_of% @Qq0:=@Qq0
theorem Znw:type_of% @pur.eq_9:=@pur.eq_9
theorem Znv:type_of% @Zlb:=@Zlb
theorem Znu:type_of% @Zd2:=@Zd2
theorem Znt:type_of% @Zlz:=@Zlz
theorem Zns:type_of% @Qif.eq_def:=@Qif.eq_def
theorem Znr:type_of% @Qgg.eq_def:=@Qgg.eq_def
theorem Znq:type_of% @Qqt:=@Qqt
theorem Znp:type_of% @Ye.eq_def:=@Ye.eq_def
theorem Zno:type_of% @eI.eq_def:=@eI.eq_def
theorem Znn:type_of% @Qls.eq_1:=@Qls.eq_1
theorem Znm:type_of% @Qls.eq_2:=@Qls.eq_2
theorem Znl:type_of% @Qjg.eq_1:=@Qjg.eq_1
theorem Znk:type_of% @Qjg.eq_2:=@Qjg.eq_2
theorem Znj:type_of% @yT.eq_def:=@yT.eq_def
theorem Zni:type_of% @eO.eq_def:=@eO.eq_def
theorem Znh:type_of% @dV.eq_def:=@dV.eq_def
theorem Zng:type_of% @F3.eq_def:=@F3.eq_def
theorem Znf:type_of% @Bq.eq_def:=@Bq.eq_def
theorem Zne:type_of% @Hq.eq_def:=@Hq.eq_def
theorem Znd:type_of% @L4.eq_def:=@L4.eq_def
theorem Qgv:type_of% @Int.ofNat_eq_natCast:=@Int.ofNat_eq_natCast
theorem wI:(type_of% @List.length_cons.{0})∧(type_of% @List.length_nil.{0})∧(type_of% @List.cons_append.{0})∧(type_of% @List.nil_append.{0})∧(type_of% @and_assoc)∧(type_of% @true_and)∧(type_of% @and_true)∧(type_of% @List.map_cons.{0,0})∧(type_of% @List.map_nil.{0,0})∧(type_of% @gK)∧(type_of% @Ax)∧(type_of% @gW)∧(type_of% @Aw)∧(type_of% @Dm)∧(type_of% @Qa7)∧(type_of% @Zg5)∧(type_of% @Qad)∧(type_of% @Zgd)∧(type_of% @oR)∧(type_of% @gH)∧(type_of% @oO)∧(type_of% @gF)∧(type_of% @oT)∧(type_of% @oP)∧(type_of% @oS)∧(type_of% @gD)∧(type_of% @gE)∧(type_of% @pP)∧(type_of% @iT)∧(type_of% @pM)∧(type_of% @iR)∧(type_of% @pR)∧(type_of% @pO)∧(type_of% @pS)∧(type_of% @encI_def)∧(type_of% @encB_def)∧(type_of% @encS_def)∧(type_of% @Ql5)∧(type_of% @Ql7)∧(type_of% @Qlu)∧(type_of% @Zdt)∧(type_of% @yG)∧(type_of% @Zdr)∧(type_of% @Zd4)∧(type_of% @Zeq)∧(type_of% @Zd5)∧(type_of% @Zer)∧(type_of% @Zd3)∧(type_of% @Zep)∧(type_of% @oW)∧(type_of% @Qay)∧(type_of% @bW)∧(type_of% @gG)∧(type_of% @iS)∧(type_of% @vO)∧(type_of% @pW)∧(type_of% @vN)∧(type_of% @pV)∧(type_of% @vI)∧(type_of% @oY)∧(type_of% @vH)∧(type_of% @oJ)∧(type_of% @J6)∧(type_of% @Xd)∧(type_of% @Qa1)∧(type_of% @Jx)∧(type_of% @Jj)∧(type_of% @Q7)∧(type_of% @Q9)∧(type_of% @St)∧(type_of% @Quc)∧(type_of% @Qud)∧(type_of% @Qua)∧(type_of% @Qub)∧(type_of% @Ql6)∧(type_of% @Qro)∧(type_of% @Qqa)∧(type_of% @Ql2)∧(type_of% @Qrp)∧(type_of% @Qul)∧(type_of% @List.length_map.{0,0})∧(type_of% @List.length_append.{0})∧(type_of% @List.length_replicate.{0})∧(type_of% @Int.toNat_natCast)∧(type_of% @Bool.not_true)∧(type_of% @Bool.not_false)∧(type_of% @Bool.not_not)∧(type_of% @decide_true)∧(type_of% @decide_false)∧(type_of% @Bool.and_true)∧(type_of% @Bool.true_and)∧(type_of% @Bool.and_false)∧(type_of% @Bool.false_and)∧(type_of% @Bool.or_true)∧(type_of% @Bool.true_or)∧(type_of% @Bool.or_false)∧(type_of% @Bool.false_or)∧(type_of% @List.length_singleton.{0})∧(type_of% @decide_eq_true_eq)∧(type_of% @decide_eq_false_iff_not)∧(type_of% @beq_iff_eq.{0})∧(type_of% @beq_eq_false_iff_ne.{0})∧(type_of% @bne_iff_ne.{0})∧(type_of% @bne_eq_false_iff_eq.{0})∧(type_of% @Bool.not_eq_true')∧(type_of% @Bool.not_eq_false')∧(type_of% @forall_const.{1})∧(type_of% @true_imp_iff)∧(type_of% @false_imp_iff)∧(type_of% @if_true.{1})∧(type_of% @if_false.{1})∧(type_of% @and_self)∧(type_of% @or_self)∧(type_of% @not_true)∧(type_of% @not_false_eq_true)∧(type_of% @List.append_nil.{0})∧(type_of% @D.bool.injEq)∧(type_of% @D.int.injEq)∧(type_of% @D.str.injEq)∧(type_of% @D.list.injEq)∧(type_of% @D.agg.injEq)∧(type_of% @bne_self_eq_false.{0})∧(type_of% @CV.d.injEq)∧(type_of% @CV.own.injEq)∧(type_of% @CV.tup.injEq)∧(type_of% @List.cons.injEq.{0})∧(type_of% @List.toList_toArray.{0})∧(type_of% @Option.some.injEq.{0})∧(type_of% @Prod.mk.injEq.{0,0})∧(type_of% @List.take_succ_cons.{0})∧(type_of% @List.take_zero.{0})∧(type_of% @List.drop_succ_cons.{0})∧(type_of% @List.drop_zero.{0})∧(type_of% @List.getD_nil.{0})∧(type_of% @map_snoc)∧(type_of% @Zdc)∧(type_of% @Zdd)∧(type_of% @Zdb)∧(type_of% @Qas)∧(type_of% @List.not_mem_nil.{0})∧(type_of% @false_implies)∧(type_of% @implies_true.{1})∧(type_of% @List.mem_cons.{0})∧(type_of% @or_false)∧(type_of% @forall_eq_or_imp.{1})∧(type_of% @forall_eq.{1})∧(type_of% @ne_eq.{1})∧(type_of% @cond_true.{1})∧(type_of% @cond_false.{1})∧(type_of% @Bool.false_eq_true):=⟨@List.length_cons.{0},@List.length_nil.{0},@List.cons_append.{0},@List.nil_append.{0},@and_assoc,@true_and,@and_true,@List.map_cons.{0,0},@List.map_nil.{0,0},@gK,@Ax,@gW,@Aw,@Dm,@Qa7,@Zg5,@Qad,@Zgd,@oR,@gH,@oO,@gF,@oT,@oP,@oS,@gD,@gE,@pP,@iT,@pM,@iR,@pR,@pO,@pS,@encI_def,@encB_def,@encS_def,@Ql5,@Ql7,@Qlu,@Zdt,@yG,@Zdr,@Zd4,@Zeq,@Zd5,@Zer,@Zd3,@Zep,@oW,@Qay,@bW,@gG,@iS,@vO,@pW,@vN,@pV,@vI,@oY,@vH,@oJ,@J6,@Xd,@Qa1,@Jx,@Jj,@Q7,@Q9,@St,@Quc,@Qud,@Qua,@Qub,@Ql6,@Qro,@Qqa,@Ql2,@Qrp,@Qul,@List.length_map.{0,0},@List.length_append.{0},@List.length_replicate.{0},@Int.toNat_natCast,@Bool.not_true,@Bool.not_false,@Bool.not_not,@decide_true,@decide_false,@Bool.and_true,@Bool.true_and,@Bool.and_false,@Bool.false_and,@Bool.or_true,@Bool.true_or,@Bool.or_false,@Bool.false_or,@List.length_singleton.{0},@decide_eq_true_eq,@decide_eq_false_iff_not,@beq_iff_eq.{0},@beq_eq_false_iff_ne.{0},@bne_iff_ne.{0},@bne_eq_false_iff_eq.{0},@Bool.not_eq_true',@Bool.not_eq_false',@forall_const.{1},@true_imp_iff,@false_imp_iff,@if_true.{1},@if_false.{1},@and_self,@or_self,@not_true,@not_false_eq_true,@List.append_nil.{0},@D.bool.injEq,@D.int.injEq,@D.str.injEq,@D.list.injEq,@D.agg.injEq,@bne_self_eq_false.{0},@CV.d.injEq,@CV.own.injEq,@CV.tup.injEq,@List.cons.injEq.{0},@List.toList_toArray.{0},@Option.some.injEq.{0},@Prod.mk.injEq.{0,0},@List.take_succ_cons.{0},@List.take_zero.{0},@List.drop_succ_cons.{0},@List.drop_zero.{0},@List.getD_nil.{0},@map_snoc,@Zdc,@Zdd,@Zdb,@Qas,@List.not_mem_nil.{0},@false_implies,@implies_true.{1},@List.mem_cons.{0},@or_false,@forall_eq_or_imp.{1},@forall_eq.{1},@ne_eq.{1},@cond_true.{1},@cond_false.{1},@Bool.false_eq_true⟩
end Go.Am
