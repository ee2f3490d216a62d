/- Contracts of functions that the law reaches, and plain laws. Conditions: those that each contract states. -/
import Derived.Test.YtilpfkjhahnfaaaGreatP11
set_option maxHeartbeats 8000000
set_option linter.unusedVariables false
set_option linter.unusedSimpArgs false
variable {p:Prop}
set_option maxRecDepth 100000
namespace Go.Am.Ty
open Go.Proofs Go.Rose Go.Rose.Rose Gr
open Enc (enc dec)
theorem gN:(enc (Sl.mk ([]:List Node)):D)=.list 3 []:=rfl
def Lx:Con:=Xj (fun (_:Sl Node)=>True) (fun _=>(⟨[]⟩:Sl Node))
theorem kV:Qc Tryz.prog (73,Lx):=by
 obtain ⟨Kx,Kt,Kc,Kd,Kb,Ku,Kw,K,_⟩:=J7 Zx Zo [] false J5;have Ko:=Lx.eq_def;refine J9 K Tryz.func73 [.tmp 2] rfl 3 rfl (fun c hc Ji Zh=>?_);unfold Lx at Zh;obtain ⟨⟨t⟩,rfl,-⟩:=Q8 Zh;cases hc;exact N6
def iX:Con:=Jy (fun (e:Sl Part) (_:Fn0 73)=>e.l.length≤1000000) (fun e _=>Sl.mk (e.l.mapIdx fun _=>Vw))
class Kjk:Prop
theorem Kjk.k (_:Kjk) (h:p:=by
 first|exact ⟨j+1,by (have Vc:=Jb;have Cs:=r9b;exact Qt),by omega,by omega⟩|skip):p:=h
class Kjj:Prop
theorem Kjj.k (_:Kjj) (h:p:=by
 refine Zm [6,7,13,14,15,16,17,18,19,20,21,22,23,24,25,26,27,28,29,30,31,32,33] (fun j:Nat=>[(12,.d (.int .i64 j))]) (fun j:Nat=>[(9,.row 8 ((Uv (fun _=>Vw) xe j).map enc) 0)]) (fun j:Nat=>j≤xe.length) (fun j:Nat=>xe.length-j) 0 ?_ ?_ ?_
 ·omega
 ·have Vc:=@V6;exact Qt
 rintro j hj;have L8:=Kk (f:=fun _=>Vw) (l:=xe) j;rcases Zn j xe.length with ⟨Ka,Qk⟩|⟨Ka,Qk⟩
 rotate_left
 ·have wZ:j=xe.length:=by omega
  have Zbc:Uv (fun _=>Vw) xe j=xe.mapIdx fun _=>Vw:=by rw [wZ,V7]
  have Qo:((xe.mapIdx fun _=>Vw).map (enc:Part→D)).length=xe.length:=by simp
  rw [Zbc];rw [wZ] at Qk;obtain ⟨E2,Qn⟩:=exq ((xe.mapIdx fun _=>Vw));have Qi:(xe.mapIdx fun _=>Vw).length=xe.length:=by simp
  rw [Qn] at Qo Qi ⊢;exact N6
 have Qv:=Zp e0 (show j<(Uv (fun _=>Vw) xe j).length by omega)
 rw [Ms e0 Ka] at Qv;have R8:=Kj e0 Ka (f:=fun _=>Vw);obtain ⟨p0,Zzq⟩:=exq (xe.getD j e0);rw [Zzq] at Qv R8;obtain ⟨pk,pl,pn,pb,pm,pq,pt,pu⟩:=p0;obtain ⟨S,Qo3⟩:=exq (Uv (fun _=>Vw) xe j);rw [Qo3] at Qv R8 L8 ⊢;have Ql:(S.map (enc:Part→D)).length=xe.length:=by rw [Zf,L8]
 have Q3:(S.map (enc:Part→D)).set j (.agg [.int .i64 pk,.str pl,.str pn,.str pb,.int .i64 pm,.int .i64 pq,.list 3 [],.list 3 (pu.map enc)])=(S.set j ⟨pk,pl,pn,pb,pm,pq,[],pu⟩).map enc:=X0 (y:=(⟨pk,pl,pn,pb,pm,pq,[],pu⟩:Part));have Jh:el ((S.set j ⟨pk,pl,pn,pb,pm,pq,[],pu⟩).map (enc:Part→D)) j=.agg [.int .i64 pk,.str pl,.str pn,.str pb,.int .i64 pm,.int .i64 pq,.list 3 [],.list 3 (pu.map enc)]:=Br (by omega)
 have Jb:((S.set j ⟨pk,pl,pn,pb,pm,pq,[],pu⟩).map (enc:Part→D)).set j (.agg [.int .i64 pk,.str pl,.str pn,.str pb,.int .i64 pm,.int .i64 pq,.list 3 [],.list 3 []])=(Uv (fun _=>Vw) xe (j+1)).map enc:=by
  rw [←R8];refine Eq.trans (X0 (y:=Vw ⟨pk,pl,pn,pb,pm,pq,pt,pu⟩)) ?_;rw [List.set_set]
 have r9b:(S.map (enc:Part→D)).set j (.agg [.int .i64 pk,.str pl,.str pn,.str pb,.int .i64 pm,.int .i64 pq,.list 3 [],.list 3 []])=(Uv (fun _=>Vw) xe (j+1)).map enc:=by
  rw [←Jb,←X0,List.set_set]
 have Qp:((S.set j ⟨pk,pl,pn,pb,pm,pq,[],pu⟩).map (enc:Part→D)).length=xe.length:=by rw [Zf,List.length_set,L8]
 have Qfd:(S.set j ⟨pk,pl,pn,pb,pm,pq,[],pu⟩).length=xe.length:=by rw [List.length_set,L8]
 have Qv:el (S.map (enc:Part→D)) j=.agg [.int .i64 pk,.str pl,.str pn,.str pb,.int .i64 pm,.int .i64 pq,.list 3 (pt.map enc),.list 3 (pu.map enc)]:=Qv;have Z3:=@gN;have Kq:Kjk:=⟨⟩;exact Jw):p:=h
theorem good_exprN:Qc Tryz.prog (119,iX):=by
 obtain ⟨Kx,Kt,Kc,Kd,Kb,Ku,Kw,K,X4,V2,_⟩:=J7 Zx Zo [] false (Q1 good_cloneE Rv.eq_def (Q1 kV Lx.eq_def J5));have Ko:=iX.eq_def;refine J9 K Tryz.func119 [.tmp 4] rfl 35 rfl (fun c hc Ji Zh=>?_);unfold iX at Zh;obtain ⟨⟨xe⟩,f,rfl,aA⟩:=Qf Zh;simp only at aA;clear Zh;cases hc;refine W5 2 ?_;have Kq:Kjj:=⟨⟩;exact Jw
def iY:Con:=Jy (fun (p:Sl Mod6) (_:Fn0 73)=>BareOk p.l) (fun p _=>Sl.mk (p.l.mapIdx fun _=>Vn))
class Kjm:Prop
theorem Kjm.k (_:Kjm) (h:p:=by
 first|rfl|trivial|(simp;done)|skip):p:=h
class Kjo:Prop
theorem Kjo.k (_:Kjo) (h:p:=by
 first|exact ⟨k+1,by (have Vc:=qV;have Cs:=Jh;have Zm3:=Qlh;exact Qp8),by omega,by omega⟩|skip):p:=h
class Kjp:Prop
theorem Kjp.k (_:Kjp) (h:p:=by
 first|exact Qox|exact ⟨d+1,by (have Vc:=Qg;have Cs:=r9b;exact Qt),by omega,by omega⟩|skip):p:=h
class Kjn:Prop
theorem Kjn.k (_:Kjn) (h:p:=by
 refine Zm [7,8,33,34,35,36,37,38,39,40,41,42,43,44,45,46,47,48,49,50,51,52,53,54,55,56,57,58,59,60,61] (fun d:Nat=>[(32,.d (.int .i64 d))]) (fun d:Nat=>[(23,.row 3 ((Uv (fun _=>X2) md d).map enc) 0)]) (fun d:Nat=>d≤md.length) (fun d:Nat=>md.length-d) 0 ?_ ?_ ?_
 ·omega
 ·have Vc:=@V6;exact Qt
 rintro d hd;have Mq:=Kk (f:=fun _=>X2) (l:=md) d;rcases Zn d md.length with ⟨Ki,Jb⟩|⟨Ki,Jb⟩
 rotate_left
 ·have Zcb:d=md.length:=by omega
  have Zbc:Uv (fun _=>X2) md d=md.mapIdx fun _=>X2:=by rw [Zcb,V7]
  have qV:(P.map (enc:Mod6→D)).set k (.agg [.str mn,.list 1 (mi.map enc),.list 3 ((md.mapIdx fun _=>X2).map enc),.list 3 (ms.map enc)])=(Uv (fun _=>Vn) p (k+1)).map enc:=by
   rw [←C4,←X0];rfl
  have Qlh:k<(P.map (enc:Mod6→D)).length:=by omega
  have Z3:(md.mapIdx fun _=>X2).length=md.length:=by simp
  rw [Zbc];have Q4:=@gN;have Kq:Kjo:=⟨⟩;exact Jw
 have Z6:=Zp Q6 Ki;have Z7:=Zp Q6 (show d<(Uv (fun _=>X2) md d).length by omega)
 rw [Ms Q6 Ki] at Z7;have L7:=Kj Q6 Ki (f:=fun _=>X2);have Qox:=Qov (md.getD d Q6) (by simp [Ki])
 obtain ⟨x,hx⟩:=exq (md.getD d Q6);rw [hx] at Z6 Z7 L7 Qox;obtain ⟨xn,xt,xe⟩:=x;simp only at Qox;obtain ⟨Q,hQ⟩:=exq (Uv (fun _=>X2) md d);rw [hQ] at Z7 L7 Mq ⊢;have Qq:(Q.map (enc:Def6→D)).length=md.length:=by rw [Zf,Mq]
 obtain ⟨E2,Qw⟩:=exq ((xe.mapIdx fun _=>Vw));have Qt4:X2 ⟨xn,xt,xe⟩=⟨xn,[],E2⟩:=by unfold X2;rw [Qw]
 have Qr:(0:Nat)=0:=rfl;have Qx:(Q.map (enc:Def6→D)).set d (.agg [.str xn,.list 3 [],.list 8 (xe.map enc)])=(Q.set d ⟨xn,[],xe⟩).map enc:=X0 (y:=(⟨xn,[],xe⟩:Def6));have Qm:el ((Q.set d ⟨xn,[],xe⟩).map (enc:Def6→D)) d=.agg [.str xn,.list 3 [],.list 8 (xe.map enc)]:=Br (by omega)
 have Qg:((Q.set d ⟨xn,[],xe⟩).map (enc:Def6→D)).set d (.agg [.str xn,.list 3 [],enc (Sl.mk E2)])=(Uv (fun _=>X2) md (d+1)).map enc:=by
  rw [←L7,Qt4];refine Eq.trans (X0 (y:=(⟨xn,[],E2⟩:Def6))) ?_;rw [List.set_set]
 have r9b:(Q.map (enc:Def6→D)).set d (.agg [.str xn,.list 3 [],enc (Sl.mk E2)])=(Uv (fun _=>X2) md (d+1)).map enc:=by
  rw [←Qg,←X0,List.set_set]
 have Qj:((Q.set d ⟨xn,[],xe⟩).map (enc:Def6→D)).length=md.length:=by rw [Zf,List.length_set,Mq]
 have Qmw:(Q.set d ⟨xn,[],xe⟩).length=md.length:=by rw [List.length_set,Mq]
 have Q4:=@gN;have Kq:Kjp:=⟨⟩;exact Jw):p:=h
class Kjl:Prop
theorem Kjl.k (_:Kjl) (h:p:=by
 refine L5 [] 10 [6,7,8,14,15,16,17,18,19,20,21,22,23,24,25,26,27,28,29,30,31,32,33,34,35,36,37,38,39,40,41,42,43,44,45,46,47,48,49,50,51,52,53,54,55,56,57,58,59,60,61,62] (fun k:Nat=>[(13,.d (.int .i64 k))]) (fun k:Nat=>[(10,.row 4 ((Uv (fun _=>Vn) p k).map enc) k),(50010,.slot k 2)]) (fun k:Nat=>k≤p.length) (fun k:Nat=>p.length-k) 0 ?_ ?_ ?_
 ·omega
 ·show Wk _ _;have Vc:=@V6;exact Qt
 rintro k hk;have Zhp:=Kk (f:=fun _=>Vn) (l:=p) k;rcases Zn k p.length with ⟨Zv,Qo⟩|⟨Zv,Qo⟩
 rotate_left
 ·have Ni:k=p.length:=by omega
  rw [Ni];rw [Ni] at Qo;rw [V7,hR];have Qi:(R.map (enc:Mod6→D)).length=p.length:=by rw [←hR,Zf,List.length_mapIdx]
  have Qn:R.length=p.length:=by rw [←hR,List.length_mapIdx]
  have Ql:=hR;have Q4:=@gN;have Kq:Kjm:=⟨⟩;exact Jw
 have Qp:=Zp Je Zv;have Qv:=Zp Je (show k<(Uv (fun _=>Vn) p k).length by omega)
 rw [Ms Je Zv] at Qv;have C4:=Kj Je Zv (f:=fun _=>Vn);have Yn:p.getD k Je∈p:=by simp [Zv]
 have fP:=hO.defs _ Yn;have Qov:=hO.e _ Yn;obtain ⟨m,hm⟩:=exq (p.getD k Je);rw [hm] at Qp Qv C4 fP Qov;obtain ⟨mn,mi,md,ms⟩:=m;simp only at fP Qov;obtain ⟨P,hP⟩:=exq (Uv (fun _=>Vn) p k);rw [hP] at Qv C4 Zhp ⊢;have Q3:(P.map (enc:Mod6→D)).length=p.length:=by rw [Zf,Zhp]
 have Jh:∀ X:D,((P.map (enc:Mod6→D)).set k X).length=p.length:=fun X=>by rw [List.length_set,Q3]
 have Q4:=@gN;have Kq:Kjn:=⟨⟩;exact Jw):p:=h
theorem good_eachN:Qc Tryz.prog (65,iY):=by
 obtain ⟨Kx,Kt,Kc,Kd,Kb,Ku,Kw,K,X4,V2,Mo,Tx,_⟩:=J7 Zx Zo [] false (Q1 good_cloneMods Hf.eq_def (Q1 good_cloneDefs Hg.eq_def (Q1 good_exprN iX.eq_def (Q1 kV Lx.eq_def J5))));have Ko:=iY.eq_def;refine J9 K Tryz.func65 [.tmp 4] rfl 64 rfl (fun c hc Ji Zh=>?_);unfold iY at Zh;obtain ⟨⟨p⟩,f,rfl,hO⟩:=Qf Zh;simp only at hO;clear Zh;have qE:=hO.len;have Qk:(p.map (enc:Mod6→D)).length=p.length:=Zf ..;obtain ⟨R,hR⟩:=exq ((p.mapIdx fun _=>Vn));cases hc;refine W5 4 ?_;have Q4:=@gN;have Kq:Kjl:=⟨⟩;exact Jw
def Sd (m:MT) (d:Def6):Def6:=⟨d.name,Y8 m d.t,d.e.map (Hs m)⟩
def eR (m:MT) (x:Mod6):Mod6:=⟨x.name,x.imps,x.defs.mapIdx fun _=>Sd m,x.sites⟩
def I2 (m:MT) (p:List Mod6):List Mod6:=p.mapIdx fun _=>eR m
structure EachOk (p:List Mod6):Prop where
 len:p.length≤1000
 defs:∀ m∈p,m.defs.length≤1000
 d:∀ m∈p,∀ d∈m.defs,d.t.length≤200000∧Zzi d.e
def iV:Con:=Jy (fun (p:Sl Mod6) (f:Fil)=>EachOk p.l∧kG f.m) (fun p f=>Sl.mk (I2 f.m p.l))
class Kjr:Prop
theorem Kjr.k (_:Kjr) (h:p:=by
 first|rfl|trivial|(simp;done)|skip):p:=h
class Kjt:Prop
theorem Kjt.k (_:Kjt) (h:p:=by
 first|exact ⟨k+1,by (have Vc:=qV;have Cs:=Jh;have Zm3:=Qlh;exact Qp8),by omega,by omega⟩|skip):p:=h
class Kju:Prop
theorem Kju.k (_:Kju) (h:p:=by
 first|exact Qzy|exact Zcb|exact Qwz|exact ⟨d+1,by (have Vc:=Qg;have Cs:=r9b;exact Qt),by omega,by omega⟩|skip):p:=h
class Kjs:Prop
theorem Kjs.k (_:Kjs) (h:p:=by
 refine Zm [7,8,33,34,35,36,37,38,39,40,41,42,43,44,45,46,47,48,49,50,51,52,53,54,55,56,57,58,59,60,61] (fun d:Nat=>[(32,.d (.int .i64 d))]) (fun d:Nat=>[(23,.row 3 ((Uv (fun _=>Sd ⟨ks,vs⟩) md d).map enc) 0)]) (fun d:Nat=>d≤md.length) (fun d:Nat=>md.length-d) 0 ?_ ?_ ?_
 ·omega
 ·have Vc:=@V6;exact Qt
 rintro d hd;have Mq:=Kk (f:=fun _=>Sd ⟨ks,vs⟩) (l:=md) d;rcases Zn d md.length with ⟨Ki,Jb⟩|⟨Ki,Jb⟩
 rotate_left
 ·have Zcb:d=md.length:=by omega
  have Zbc:Uv (fun _=>Sd ⟨ks,vs⟩) md d=md.mapIdx fun _=>Sd ⟨ks,vs⟩:=by rw [Zcb,V7]
  have qV:(P.map (enc:Mod6→D)).set k (.agg [.str mn,.list 1 (mi.map enc),.list 3 ((md.mapIdx fun _=>Sd ⟨ks,vs⟩).map enc),.list 3 (ms.map enc)])=(Uv (fun _=>eR ⟨ks,vs⟩) p (k+1)).map enc:=by
   rw [←C4,←X0];rfl
  have Qlh:k<(P.map (enc:Mod6→D)).length:=by omega
  have Z3:(md.mapIdx fun _=>Sd ⟨ks,vs⟩).length=md.length:=by simp
  rw [Zbc];have Kq:Kjt:=⟨⟩;exact Jw
 have Z6:=Zp Q6 Ki;have Z7:=Zp Q6 (show d<(Uv (fun _=>Sd ⟨ks,vs⟩) md d).length by omega)
 rw [Ms Q6 Ki] at Z7;have L7:=Kj Q6 Ki (f:=fun _=>Sd ⟨ks,vs⟩);have Qox:=Qov (md.getD d Q6) (by simp [Ki])
 obtain ⟨x,hx⟩:=exq (md.getD d Q6);rw [hx] at Z6 Z7 L7 Qox;obtain ⟨xn,xt,xe⟩:=x;simp only at Qox;obtain ⟨Q,hQ⟩:=exq (Uv (fun _=>Sd ⟨ks,vs⟩) md d);rw [hQ] at Z7 L7 Mq ⊢;have Qq:(Q.map (enc:Def6→D)).length=md.length:=by rw [Zf,Mq]
 obtain ⟨Qwz,Zcb⟩:=Qox;obtain ⟨T2,Qr⟩:=exq (Y8 ⟨ks,vs⟩ xt);obtain ⟨E2,Qw⟩:=exq (xe.map (Hs ⟨ks,vs⟩));have Qt4:Sd ⟨ks,vs⟩ ⟨xn,xt,xe⟩=⟨xn,T2,E2⟩:=by unfold Sd;rw [Qr,Qw]
 have Qx:(Q.map (enc:Def6→D)).set d (.agg [.str xn,enc (Sl.mk T2),.list 8 (xe.map enc)])=(Q.set d ⟨xn,T2,xe⟩).map enc:=X0 (y:=(⟨xn,T2,xe⟩:Def6));have Qm:el ((Q.set d ⟨xn,T2,xe⟩).map (enc:Def6→D)) d=.agg [.str xn,enc (Sl.mk T2),.list 8 (xe.map enc)]:=Br (by omega)
 have Qg:((Q.set d ⟨xn,T2,xe⟩).map (enc:Def6→D)).set d (.agg [.str xn,enc (Sl.mk T2),enc (Sl.mk E2)])=(Uv (fun _=>Sd ⟨ks,vs⟩) md (d+1)).map enc:=by
  rw [←L7,Qt4];refine Eq.trans (X0 (y:=(⟨xn,T2,E2⟩:Def6))) ?_;rw [List.set_set]
 have r9b:(Q.map (enc:Def6→D)).set d (.agg [.str xn,enc (Sl.mk T2),enc (Sl.mk E2)])=(Uv (fun _=>Sd ⟨ks,vs⟩) md (d+1)).map enc:=by
  rw [←Qg,←X0,List.set_set]
 have Qj:((Q.set d ⟨xn,T2,xe⟩).map (enc:Def6→D)).length=md.length:=by rw [Zf,List.length_set,Mq]
 have Qmw:(Q.set d ⟨xn,T2,xe⟩).length=md.length:=by rw [List.length_set,Mq]
 have Kq:Kju:=⟨⟩;exact Jw):p:=h
class Kjq:Prop
theorem Kjq.k (_:Kjq) (h:p:=by
 refine L5 [] 10 [6,7,8,14,15,16,17,18,19,20,21,22,23,24,25,26,27,28,29,30,31,32,33,34,35,36,37,38,39,40,41,42,43,44,45,46,47,48,49,50,51,52,53,54,55,56,57,58,59,60,61,62] (fun k:Nat=>[(13,.d (.int .i64 k))]) (fun k:Nat=>[(10,.row 4 ((Uv (fun _=>eR ⟨ks,vs⟩) p k).map enc) k),(50010,.slot k 2)]) (fun k:Nat=>k≤p.length) (fun k:Nat=>p.length-k) 0 ?_ ?_ ?_
 ·omega
 ·show Wk _ _;have Vc:=@V6;exact Qt
 rintro k hk;have Zhp:=Kk (f:=fun _=>eR ⟨ks,vs⟩) (l:=p) k;rcases Zn k p.length with ⟨Zv,Qo⟩|⟨Zv,Qo⟩
 rotate_left
 ·have Ni:k=p.length:=by omega
  rw [Ni];rw [Ni] at Qo;rw [V7,hR];have Qi:(R.map (enc:Mod6→D)).length=p.length:=by rw [←hR,Zf,List.length_mapIdx]
  have Qn:R.length=p.length:=by rw [←hR,List.length_mapIdx]
  have Ql:I2 ⟨ks,vs⟩ p=R:=hR;have Kq:Kjr:=⟨⟩;exact Jw
 have Qp:=Zp Je Zv;have Qv:=Zp Je (show k<(Uv (fun _=>eR ⟨ks,vs⟩) p k).length by omega)
 rw [Ms Je Zv] at Qv;have C4:=Kj Je Zv (f:=fun _=>eR ⟨ks,vs⟩);have Yn:p.getD k Je∈p:=by simp [Zv]
 have fP:=hO.defs _ Yn;have Qov:=hO.d _ Yn;obtain ⟨m,hm⟩:=exq (p.getD k Je);rw [hm] at Qp Qv C4 fP Qov;obtain ⟨mn,mi,md,ms⟩:=m;simp only at fP Qov;obtain ⟨P,hP⟩:=exq (Uv (fun _=>eR ⟨ks,vs⟩) p k);rw [hP] at Qv C4 Zhp ⊢;have Q3:(P.map (enc:Mod6→D)).length=p.length:=by rw [Zf,Zhp]
 have Jh:∀ X:D,((P.map (enc:Mod6→D)).set k X).length=p.length:=fun X=>by rw [List.length_set,Q3]
 have Kq:Kjs:=⟨⟩;exact Jw):p:=h
theorem good_eachF:Qc Tryz.prog (65,iV):=by
 obtain ⟨Kx,Kt,Kc,Kd,Kb,Ku,Kw,K,X4,V2,Mo,Tx,_⟩:=J7 Zx Zo [] false (Q1 good_cloneMods Hf.eq_def (Q1 good_cloneDefs Hg.eq_def (Q1 good_exprA iJ.eq_def (Q1 good_filler_1 Mg.eq_def J5))));have Ko:=iV.eq_def;refine J9 K Tryz.func65 [.tmp 4] rfl 64 rfl (fun c hc Ji Zh=>?_);unfold iV at Zh;obtain ⟨⟨p⟩,⟨mt⟩,rfl,hO,Qzy⟩:=Qf Zh;simp only at hO Qzy;obtain ⟨ks,vs⟩:=mt;clear Zh;have qE:=hO.len;have Qk:(p.map (enc:Mod6→D)).length=p.length:=Zf ..;obtain ⟨R,hR⟩:=exq ((p.mapIdx fun _=>eR ⟨ks,vs⟩));cases hc;refine W5 4 ?_;have Kq:Kjq:=⟨⟩;exact Jw
def D4:Con:=Jy (fun (p:Sl Mod6) (l:Sl Ch)=>EachOk p.l∧l.l.length≤1000000∧kG (Kz l.l)) (fun p l=>Sl.mk (I2 (Kz l.l) p.l))
theorem Zbm:Qc Tryz.prog (31,D4):=by
 obtain ⟨Kx,Kt,Kc,Kd,Kb,Ku,Kw,K,X4,V2,_⟩:=J7 Zx Zo [] false (Q1 good_filler Ru.eq_def (Q1 good_eachF iV.eq_def J5));have Ko:=D4.eq_def;refine J9 K Tryz.func31 [.tmp 4] rfl 9 rfl (fun c hc Ji Zh=>?_);unfold D4 at Zh;obtain ⟨⟨p⟩,⟨l⟩,rfl,he,hl,hm⟩:=Qf Zh;simp only at he hl hm;clear Zh;unfold Kz at hm;have Qo:Kz l=Wt l l.length:=rfl;obtain ⟨⟨ks,vs⟩,Qk⟩:=exq (Wt l l.length);rw [Qk] at hm Qo;cases hc;exact N6
def tS (l:List (Sl Node)):List Obj:=[.box false [.sl 90001 l.length],.row 1 (l.map enc) 0]
theorem Ld {l:List (Sl Node)}:tS l=[.box false [.sl 90001 l.length],.row 1 (l.map enc) 0]:=rfl
def Wu:BCon where
 X:=List Node×List (Sl Node)
 ok x:=x.2.length≤5000000000000
 args x:=[.d (.list 3 (x.1.map enc)),.ref 90000 0]
 objs x:=tS x.2
 res _:=.list 3 []
 post x:=tS (x.2++[⟨x.1⟩])
theorem kM {t:List Node} {l:List (Sl Node)}:Wu.res (t,l)=.list 3 []:=rfl
theorem dO {t:List Node} {l:List (Sl Node)}:Wu.post (t,l)=tS (l++[⟨t⟩]):=rfl
class Kjv:Prop
theorem Kjv.k (_:Kjv) (h:p:=by
 refine ⟨[90000,90001],by simp,rfl,Zy4 (by decide),?_⟩
 simp [Jd,lk,Cw,rnA,rnAs,rk]):p:=h
theorem goodb_typesA_1:dA Tryz.prog (121,Wu):=by
 obtain ⟨Kx,Kt,Kc,Kd,Kb,Ku,Kw,K,_⟩:=J7 Zx Zo [] false J5;refine Qkf K Tryz.func121 [.tmp 3] rfl 8 rfl (fun c hc x Vt=>?_);obtain ⟨t,l⟩:=x
 change l.length≤5000000000000 at Vt
 refine ⟨?_,?_,?_,?_,?_⟩
 ·show Ah [.d (.list 3 (t.map enc)),.ref 90000 0] (tS l);rw [Ld];simp [Ah,Lj,Obj.tied,J4,keptAll,AV.kept,Jq,Bl,lk]
 ·show J4 (tS l);rw [Ld];simp [J4]
 ·show Ah [] (tS (l++[⟨t⟩]));rw [Ld];simp [Ah,Lj,Obj.tied,J4,keptAll,AV.kept,Jq,Bl,lk]
 ·show (tS l).length≤(tS (l++[⟨t⟩])).length;rw [Ld,Ld];simp
 show Tw _ c (uK _ _ (tS l).length (.list 3 []) (tS (l++[⟨t⟩]))) ⟨[.d (.list 3 (t.map enc)),.ref 90000 0]++Dc 6,Jq (tS l)⟩;have Zhs:(l++[(⟨t⟩:Sl Node)]).length=l.length+1:=by simp
 have Qtd:(l++[(⟨t⟩:Sl Node)]).map (enc:Sl Node→D)=l.map enc++[.list 3 (t.map enc)]:=by rw [List.map_append];rfl
 rw [Ld,Ld,Zhs,Qtd];cases hc;have Kq:Kjv:=⟨⟩;exact Jw
def B0:BCon where
 X:=List Part×List (Sl Node)
 ok x:=x.1.length≤1000000∧x.2.length+2*x.1.length≤4000000000000
 args x:=[.d (.list 8 (x.1.map enc)),.clo 121 [.ref 90000 0]]
 objs x:=tS x.2
 res x:=.list 8 ((x.1.mapIdx fun _=>Vw).map enc)
 post x:=tS (mR x.2 x.1 x.1.length)
theorem Qd9 {e:List Part} {l:List (Sl Node)}:B0.res (e,l)=.list 8 ((e.mapIdx fun _=>Vw).map enc):=rfl
theorem Zyr {e:List Part} {l:List (Sl Node)}:B0.post (e,l)=tS (mR l e e.length):=rfl
class Kjx:Prop
theorem Kjx.k (_:Kjx) (h:p:=by
 refine ⟨[90000,90001],by simp,rfl,Zy4 (by decide),?_⟩
 simp [Jd,lk,Cw,rnA,rnAs,rk]):p:=h
class KjA:Prop
theorem KjA.k (_:KjA) (h:p:=by
 first|exact ⟨j+1,by rw [Qcc];(have Vc:=Z3;have Cs:=r9b;exact Qt),by omega,by omega⟩|skip):p:=h
class Kjz:Prop
theorem Kjz.k (_:Kjz) (h:p:=by
 refine cU (bc:=Wu) (pu,L1) [90000,90001] (by show L1.length≤5000000000000;omega) rfl (by simp) rfl ?_ ?_ ?_
 ·show Jd _ _ (tS L1) _;rw [Ld];simp [Jd,lk,Cw,rnA,rnAs,rk]
 ·show Wi (List.drop (tS L1).length _) _;rw [Ld];simp [Wi,lk]
 have V2:=Kt;have Z6:=@kM;have Z7:=@Ld;have Kq:KjA:=⟨⟩;exact Jw):p:=h
class Kjy:Prop
theorem Kjy.k (_:Kjy) (h:p:=by
 refine cU (bc:=Wu) (pt,L) [90000,90001] (by show L.length≤5000000000000;omega) rfl (by simp) rfl ?_ ?_ ?_
 ·show Jd _ _ (tS L) _;rw [Ld];simp [Jd,lk,Cw,rnA,rnAs,rk]
 ·show Wi (List.drop (tS L).length _) _;rw [Ld];simp [Wi,lk]
 have V2:=Kt;have Z6:=@kM;have Z7:=@Ld;have Kq:Kjz:=⟨⟩;exact Jw):p:=h
class Kjw:Prop
theorem Kjw.k (_:Kjw) (h:p:=by
 refine Zm [6,7,13,14,15,16,17,18,19,20,21,22,23,24,25,26,27,28,29,30,31,32,33] (fun j:Nat=>[(12,.d (.int .i64 j))]) (fun j:Nat=>[(9,.row 8 ((Uv (fun _=>Vw) xe j).map enc) 0),(90000,.box false [.sl 90001 (mR l xe j).length]),(90001,.row 1 ((mR l xe j).map enc) 0)]) (fun j:Nat=>j≤xe.length) (fun j:Nat=>xe.length-j) 0 ?_ ?_ ?_
 ·omega
 ·rw [Jb9];have Vc:=@V6;exact Qt
 rintro j hj;have L8:=Kk (f:=fun _=>Vw) (l:=xe) j;have Jb1:(mR l xe j).length≤4000000000000:=by have:=Qfw (C:=l) (e:=xe) j;omega
 rcases Zn j xe.length with ⟨Ka,Qk⟩|⟨Ka,Qk⟩
 rotate_left
 ·have wZ:j=xe.length:=by omega
  have Zbc:Uv (fun _=>Vw) xe j=xe.mapIdx fun _=>Vw:=by rw [wZ,V7]
  have Qo:((xe.mapIdx fun _=>Vw).map (enc:Part→D)).length=xe.length:=by simp
  rw [Zbc,wZ];rw [wZ] at Qk;obtain ⟨E2,Qfq⟩:=exq ((xe.mapIdx fun _=>Vw));obtain ⟨L2,Qcc⟩:=exq (mR l xe xe.length);have Qi:(xe.mapIdx fun _=>Vw).length=xe.length:=by simp
  rw [Qfq] at Qo Qi ⊢;rw [Qcc];have V2:=Kt;have Kq:Kjx:=⟨⟩;exact Jw
 have Ql:=Zp e0 (show j<(Uv (fun _=>Vw) xe j).length by omega)
 rw [Ms e0 Ka] at Ql;have R8:=Kj e0 Ka (f:=fun _=>Vw);have Ze2:=Zij (C:=l) Ka;obtain ⟨p0,Zzq⟩:=exq (xe.getD j e0);rw [Zzq] at Ql R8 Ze2;obtain ⟨pk,pl,pn,pb,pm,pq,pt,pu⟩:=p0;obtain ⟨S,Qo3⟩:=exq (Uv (fun _=>Vw) xe j);rw [Qo3] at Ql R8 L8 ⊢;simp only at Ze2;obtain ⟨L,hL⟩:=exq (mR l xe j);rw [hL] at Ze2 Jb1 ⊢;have Qp:Wu.post (pt,L)=tS (L++[⟨pt⟩]):=dO;have Qlj:(L++[(⟨pt⟩:Sl Node)]).length=L.length+1:=by simp
 obtain ⟨L1,Qxf⟩:=exq (L++[(⟨pt⟩:Sl Node)]);rw [Qxf] at Ze2 Qp Qlj;have Qv:Wu.post (pu,L1)=tS (L1++[⟨pu⟩]):=dO;rw [←Ze2] at Qv;obtain ⟨L2,Qcc⟩:=exq (mR l xe (j+1));rw [Qcc] at Qv;have Qn:(S.map (enc:Part→D)).length=xe.length:=by rw [Zf,L8]
 have Jh:(S.map (enc:Part→D)).set j (.agg [.int .i64 pk,.str pl,.str pn,.str pb,.int .i64 pm,.int .i64 pq,.list 3 [],.list 3 (pu.map enc)])=(S.set j ⟨pk,pl,pn,pb,pm,pq,[],pu⟩).map enc:=X0 (y:=(⟨pk,pl,pn,pb,pm,pq,[],pu⟩:Part));have Jb:el ((S.set j ⟨pk,pl,pn,pb,pm,pq,[],pu⟩).map (enc:Part→D)) j=.agg [.int .i64 pk,.str pl,.str pn,.str pb,.int .i64 pm,.int .i64 pq,.list 3 [],.list 3 (pu.map enc)]:=Br (by omega)
 have Z3:((S.set j ⟨pk,pl,pn,pb,pm,pq,[],pu⟩).map (enc:Part→D)).set j (.agg [.int .i64 pk,.str pl,.str pn,.str pb,.int .i64 pm,.int .i64 pq,.list 3 [],.list 3 []])=(Uv (fun _=>Vw) xe (j+1)).map enc:=by
  rw [←R8];refine Eq.trans (X0 (y:=Vw ⟨pk,pl,pn,pb,pm,pq,pt,pu⟩)) ?_;rw [List.set_set]
 have r9b:(S.map (enc:Part→D)).set j (.agg [.int .i64 pk,.str pl,.str pn,.str pb,.int .i64 pm,.int .i64 pq,.list 3 [],.list 3 []])=(Uv (fun _=>Vw) xe (j+1)).map enc:=by
  rw [←Z3,←X0,List.set_set]
 have Q3:((S.set j ⟨pk,pl,pn,pb,pm,pq,[],pu⟩).map (enc:Part→D)).length=xe.length:=by rw [Zf,List.length_set,L8]
 have Qfd:(S.set j ⟨pk,pl,pn,pb,pm,pq,[],pu⟩).length=xe.length:=by rw [List.length_set,L8]
 have Ql:el (S.map (enc:Part→D)) j=.agg [.int .i64 pk,.str pl,.str pn,.str pb,.int .i64 pm,.int .i64 pq,.list 3 (pt.map enc),.list 3 (pu.map enc)]:=Ql;clear Ze2;have V2:=Kt;have Kq:Kjy:=⟨⟩;exact Jw):p:=h
theorem goodb_exprT:dA Tryz.prog (119,B0):=by
 obtain ⟨Kx,Kt,Kc,Kd,Kb,Ku,Kw,K,X4,V2,_⟩:=J7 Zx Zo [] false (Q1 good_cloneE Rv.eq_def (Qpj goodb_typesA_1 Wu.eq_def J5));refine Qkf K Tryz.func119 [.tmp 4] rfl 35 rfl (fun c hc x Vt=>?_);obtain ⟨xe,l⟩:=x;obtain ⟨aA,Is⟩:=Vt;simp only at aA Is;refine ⟨?_,?_,?_,?_,?_⟩
 ·show Ah [.d (.list 8 (xe.map enc)),.clo 121 [.ref 90000 0]] (tS l);rw [Ld];simp [Ah,Lj,Obj.tied,J4,keptAll,AV.kept,Jq,Bl,lk]
 ·show J4 (tS l);rw [Ld];simp [J4]
 ·show Ah [] (tS (mR l xe xe.length));rw [Ld];simp [Ah,Lj,Obj.tied,J4,keptAll,AV.kept,Jq,Bl,lk]
 ·show (tS l).length≤(tS (mR l xe xe.length)).length;rw [Ld,Ld];simp
 show Tw _ c (uK _ _ (tS l).length (.list 8 ((xe.mapIdx fun _=>Vw).map enc)) (tS (mR l xe xe.length))) ⟨[.d (.list 8 (xe.map enc)),.clo 121 [.ref 90000 0]]++Dc 33,Jq (tS l)⟩;rw [Ld,Ld];have Jb9:mR l xe 0=l:=Zii;cases hc;refine W5 2 ?_;have V2:=Kt;have Kq:Kjw:=⟨⟩;exact Jw
def Ti:BCon where
 X:=List Mod6
 ok p:=BareOk p
 args p:=[.d (enc (Sl.mk p)),.clo 121 [.ref 90000 0]]
 objs _:=[.box false [.nils 1]]
 res p:=.list 4 ((p.mapIdx fun _=>Vn).map enc)
 post p:=tS (De p)
theorem Zyv {p:List Mod6}:Ti.post p=tS (De p):=rfl
class KjC:Prop
theorem KjC.k (_:KjC) (h:p:=by
 refine ⟨[90000,60000],by simp,rfl,Zy4 (by decide),?_⟩
 simp [Jd,lk,Cw,rnA,rnAs,rk]):p:=h
class KjE:Prop
theorem KjE.k (_:KjE) (h:p:=by
 first|exact ⟨k+1,by rw [hG];(have Vc:=qV;have Cs:=Q3;have Zm3:=Qlh;exact Qp8),by omega,by omega⟩|skip):p:=h
class KjH:Prop
theorem KjH.k (_:KjH) (h:p:=by
 first|exact ⟨d+1,by rw [hG];(have Vc:=Qw;have Cs:=r9b;exact Qt),by omega,by omega⟩|skip):p:=h
class KjG:Prop
theorem KjG.k (_:KjG) (h:p:=by
 refine cU (bc:=B0) (xe,B') [90000,60000] ⟨by simp only;omega,by simp only;omega⟩ rfl (by simp) rfl ?_ ?_ ?_
 ·show Jd _ _ (tS B') _;rw [Ld];simp [Jd,lk,Cw,rnA,rnAs,rk]
 ·show Wi (List.drop (tS B').length _) _;rw [Ld];simp [Wi,lk]
 have Mo:=Kt;have Tx:=Kt;have Q4:=@Ld;have Kq:KjH:=⟨⟩;exact Jw):p:=h
class KjF:Prop
theorem KjF.k (_:KjF) (h:p:=by
 refine cU (bc:=Wu) (xt,B) [90000,60000] (by show B.length≤5000000000000;omega) rfl (by simp) rfl ?_ ?_ ?_
 ·show Jd _ _ (tS B) _;rw [Ld];simp [Jd,lk,Cw,rnA,rnAs,rk]
 ·show Wi (List.drop (tS B).length _) _;rw [Ld];simp [Wi,lk]
 have Mo:=Kt;have Tx:=Kt;have Q4:=@kM;have Jf:=@Ld;have Kq:KjG:=⟨⟩;exact Jw):p:=h
class KjD:Prop
theorem KjD.k (_:KjD) (h:p:=by
 refine Zm [7,8,33,34,35,36,37,38,39,40,41,42,43,44,45,46,47,48,49,50,51,52,53,54,55,56,57,58,59,60,61] (fun d:Nat=>[(32,.d (.int .i64 d))]) (fun d:Nat=>[(23,.row 3 ((Uv (fun _=>X2) md d).map enc) 0),(90000,.box false [.sl 60000 (Zfh A md d).length]),(60000,.row 1 ((Zfh A md d).map enc) 0)]) (fun d:Nat=>d≤md.length) (fun d:Nat=>md.length-d) 0 ?_ ?_ ?_
 ·omega
 ·rw [Qxo];have Vc:=@V6;exact Qt
 rintro d hd;have Mq:=Kk (f:=fun _=>X2) (l:=md) d;have Jaa:=Qfx (A:=A) fP aA d;rcases Zn d md.length with ⟨Ki,Jh⟩|⟨Ki,Jh⟩
 rotate_left
 ·have Zcb:d=md.length:=by omega
  have Zbc:Uv (fun _=>X2) md d=md.mapIdx fun _=>X2:=by rw [Zcb,V7]
  have qV:(P.map (enc:Mod6→D)).set k (.agg [.str mn,.list 1 (mi.map enc),.list 3 ((md.mapIdx fun _=>X2).map enc),.list 3 (ms.map enc)])=(Uv (fun _=>Vn) p (k+1)).map enc:=by
   rw [←C4,←X0];rfl
  have Qlh:k<(P.map (enc:Mod6→D)).length:=by omega
  have Jb:(md.mapIdx fun _=>X2).length=md.length:=by simp
  rw [Zbc,Zcb,←G9];rw [Zcb] at Jh;obtain ⟨G,hG⟩:=exq (Zie p (k+1));rw [hG];have Mo:=Kt;have Tx:=Kt;have Kq:KjE:=⟨⟩;exact Jw
 have Z3:=Zp Q6 Ki;have Z6:=Zp Q6 (show d<(Uv (fun _=>X2) md d).length by omega)
 rw [Ms Q6 Ki] at Z6;have L7:=Kj Q6 Ki (f:=fun _=>X2);have aX:=Zim (A:=A) Ki;have Qfn:=aA (md.getD d Q6) (by simp [Ki])
 obtain ⟨x,hx⟩:=exq (md.getD d Q6);rw [hx] at Z3 Z6 L7 Qfn aX;obtain ⟨xn,xt,xe⟩:=x;simp only at Qfn;obtain ⟨Q,hQ⟩:=exq (Uv (fun _=>X2) md d);rw [hQ] at Z6 L7 Mq ⊢;have Z7:(Q.map (enc:Def6→D)).length=md.length:=by rw [Zf,Mq]
 simp only at aX;rw [←Zik] at aX;have Qxm:(Zfh A md d).length≤3000000000000:=by omega
 obtain ⟨B,hB⟩:=exq (Zfh A md d);rw [hB] at aX Qxm ⊢;have Qq:Wu.post (xt,B)=tS (B++[⟨xt⟩]):=dO;have Zfc:(B++[(⟨xt⟩:Sl Node)]).length=B.length+1:=by simp
 obtain ⟨B',hB'⟩:=exq (B++[(⟨xt⟩:Sl Node)]);rw [hB'] at aX Qq Zfc;have Qg:B0.post (xe,B')=tS (mR B' xe xe.length):=Zyr;rw [←aX] at Qg;have Qr:B0.res (xe,B')=.list 8 ((xe.mapIdx fun _=>Vw).map enc):=Qd9;obtain ⟨G,hG⟩:=exq (Zfh A md (d+1));rw [hG] at Qg;obtain ⟨E2,Qfq⟩:=exq ((xe.mapIdx fun _=>Vw));rw [Qfq] at Qr;have Qt4:X2 ⟨xn,xt,xe⟩=⟨xn,[],E2⟩:=by unfold X2;rw [Qfq]
 have Qx:(Q.map (enc:Def6→D)).set d (.agg [.str xn,.list 3 [],.list 8 (xe.map enc)])=(Q.set d ⟨xn,[],xe⟩).map enc:=X0 (y:=(⟨xn,[],xe⟩:Def6));have Qm:el ((Q.set d ⟨xn,[],xe⟩).map (enc:Def6→D)) d=.agg [.str xn,.list 3 [],.list 8 (xe.map enc)]:=Br (by omega)
 have Qw:((Q.set d ⟨xn,[],xe⟩).map (enc:Def6→D)).set d (.agg [.str xn,.list 3 [],.list 8 (E2.map enc)])=(Uv (fun _=>X2) md (d+1)).map enc:=by
  rw [←L7,Qt4];refine Eq.trans (X0 (y:=(⟨xn,[],E2⟩:Def6))) ?_;rw [List.set_set]
 have r9b:(Q.map (enc:Def6→D)).set d (.agg [.str xn,.list 3 [],.list 8 (E2.map enc)])=(Uv (fun _=>X2) md (d+1)).map enc:=by
  rw [←Qw,←X0,List.set_set]
 have Qj:((Q.set d ⟨xn,[],xe⟩).map (enc:Def6→D)).length=md.length:=by rw [Zf,List.length_set,Mq]
 have Qmw:(Q.set d ⟨xn,[],xe⟩).length=md.length:=by rw [List.length_set,Mq]
 clear aX Jaa;have Mo:=Kt;have Tx:=Kt;have Kq:KjF:=⟨⟩;exact Jw):p:=h
class KjB:Prop
theorem KjB.k (_:KjB) (h:p:=by
 refine L5 [] 10 [6,7,8,14,15,16,17,18,19,20,21,22,23,24,25,26,27,28,29,30,31,32,33,34,35,36,37,38,39,40,41,42,43,44,45,46,47,48,49,50,51,52,53,54,55,56,57,58,59,60,61,62] (fun k:Nat=>[(13,.d (.int .i64 k))]) (fun k:Nat=>[(10,.row 4 ((Uv (fun _=>Vn) p k).map enc) k),(50010,.slot k 2),(90000,.box false [.sl 60000 (Zie p k).length]),(60000,.row 1 ((Zie p k).map enc) 0)]) (fun k:Nat=>k≤p.length) (fun k:Nat=>p.length-k) 0 ?_ ?_ ?_
 ·omega
 ·rw [Jbw];show Wk _ _;have Vc:=@V6;exact Qt
 rintro k hk;have Zhp:=Kk (f:=fun _=>Vn) (l:=p) k;have Qu9:=Qfv hO k;rcases Zn k p.length with ⟨Zv,Qo⟩|⟨Zv,Qo⟩
 rotate_left
 ·have Ni:k=p.length:=by omega
  rw [Ni,Zid];rw [Ni] at Qo;obtain ⟨R,hR⟩:=exq ((p.mapIdx fun _=>Vn));rw [V7,hR];have Qi:(R.map (enc:Mod6→D)).length=p.length:=by rw [←hR,Zf,List.length_mapIdx]
  have Qn:R.length=p.length:=by rw [←hR,List.length_mapIdx]
  obtain ⟨L2,Qcc⟩:=exq (De p);rw [Qcc];have Mo:=Kt;have Tx:=Kt;have Kq:KjC:=⟨⟩;exact Jw
 have Ql:=Zp Je Zv;have Qp:=Zp Je (show k<(Uv (fun _=>Vn) p k).length by omega)
 rw [Ms Je Zv] at Qp;have C4:=Kj Je Zv (f:=fun _=>Vn);have G9:=Zic Zv;have Yn:p.getD k Je∈p:=by simp [Zv]
 have fP:=hO.defs _ Yn;have aA:=hO.e _ Yn;obtain ⟨m,hm⟩:=exq (p.getD k Je);rw [hm] at Ql Qp C4 fP aA G9;obtain ⟨mn,mi,md,ms⟩:=m;simp only at fP aA;simp only at G9;rw [←Zin] at G9;obtain ⟨P,hP⟩:=exq (Uv (fun _=>Vn) p k);rw [hP] at Qp C4 Zhp ⊢;have Qv:(P.map (enc:Mod6→D)).length=p.length:=by rw [Zf,Zhp]
 have Q3:∀ X:D,((P.map (enc:Mod6→D)).set k X).length=p.length:=fun X=>by rw [List.length_set,Qv]
 obtain ⟨A,hA⟩:=exq (Zie p k);rw [hA] at G9 Qu9 ⊢;have Qxo:Zfh A md 0=A:=Zil;have Mo:=Kt;have Tx:=Kt;have Kq:KjD:=⟨⟩;exact Jw):p:=h
theorem goodb_eachT:dA Tryz.prog (65,Ti):=by
 obtain ⟨Kx,Kt,Kc,Kd,Kb,Ku,Kw,K,X4,V2,Mo,Tx,_⟩:=J7 Zx Zo [] false (Q1 good_cloneMods Hf.eq_def (Q1 good_cloneDefs Hg.eq_def (Qpj goodb_exprT B0.eq_def (Qpj goodb_typesA_1 Wu.eq_def J5))));refine Qkf K Tryz.func65 [.tmp 4] rfl 64 rfl (fun c hc x Vt=>?_);have hO:BareOk x:=Vt;clear Vt;refine ⟨?_,?_,?_,?_,?_⟩
 ·show Ah [.d (enc (Sl.mk x)),.clo 121 [.ref 90000 0]] [.box false [.nils 1]];simp [Ah,Lj,Obj.tied,J4,keptAll,AV.kept,Jq,Bl,lk]
 ·show J4 [.box false [.nils 1]];simp [J4]
 ·show Ah [] (tS (De x));rw [Ld];simp [Ah,Lj,Obj.tied,J4,keptAll,AV.kept,Jq,Bl,lk]
 ·show ([.box false [.nils 1]]:List Obj).length≤(tS (De x)).length;rw [Ld];simp
 show Tw _ c (uK _ _ 1 (.list 4 ((x.mapIdx fun _=>Vn).map enc)) (tS (De x))) ⟨[.d (enc (Sl.mk x)),.clo 121 [.ref 90000 0]]++Dc 62,Jq [.box false [.nils 1]]⟩;obtain ⟨p,Qur⟩:∃ p:List Mod6,x=p:=⟨_,rfl⟩;rw [Qur] at hO ⊢;rw [Ld];have qE:=hO.len;have Qk:(p.map (enc:Mod6→D)).length=p.length:=Zf ..;have Jbw:Zie p 0=[]:=Zib;cases hc;refine W5 4 ?_;have Mo:=Kt;have Tx:=Kt;have Kq:KjB:=⟨⟩;exact Jw
def Ri:Con:=Xj (fun (p:Sl Mod6)=>BareOk p.l) (fun p=>Sl.mk (De p.l))
class KjI:Prop
theorem KjI.k (_:KjI) (h:p:=by
 refine O9 (bc:=Ti) p [3,60000] hO rfl (by simp) (by rw [Qk];rfl) ?_ ?_ ?_
 ·show Jd _ _ [.box false [.nils 1]] _;simp [Jd,lk,Cw,rnA,rnAs,rk]
 ·show Wi (List.drop ([.box false [.nils 1]]:List Obj).length _) _;simp [Wi,lk]
 have Qn:=@Ld;exact N6):p:=h
theorem good_typesA:Qc Tryz.prog (69,Ri):=by
 obtain ⟨Kx,Kt,Kc,Kd,Kb,Ku,Kw,K,X4,_⟩:=J7 Zx Zo [] false (Qpj goodb_eachT Ti.eq_def J5);have Ko:=Ri.eq_def;refine J9 K Tryz.func69 [.tmp 2] rfl 8 rfl (fun c hc Ji Zh=>?_);unfold Ri at Zh;obtain ⟨⟨p⟩,rfl,hO⟩:=Q8 Zh;simp only at hO;clear Zh;obtain ⟨L,Qi⟩:=exq (De p);have Qk:Ti.post p=tS L:=by rw [Zyv,Qi]
 obtain ⟨R,Qo⟩:=exq (Ti.res p);cases hc;have Kq:KjI:=⟨⟩;exact Jw
def cH:Con:=Jy (fun (a b:Sl Int)=>Lo a.l.length∧Lo b.l.length) (fun a b=>a.l==b.l)
class KjK:Prop
theorem KjK.k (_:KjK) (h:p:=by
 first|exact ⟨k+1,by exact Qt,by omega,h2,by omega⟩|skip):p:=h
class KjJ:Prop
theorem KjJ.k (_:KjJ) (h:p:=by
 refine Zm [4,11,12,13,14,15,16,17,18,19,20,21,22,23,24,25] (fun k:Nat=>[(5,.d (.int .i64 k))]) (fun k:Nat=>[]) (fun k:Nat=>k≤a.length∧∀ j,j<k→a.getD j 0=b.getD j 0) (fun k:Nat=>a.length-k) 0 ?_ ?_ ?_
 ·simp
 ·exact Qt
 rintro k ⟨hk,Jl⟩;rcases Zn k a.length with ⟨Zv,Qi⟩|⟨Zv,Qi⟩
 ·have Qn:=Zp (0:Int) Zv;have Ql:=Zp (0:Int) (show k<b.length by omega)
  have Jg:a.getD k 0=b.getD k 0→∀ j,j<k+1→a.getD j 0=b.getD j 0:=by
   intro h j hj;by_cases e:j=k
   ·subst e;exact h
   ·exact Jl j (by omega)
  have Qs:a.getD k 0≠b.getD k 0→(a==b)=false:=by
   intro h;rw [Za];intro e;exact h (by rw [e])
  obtain ⟨x,hx⟩:=exq (a.getD k 0);obtain ⟨y,hy⟩:=exq (b.getD k 0);rw [hx] at Qn Jg Qs;rw [hy] at Ql Jg Qs;cases Qp:(x != y) with
  | true =>
   have Qo:=Qs (by simpa using Qp)
   exact N6
  | false =>
   have h2:=Jg (by simpa using Qp)
   have Kq:KjK:=⟨⟩;exact Jw
 ·have Qo:(a==b)=true:=by
   rw [Zj];refine List.ext_getElem Q5 fun j h1 h2=>?_;have:=Jl j (by omega)
   simpa [h1,h2] using this
  exact dL):p:=h
theorem good_Ints03:Qc Tryz.prog (33,cH):=by
 obtain ⟨Kx,Kt,Kc,Kd,Kb,Ku,Kw,K,_⟩:=J7 Zx Zo [] false J5;have Ko:=cH.eq_def;refine J9 K Tryz.func33 [.tmp 4] rfl 26 rfl (fun c hc Ji Zh=>?_);unfold cH at Zh;obtain ⟨⟨a⟩,⟨b⟩,rfl,ha,hb⟩:=Qf Zh;simp only at ha hb;obtain ⟨R,hR⟩:=exq ((a==b));by_cases Q5:a.length=b.length
 case neg =>
  have Qk:((a.length:Int) != (b.length:Int))=true:=by rw [bne_iff_ne];omega
  have Qo:(a==b)=false:=by rw [Za];intro e;exact Q5 (by rw [e])
  cases hc;exact dL
 have Qk:((a.length:Int) != (b.length:Int))=false:=by rw [Q5,bne_self_eq_false]
 cases hc;have Kq:KjJ:=⟨⟩;exact Jw
def Zml (l:List Int):Prop:=l.Pairwise fun a b=>a<b
theorem Zcu:∀ {a b:List Int},Zml a→Zml b→(∀ x,x∈a↔x∈b)→a=b
 | [],[],_,_,_=>rfl
 | [],y::b,_,_,h=>by have:=(h y).2 (List.mem_cons_self ..);cases this
 | x::a,[],_,_,h=>by have:=(h x).1 (List.mem_cons_self ..);cases this
 | x::a,y::b,ha,hb,h=>by
  unfold Zml at ha hb;rw [List.pairwise_cons] at ha hb;have Qfi:x=y:=by
   rcases Zs.1 ((h x).1 (List.mem_cons_self ..)) with e|e
   ·exact e
   ·rcases Zs.1 ((h y).2 (List.mem_cons_self ..)) with e'|e'
    ·exact e'.symm
    ·have:=hb.1 x e;have:=ha.1 y e';omega
  subst Qfi
  congr 1
  refine Zcu ha.2 hb.2 fun z=>⟨fun hz=>?_,fun hz=>?_⟩
  ·have Zv:=ha.1 z hz;rcases Zs.1 ((h z).1 (List.mem_cons_of_mem _ hz)) with e|e
   ·omega
   ·exact e
  ·have Zv:=hb.1 z hz;rcases Zs.1 ((h z).2 (List.mem_cons_of_mem _ hz)) with e|e
   ·omega
   ·exact e
theorem Qf6 {l:List Int} (h:l.Nodup):Zml (dT l):=by
 have h1:(dT l).Pairwise (fun a b=>decide (a≤b)=true):=List.pairwise_mergeSort (fun a b c h1 h2=>by
  simp only [decide_eq_true_eq] at *;omega) (fun a b=>by
  simp only [Bool.or_eq_true,decide_eq_true_eq];omega) l
 have h2:(dT l).Pairwise (fun a b=>a≠b):=(List.mergeSort_perm l _).nodup_iff.2 h;unfold Zml;exact (h1.and h2).imp fun {a b} h=>by
  obtain ⟨h1,h2⟩:=h;rw [decide_eq_true_eq] at h1;omega
theorem Qdk {l:List Int} {x:Int}:x∈dT l↔x∈l:=(List.mergeSort_perm l _).mem_iff
def Qji (S:List Int):List Bool:=S.map fun _=>true
theorem Zdx {x:Int}:∀ {S:List Int},Db x true S (Qji S)=Qji (Mn x S)
 | []=>rfl
 | y::S=>by
  show cond (x==y) (true::Qji S) (true::Db x true S (Qji S))=_;rw [Zdx];unfold Mn;simp only [M4];cases hx:(x==y) with
  | true=>rfl
  | false =>
   simp only [cond_false,Bool.false_or];cases M4 x S<;>rfl
theorem Zdi {x:Int} {v:Bool}:∀ {ks:List Int} {vs:List Bool},Fx (.int .i64 x) (.bool v) (ks.map enc) (vs.map enc)=(Db x v ks vs).map enc
 | [],vs=>by cases vs<;>rfl
 | k::ks,[]=>rfl
 | k::ks,u::vs=>by
  show cond (D.eqb (.int .i64 x) (.int .i64 k)) (D.bool v::vs.map enc) (D.bool u::Fx (.int .i64 x) (.bool v) (ks.map enc) (vs.map enc))=_;rw [Zdi,Qbg,Db];cases x==k<;>rfl
def Zx3 (S:List Int) (n:Node):List Int:=if n.kind=0∧0<n.n then Mn n.n S else S
def lL (S:List Int) (t:List Node):List Int:=t.foldl Zx3 S
def rI (S:List Int) (l:List (Sl Node)):List Int:=l.foldl (fun S t=>lL S t.l) S
def Qnv (S:List Int):Prop:=S.Nodup∧∀ x∈S,0<x∧x≤1000000
theorem xS {x s:Int} {S:List Int}:s∈Mn x S↔s∈S∨s=x:=by
 have hi:∀ {l:List Int},M4 x l=true↔x∈l:=by
  intro l
  induction l with
  | nil=>simp [M4]
  | cons y l ih=>simp only [M4,Bool.or_eq_true,Zj,ih,Zs]
 unfold Mn;cases hg:M4 x S with
 | true =>
  rw [cond_true];exact ⟨.inl,fun h=>h.elim id fun e=>by rw [e];exact hi.1 hg⟩
 | false=>rw [cond_false,List.mem_append,Zt]
theorem Zgo {x:Int} {S:List Int} (h:S.Nodup):(Mn x S).Nodup:=by
 have hi:∀ {l:List Int},M4 x l=true↔x∈l:=by
  intro l
  induction l with
  | nil=>simp [M4]
  | cons y l ih=>simp only [M4,Bool.or_eq_true,Zj,ih,Zs]
 unfold Mn;cases hg:M4 x S with
 | true=>exact h
 | false =>
  rw [cond_false,List.nodup_append];refine ⟨h,by simp,fun a ha b hb e=>?_⟩
  rw [Zt] at hb;subst hb;subst e;rw [hi.2 ha] at hg;cases hg
theorem Qj9 {S:List Int} (h:Qnv S) {n:Node} (hn:n.kind=0→n.n≤1000000):Qnv (Zx3 S n):=by
 unfold Zx3;split
 ·rename_i hc;refine ⟨Zgo h.1,fun x hx=>?_⟩;rcases xS.1 hx with hx|rfl
  ·exact h.2 x hx
  ·exact ⟨hc.2,hn hc.1⟩
 ·exact h
theorem Qa0:∀ {t:List Node} {S:List Int},Qnv S→(∀ n∈t,n.kind=0→n.n≤1000000)→Qnv (lL S t)
 | [],_,h,_=>h
 | n::t,_,h,hn=>Qa0 (t:=t) (Qj9 h (hn n (List.mem_cons_self ..))) fun m hm=>hn m (List.mem_cons_of_mem _ hm)
theorem vG:∀ {l:List (Sl Node)} {S:List Int},Qnv S→(∀ t∈l,∀ n∈t.l,n.kind=0→n.n≤1000000)→Qnv (rI S l)
 | [],_,h,_=>h
 | t::l,_,h,hn=>vG (l:=l) (Qa0 h (hn t (List.mem_cons_self ..))) fun u hu=>hn u (List.mem_cons_of_mem _ hu)
theorem Zko:∀ {t:List Node} {S:List Int} {x:Int},x∈lL S t↔x∈S∨(0<x∧∃ n∈t,n.kind=0∧n.n=x)
 | [],S,x=>by simp [lL]
 | n::t,S,x=>by
  have e:lL S (n::t)=lL (Zx3 S n) t:=rfl;rw [e,Zko];unfold Zx3;by_cases hc:n.kind=0∧0<n.n
  ·rw [if_pos hc,xS];constructor
   ·rintro ((h|rfl)|⟨h1,m,hm,h2⟩)
    ·exact .inl h
    ·exact .inr ⟨hc.2,n,List.mem_cons_self ..,hc.1,rfl⟩
    ·exact .inr ⟨h1,m,List.mem_cons_of_mem _ hm,h2⟩
   ·rintro (h|⟨h1,m,hm,h2,h3⟩)
    ·exact .inl (.inl h)
    ·rcases Zs.1 hm with rfl|hm
     ·exact .inl (.inr h3.symm)
     ·exact .inr ⟨h1,m,hm,h2,h3⟩
  ·rw [if_neg hc];constructor
   ·rintro (h|⟨h1,m,hm,h2⟩)
    ·exact .inl h
    ·exact .inr ⟨h1,m,List.mem_cons_of_mem _ hm,h2⟩
   ·rintro (h|⟨h1,m,hm,h2,h3⟩)
    ·exact .inl h
    ·rcases Zs.1 hm with rfl|hm
     ·exact absurd ⟨h2,by omega⟩ hc
     ·exact .inr ⟨h1,m,hm,h2,h3⟩
theorem Zkp:∀ {l:List (Sl Node)} {S:List Int} {x:Int},x∈rI S l↔x∈S∨(0<x∧∃ t∈l,∃ n∈t.l,n.kind=0∧n.n=x)
 | [],S,x=>by simp [rI]
 | t::l,S,x=>by
  have e:rI S (t::l)=rI (lL S t.l) l:=rfl;rw [e,Zkp,Zko];constructor
  ·rintro ((h|⟨h1,h2⟩)|⟨h1,u,hu,h2⟩)
   ·exact .inl h
   ·exact .inr ⟨h1,t,List.mem_cons_self ..,h2⟩
   ·exact .inr ⟨h1,u,List.mem_cons_of_mem _ hu,h2⟩
  ·rintro (h|⟨h1,u,hu,h2⟩)
   ·exact .inl (.inl h)
   ·rcases Zs.1 hu with rfl|hu
    ·exact .inl (.inr ⟨h1,h2⟩)
    ·exact .inr ⟨h1,u,hu,h2⟩
theorem Qa2 {S:List Int} (h:Qnv S):S.length≤1000000:=by
 have key:∀ (a b:List Int),a.Nodup→(∀ x∈a,x∈b)→a.length≤b.length:=by
  intro a
  induction a with
  | nil=>intro b _ _;exact Nat.zero_le _
  | cons x a ih =>
   intro b hn hs;rw [List.nodup_cons] at hn;have hx:=hs x (List.mem_cons_self ..);have:=ih (b.erase x) hn.2 fun y hy=>by
    have Tz:y≠x:=fun e=>hn.1 (e▸hy);exact (List.mem_erase_of_ne Tz).2 (hs y (List.mem_cons_of_mem _ hy))
   rw [List.length_erase_of_mem hx] at this;have hp:0<b.length:=List.length_pos_of_mem hx;rw [Zi];omega
 have:=key S ((List.range 1000000).map fun (k:Nat)=>((k:Int)+1)) h.1 fun x hx=>by
  obtain ⟨h1,h2⟩:=h.2 x hx;exact List.mem_map.2 ⟨(x-1).toNat,List.mem_range.2 (by omega),by omega⟩
 rw [Zf,List.length_range] at this;exact this
theorem wO {l:List (Sl Node)} (hl:∀ t∈l,∀ n∈t.l,n.kind=0→n.n≤1000000):dT (rI [] l)=Fp l:=by
 obtain ⟨h1,h2⟩:=Zi1 l;have hk:=vG (l:=l) (S:=[]) ⟨List.nodup_nil,fun x hx=>by cases hx⟩ hl
 refine Zcu (Qf6 hk.1) h1 fun x=>?_;rw [Qdk,Zkp,h2];simp
abbrev Zzh (p:List Mod6):Prop:=SitesP p
def cZ:Con:=Xj (fun (p:Sl Mod6)=>Zzh p.l) (fun p=>Sl.mk (Fp (De p.l)))
class KjM:Prop
theorem KjM.k (_:KjM) (h:p:=by
 first|(have:=Qzw _ (by assumption);omega)|rfl|trivial|skip):p:=h
class KjO:Prop
theorem KjO.k (_:KjO) (h:p:=by
 first|exact ⟨i+1,by exact Qt,by omega,by omega⟩|skip):p:=h
class KjP:Prop
theorem KjP.k (_:KjP) (h:p:=by
 first|exact ⟨k+1,by rw [Jg];exact Qt,by omega,by omega⟩|skip):p:=h
class KjQ:Prop
theorem KjQ.k (_:KjQ) (h:p:=by
 first|exact ⟨k+1,by rw [Jg];exact Qt,by omega,by omega⟩|skip):p:=h
class KjR:Prop
theorem KjR.k (_:KjR) (h:p:=by
 first|exact ⟨k+1,by rw [hV];exact Qt,by omega,by omega⟩|skip):p:=h
class KjN:Prop
theorem KjN.k (_:KjN) (h:p:=by
 refine Zm [7,19,20,21,22,23,24,25,26,27,28,29,30,31,32,33] (fun k:Nat=>[(18,.d (.int .i64 k))]) (fun k:Nat=>[(8,.mp ((lL S (t.take k)).map enc) ((Qji (lL S (t.take k))).map enc) false)]) (fun k:Nat=>k≤t.length) (fun k:Nat=>t.length-k) 0 ?_ ?_ ?_
 ·omega
 ·rw [Qw5];exact Qt
 rintro k hk;rcases Zn k t.length with ⟨R9,Qp⟩|⟨R9,Qp⟩
 rotate_left
 ·have Ni:k=t.length:=by omega
  rw [Ni,List.take_length,←G9];rw [Ni] at Qp;have Kq:KjO:=⟨⟩;exact Jw
 have Qv:=Zp n0 R9;have Jg:lL S (t.take (k+1))=Zx3 (lL S (t.take k)) (t.getD k n0):=bD _ R9;obtain ⟨n,hn⟩:=exq (t.getD k n0);rw [hn] at Qv Jg;obtain ⟨nk,nn,ni⟩:=n;obtain ⟨U,hU⟩:=exq (lL S (t.take k));rw [hU] at Jg ⊢;unfold Zx3 at Jg;simp only at Jg;have Qv:el (t.map (enc:Node→D)) k=.agg [.int .i64 nk,.str nn,.int .i64 ni]:=Qv;cases Q3:(nk==0) with
 | false =>
  rw [if_neg (fun h=>by rw [Za] at Q3;exact Q3 h.1)] at Jg
  have Kq:KjP:=⟨⟩;exact Jw
 | true =>
 rw [Zj] at Q3;rcases Y3 0 ni with ⟨h2,Jh⟩|⟨h2,Jh⟩
 rotate_left
 ·rw [if_neg (fun h=>by omega)] at Jg
  subst Q3;have Kq:KjQ:=⟨⟩;exact Jw
 rw [if_pos ⟨Q3,h2⟩] at Jg;subst Q3;have Jb:tB (.int .i64 ni) (U.map enc)=(Mn ni U).map enc:=Qat;have Z3:Fx (.int .i64 ni) (.bool true) (U.map enc) ((Qji U).map enc)=(Qji (Mn ni U)).map enc:=by rw [Zdi,Zdx]
 rw [←Jg] at Jb Z3;obtain ⟨V,hV⟩:=exq (lL S (t.take (k+1)));rw [hV] at Jb Z3;have Kq:KjR:=⟨⟩;exact Jw):p:=h
class KjL:Prop
theorem KjL.k (_:KjL) (h:p:=by
 first|exact Qt7|skip
 refine Zm [5,7,13,14,15,16,17,18,19,20,21,22,23,24,25,26,27,28,29,30,31,32,33,34] (fun i:Nat=>[(12,.d (.int .i64 i))]) (fun i:Nat=>[(8,.mp ((rI [] (L.take i)).map enc) ((Qji (rI [] (L.take i))).map enc) false)]) (fun i:Nat=>i≤L.length) (fun i:Nat=>L.length-i) 0 ?_ ?_ ?_
 ·omega
 ·have Vc:=@rI.eq_1;have Cs:=@Qji.eq_1;exact Qt
 rintro i hi;rcases Zn i L.length with ⟨Zv,Qo⟩|⟨Zv,Qo⟩
 rotate_left
 ·have Zna:i=L.length:=by omega
  rw [Zna,List.take_length];rw [Zna] at Qo;have Jb3:=Qa2 Qxg;have Qzw:=Qxg.2;obtain ⟨S,hS⟩:=exq (rI [] L);rw [hS] at Qi Jb3 Qzw ⊢;have Z6:=@Qbh;have Z7:=@Qnb;have Qq:=@Qnk;have Qj:=@Qkb;have Qx:=@Qkm;have Kq:KjM:=⟨⟩;exact Jw
 have Ql:=Zp (⟨[]⟩:Sl Node) Zv;have Yn:L.getD i ⟨[]⟩∈L:=by simp [Zv]
 have Zm8:=Q5 _ Yn;have G9:rI [] (L.take (i+1))=lL (rI [] (L.take i)) (L.getD i ⟨[]⟩).l:=bD _ Zv;obtain ⟨⟨t⟩,ht⟩:=exq (L.getD i ⟨[]⟩);rw [ht] at Ql G9 Zm8;simp only at G9 Zm8;have Ql:el (L.map (enc:Sl Node→D)) i=.list 3 (t.map enc):=Ql;obtain ⟨S,hS⟩:=exq (rI [] (L.take i));rw [hS] at G9 ⊢;have Qw5:lL S (t.take 0)=S:=rfl;have Kq:KjN:=⟨⟩;exact Jw):p:=h
theorem good_SitesA:Qc Tryz.prog (34,cZ):=by
 obtain ⟨Kx,Kt,Kc,Kd,Kb,Ku,Kw,K,X4,V2,Mo,_⟩:=J7 Zx Zo [] false (Q1 good_typesA Ri.eq_def (Q1 Zyi Zej.eq_def (Q1 Zgl Ih.eq_def J5)));have Ko:=cZ.eq_def;refine J9 K Tryz.func34 [.tmp 2] rfl 38 rfl (fun c hc Ji Zh=>?_);unfold cZ at Zh;obtain ⟨⟨p⟩,rfl,hO⟩:=Q8 Zh;simp only at hO;clear Zh;have Qt7:=hO.bare;have Qlj:=wD Qt7;have Q5:=hO.len;have mI:=hO.low;have Qi:=wO mI;have Qxg:=vG (l:=De p) (S:=[]) ⟨List.nodup_nil,fun x hx=>by cases hx⟩ mI
 obtain ⟨L,Qk⟩:=exq (De p);rw [Qk] at Qlj Q5 mI Qi Qxg;obtain ⟨R,Qn⟩:=exq (Fp L);rw [Qn] at Qi;cases hc;refine W5 2 ?_;have Kq:KjL:=⟨⟩;exact Jw
noncomputable def Zal (a b:List Mod6):Bool:=Zec Zb0 Je (Y7 a) (Y7 b)&&Zec pU ⟨[]⟩ (De a) (De b)
structure BelQ (p:List Mod6):Prop where
 bare:BareOk p
 imps:∀ m∈p,m.imps.length≤1000000
 ty:∀ t∈De p,Qpl t
theorem Zl7 {p:List Mod6} (h:BelQ p):Lo (Y7 p).length∧∀ m∈Y7 p,Qsn m:=by
 refine ⟨?_,fun m hm=>?_⟩
 ·unfold Y7;rw [List.length_mapIdx];have:=h.bare.len;show _≤_;omega
 ·unfold Y7 at hm;rw [Xs] at hm;obtain ⟨m',hm',rfl⟩:=List.mem_map.1 hm;have i1:=h.imps m' hm';have i3:=h.bare.defs m' hm';refine ⟨by show m'.imps.length≤_;omega,by show (m'.defs.mapIdx fun _=>X2).length≤_;rw [List.length_mapIdx];omega,fun d hd=>?_⟩
  unfold Vn at hd;simp only [Xs] at hd;obtain ⟨d',hd',rfl⟩:=List.mem_map.1 hd;have:=h.bare.e m' hm' d' hd';refine ⟨by show (d'.e.mapIdx fun _=>Vw).length≤_;rw [List.length_mapIdx];omega,fun q hq=>?_⟩
  unfold X2 at hq;simp only [Xs] at hq;obtain ⟨q',_,rfl⟩:=List.mem_map.1 hq;exact ⟨by show ([]:List Node).length≤_;simp,by show ([]:List Node).length≤_;simp⟩
noncomputable def cM:Con:=Jy (fun (a b:Sl Mod6)=>BelQ a.l∧BelQ b.l) (fun a b=>Zal a.l b.l)
class KjS:Prop
theorem KjS.k (_:KjS) (h:p:=by
 first|exact Qp7|exact Qt6|exact Qlk.1|exact Qmy.1|exact Qlk.2 _ (by assumption)|exact Qmy.2 _ (by assumption)|rfl|trivial|skip):p:=h
class KjT:Prop
theorem KjT.k (_:KjT) (h:p:=by
 first|exact Qp7|exact Qt6|exact Qlk.1|exact Qmy.1|exact Qlk.2 _ (by assumption)|exact Qmy.2 _ (by assumption)|exact Jbt|exact Jbs|exact Qt8 _ (by assumption)|exact Qpe _ (by assumption)|rfl|trivial|skip):p:=h
theorem good_BelowA:Qc Tryz.prog (36,cM):=by
 obtain ⟨Kx,Kt,Kc,Kd,Kb,Ku,Kw,K,X4,V2,Mo,Tx,_⟩:=J7 Zx Zo [] false (Q1 good_eachN iY.eq_def (Q1 good_equalMods Ts.eq_def (Q1 good_typesA Ri.eq_def (Q1 good_equalTys D1.eq_def J5))));have Ko:=cM.eq_def;refine J9 K Tryz.func36 [.tmp 4] rfl 22 rfl (fun c hc Ji Zh=>?_);unfold cM at Zh;obtain ⟨⟨a⟩,⟨b⟩,rfl,hA,hB⟩:=Qf Zh;simp only at hA hB;clear Zh;have Qp7:=hA.bare;have Qt6:=hB.bare;have Qlk:=Zl7 hA;have Qmy:=Zl7 hB;have Qxn:=wD Qp7;have Qxm:=wD Qt6;have Qt8:=hA.ty;have Qpe:=hB.ty;obtain ⟨R,Ql⟩:=exq (Zal a b);have Q3:=Ql;unfold Zal at Q3;obtain ⟨A,Qk⟩:=exq (Y7 a);obtain ⟨B,Qo⟩:=exq (Y7 b);rw [Qk] at Q3 Qlk;rw [Qo] at Q3 Qmy;have Qk:(a.mapIdx fun _=>Vn)=A:=Qk;have Qo:(b.mapIdx fun _=>Vn)=B:=Qo;obtain ⟨X,Qp⟩:=exq (De a);obtain ⟨Y,Qv⟩:=exq (De b);rw [Qp] at Q3 Qxn Qt8;rw [Qv] at Q3 Qxm Qpe;have Jbt:Lo X.length:=by show _≤_;omega
 have Jbs:Lo Y.length:=by show _≤_;omega
 cases hc;cases Qi:Zec Zb0 Je A B with
 | false =>
  have Qn:Zec Zb0 ⟨[],[],[],[]⟩ A B=false:=Qi;rw [Qi,Bool.false_and] at Q3;subst Q3;have Kq:KjS:=⟨⟩;exact Jw
 | true =>
  have Qn:Zec Zb0 ⟨[],[],[],[]⟩ A B=true:=Qi;rw [Qi,Bool.true_and] at Q3;have Kq:KjT:=⟨⟩;exact Jw
mutual
def mapX (g:Node→Node):Rose Node→Rose Node
 | mk n ks=>mk (g n) (mapXs g ks)
def mapXs (g:Node→Node):List (Rose Node)→List (Rose Node)
 | []=>[]
 | x::xs=>mapX g x::mapXs g xs
end
theorem Zde {g:Node→Node}:∀ ks:List (Rose Node),(mapXs g ks).length=ks.length
 | []=>by rw [mapXs]
 | x::ks=>by rw [mapXs,Zi,Zi,Zde ks]
mutual
theorem nds_mapX {g:Node→Node}:∀ x:Rose Node,nds (mapX g x)=(nds x).map g
 | mk n ks=>by rw [mapX,Y2,Y2,List.map_cons,ndss_mapX ks]
theorem ndss_mapX {g:Node→Node}:∀ ks:List (Rose Node),ndss (mapXs g ks)=(ndss ks).map g
 | []=>by rw [mapXs];rfl
 | x::ks=>by rw [mapXs,ndss,ndss,List.map_append,nds_mapX x,ndss_mapX ks]
end
mutual
theorem wf_mapX {g:Node→Node} (hg:∀ n,ar (g n)=ar n):∀ {x:Rose Node},wf ar x→wf ar (mapX g x)
 | mk n ks,h=>by
  rw [mapX];exact ⟨by rw [Zde,hg];exact h.1,wfs_mapX hg h.2⟩
theorem wfs_mapX {g:Node→Node} (hg:∀ n,ar (g n)=ar n):∀ {ks:List (Rose Node)},wfs ar ks→wfs ar (mapXs g ks)
 | [],_=>by rw [mapXs];trivial
 | x::ks,h=>by rw [mapXs];exact ⟨wf_mapX hg h.1,wfs_mapX hg h.2⟩
end
structure TyF (t:List Node):Prop where
 numb:Ga t
 plain:Ya t=true
 tree:∃ x,t=nds x∧wf ar x∧x.root.name=[]
structure Pt (B:Nat) (t:List Node):Prop where
 len:t.length≤B
 ty:t=[]∨TyF t
 low:∀ n∈t,n.kind=0→n.n≤60
structure ProgP (B:Nat) (p:List Mod6):Prop where
 len:p.length≤20
 imps:∀ m∈p,m.imps.length≤2000
 defs:∀ m∈p,m.defs.length≤200
 sites:∀ m∈p,m.sites.length≤2000
 e:∀ m∈p,∀ d∈m.defs,d.e≠[]∧d.e.length≤300000
 dt:∀ m∈p,∀ d∈m.defs,Pt B d.t
 et:∀ m∈p,∀ d∈m.defs,∀ q∈d.e,Pt B q.t∧Pt B q.u
theorem Dk {p:List Mod6} {t:Sl Node}:t∈De p↔∃ m∈p,∃ d∈m.defs,t=⟨d.t⟩∨∃ q∈d.e,t=⟨q.t⟩∨t=⟨q.u⟩:=by
 unfold De Qi5 Zz7 Qfe;simp only [List.mem_flatMap,List.mem_append,Zs,Ee,or_false]
theorem ProgP.ty {B:Nat} {p:List Mod6} (h:ProgP B p):∀ t∈De p,Pt B t.l:=fun t ht=>by
 obtain ⟨m,hm,d,hd,ht⟩:=Dk.1 ht;rcases ht with rfl|⟨q,hq,rfl|rfl⟩
 ·exact h.dt m hm d hd
 ·exact (h.et m hm d hd q hq).1
 ·exact (h.et m hm d hd q hq).2
theorem ProgP.bare {B:Nat} {p:List Mod6} (h:ProgP B p):BareOk p :=
 ⟨by have:=h.len;omega,fun m hm=>by have:=h.defs m hm;omega,fun m hm d hd=>by have:=(h.e m hm d hd).2;omega⟩
theorem ProgP.shortF {B:Nat} {p:List Mod6} (h:ProgP B p) (hB:B≤200000):∀ m∈p,∀ d∈m.defs,Zhf d.e:=fun m hm d hd =>
 ⟨by have:=(h.e m hm d hd).2;omega,fun q hq=>by
  have h1:=(h.et m hm d hd q hq).1.len;have h2:=(h.et m hm d hd q hq).2.len;omega⟩
theorem ProgP.fill {B:Nat} {p:List Mod6} (h:ProgP B p) (hB:B≤200000):FillOk p :=
 ⟨h.bare.len,h.bare.defs,fun m hm d hd=>by have:=(h.dt m hm d hd).len;omega,h.shortF hB⟩
theorem ProgP.each {B:Nat} {p:List Mod6} (h:ProgP B p) (hB:B≤200000):EachOk p :=
 ⟨h.bare.len,h.bare.defs,fun m hm d hd=>⟨by have:=(h.dt m hm d hd).len;omega,(h.e m hm d hd).1,(h.shortF hB m hm d hd).1,(h.shortF hB m hm d hd).2⟩⟩
theorem ProgP.sitesP {B:Nat} {p:List Mod6} (h:ProgP B p) (hB:B≤4000000):SitesP p :=
 ⟨h.bare,fun t ht=>by have:=(h.ty t ht).len;omega,fun t ht n hn hk=>by have:=(h.ty t ht).low n hn hk;omega⟩
theorem ProgP.sitesQ {B:Nat} {p:List Mod6} (h:ProgP B p) (hB:B≤4000000):Zzh p:=h.sitesP hB
theorem Pt.tree7 {B:Nat} {t:List Node} (h:Pt B t) (hB:B≤4000000):t.length=0∨TyOk t:=by
 rcases h.ty with rfl|hf
 ·exact .inl rfl
 ·obtain ⟨x,hx,hw,_⟩:=hf.tree;exact .inr ⟨⟨by have:=h.len;omega,hf.numb,x,hx,hw⟩,hf.plain⟩
theorem ProgP.belP {B:Nat} {p:List Mod6} (h:ProgP B p) (hB:B≤4000000):BelP p :=
 ⟨h.bare,fun m hm=>by have:=h.imps m hm;omega,fun m hm=>by have:=h.sites m hm;omega,fun t ht=>(h.ty t ht).tree7 hB⟩
theorem Pt.inT {B:Nat} {t:List Node} (h:Pt B t) (hB:B≤4000000):Qpl ⟨t⟩:=by
 refine ⟨by have:=h.len;show t.length≤_;omega,?_⟩
 rcases h.ty with rfl|hf
 ·exact .inl rfl
 ·obtain ⟨x,hx,hw,_⟩:=hf.tree;exact .inr ⟨x,by show At ar t 0 x;rw [hx];exact G7 hw⟩
theorem ProgP.belQ {B:Nat} {p:List Mod6} (h:ProgP B p) (hB:B≤4000000):BelQ p :=
 ⟨h.bare,fun m hm=>by have:=h.imps m hm;omega,fun t ht=>(h.ty t ht).inT hB⟩
theorem ProgP.in6 {B:Nat} {p:List Mod6} (h:ProgP B p) (hB:B≤4000000):Lo p.length∧∀ m∈p,In6 m:=by
 refine ⟨by have:=h.len;show _≤_;omega,fun m hm=>⟨by have:=h.imps m hm;show _≤_;omega,by have:=h.defs m hm;show _≤_;omega,by have:=h.sites m hm;show _≤_;omega,fun d hd=>by have:=(h.dt m hm d hd).len;show _≤_;omega,fun d hd=>⟨by have:=(h.e m hm d hd).2;omega,fun q hq=>?_⟩⟩⟩
 have h1:=(h.et m hm d hd q hq).1.len;have h2:=(h.et m hm d hd q hq).2.len;exact ⟨by omega,by omega⟩
theorem Zet {B C:Nat} {t u:List Node} (ht:Pt B t) (hu:Pt C u):pU ⟨t⟩ ⟨u⟩=Zg3 t u:=by
 unfold pU Zg3;simp only;by_cases h0:t.length=0
 ·rw [if_pos (.inl h0)];by_cases h1:u.length=0
  ·rw [if_pos ⟨h0,h1⟩,h0,h1];rfl
  ·rw [if_neg (fun h=>h1 h.2),if_pos (.inl h0),Za];omega
 ·by_cases h1:u.length=0
  ·rw [if_pos (.inr h1),if_neg (fun h=>h0 h.1),if_pos (.inr h1),Za];omega
  ·rw [if_neg (by omega),if_neg (by omega),if_neg (by omega)]
   have f1:=ht.ty.resolve_left fun e=>h0 (by rw [e];rfl)
   have f2:=hu.ty.resolve_left fun e=>h1 (by rw [e];rfl)
   obtain ⟨x,hx,Qyu,nx⟩:=f1.tree;obtain ⟨y,hy,Qyt,ny⟩:=f2.tree;have e1:Xa ar t 0=x:=Xz (by rw [hx];exact G7 Qyu)
   have e2:Xa ar u 0=y:=Xz (by rw [hy];exact G7 Qyt)
   unfold Zy7 Qnn;rw [e1,e2,Zze (by rw [nx,ny])]
theorem mB {B C:Nat} {p q:List Mod6} (hp:ProgP B p) (hq:ProgP C q):Zal p q=Iq p q:=by
 unfold Zal Iq;have h1:Zec Zb0 Je (Y7 p) (Y7 q)=Qkw (Y7 p) (Y7 q):=rfl;rw [h1];cases ha:Qkw (Y7 p) (Y7 q) with
 | false=>rfl
 | true =>
  have hl:=Qia ha;rw [Bool.true_and,Bool.true_and];unfold Zec Qnm;rw [hl,beq_self_eq_true,Bool.true_and,Bool.eq_iff_iff,List.all_eq_true,List.all_eq_true];refine forall_congr' fun i=>?_;rw [List.mem_range];refine ⟨fun h hi=>?_,fun h hi=>?_⟩
  ·have:=h hi;rwa [Zet (hp.ty _ (by simp [show i<(De p).length by omega])) (hq.ty _ (by simp [hi]))] at this
  ·have:=h hi;rwa [←Zet (hp.ty _ (by simp [show i<(De p).length by omega])) (hq.ty _ (by simp [hi]))] at this
mutual
noncomputable def fillX (l:List Ch):Rose Node→Rose Node
 | mk n ks=>if n.kind=0 then (match Ua l n.n with
  | some u=>Xa ar (named n.name u) 0
  | none=>mk n (fillXs l ks)) else mk n (fillXs l ks)
noncomputable def fillXs (l:List Ch):List (Rose Node)→List (Rose Node)
 | []=>[]
 | x::xs=>fillX l x::fillXs l xs
end
theorem zJ {l:List Ch}:∀ ks:List (Rose Node),(fillXs l ks).length=ks.length
 | []=>by rw [fillXs]
 | x::ks=>by rw [fillXs,Zi,Zi,zJ ks]
theorem gY {l:List Ch} (hr:Xy l=true) {s:Int} {u:List Node} (h:Ua l s=some u) (nm:List UInt8) :
  ∃ z,named nm u=nds z∧wf ar z∧z.root.name=nm∧z.root.kind≠0∧Xa ar (named nm u) 0=z∧Ga (nds z)∧Ya (nds z)=true∧∀ n∈nds z,n.kind≠0:=by
 obtain ⟨c,hc,-,rfl⟩:=Ss h;obtain ⟨_,f2,f3,f4⟩:=vL hr c hc;obtain ⟨x,hx,hR⟩:=Dg f2;rw [hx] at f3 f4;obtain ⟨n,ks⟩:=x;have Jg:∀ m∈nds (mk n ks),m.kind≠0:=fun m hm=>by
  unfold N7 at f4;have:=List.all_eq_true.1 f4 m hm;simpa using this
 have Yn:n∈nds (mk n ks):=by rw [Y2];exact List.mem_cons_self ..
 have e:named nm c.t=nds (mk ⟨n.kind,nm,n.n⟩ ks):=by rw [hx,Y2,Y2];rfl
 have hw:wf ar (mk ⟨n.kind,nm,n.n⟩ ks):=⟨hR.wf.1,hR.wf.2⟩;have hN:Ga (nds (mk ⟨n.kind,nm,n.n⟩ ks)):=by
  have:=xH (s:=nm) (t:=c.t) (by rw [hx];exact hR.numb)
  rwa [e] at this
 refine ⟨_,e,hw,rfl,Jg n Yn,Xz (by rw [e];exact G7 hw),hN,?_,fun m hm=>?_⟩
 ·rw [V8] at f3 ⊢;intro m hm;rw [Y2] at hm;rcases Zs.1 hm with rfl|hm
  ·exact f3 n Yn
  ·exact f3 m (by rw [Y2];exact List.mem_cons_of_mem _ hm)
 ·rw [Y2] at hm;rcases Zs.1 hm with rfl|hm
  ·exact Jg n Yn
  ·exact Jg m (by rw [Y2];exact List.mem_cons_of_mem _ hm)
theorem Zyp {l:List Ch} (hr:Xy l=true):∀ x:Rose Node,(fillX l x).root.name=x.root.name
 | mk n ks=>by
  rw [fillX];split
  ·cases h:Ua l n.n with
   | none=>rfl
   | some u =>
    obtain ⟨z,_,_,hz,_,ht,_⟩:=gY hr h n.name;show (Xa ar (named n.name u) 0).root.name=n.name;rw [ht,hz]
  ·rfl
mutual
theorem fillX_nds {l:List Ch} (hr:Xy l=true):∀ {x:Rose Node},wf ar x→nds (fillX l x)=(nds x).flatMap (fillN l)∧wf ar (fillX l x)
 | mk n ks,h=>by
  have ih:=fillXs_nds hr (ks:=ks) h.2;rw [fillX,Y2,List.flatMap_cons];by_cases h0:n.kind=0
  ·have jV:ks=[]:=by
    refine List.length_eq_zero_iff.1 (h.1.trans ?_);unfold ar;rw [if_neg (by omega),if_neg (by omega)]
   subst jV;rw [if_pos h0];unfold fillN;rw [if_pos h0];cases hq:Ua l n.n with
   | none =>
    refine ⟨?_,?_,?_⟩
    ·rw [fillXs];simp [Y2,ndss]
    ·rw [fillXs];exact h.1
    ·rw [fillXs];trivial
   | some u =>
    obtain ⟨z,e,hw,_,_,ht,_⟩:=gY hr hq n.name;show nds (Xa ar (named n.name u) 0)=named n.name u++_∧wf ar (Xa ar (named n.name u) 0);rw [ht,e];exact ⟨by simp [ndss],hw⟩
  ·rw [if_neg h0];refine ⟨?_,?_,ih.2⟩
   ·rw [Y2,ih.1];unfold fillN;rw [if_neg h0];rfl
   ·rw [zJ];exact h.1
theorem fillXs_nds {l:List Ch} (hr:Xy l=true):∀ {ks:List (Rose Node)},wfs ar ks→ndss (fillXs l ks)=(ndss ks).flatMap (fillN l)∧wfs ar (fillXs l ks)
 | [],_=>by rw [fillXs];exact ⟨rfl,trivial⟩
 | x::ks,h=>by
  have h1:=fillX_nds hr (x:=x) h.1;have h2:=fillXs_nds hr (ks:=ks) h.2;rw [fillXs,ndss,ndss,List.flatMap_append,h1.1,h2.1];exact ⟨rfl,h1.2,h2.2⟩
end
theorem Zjh {l:List Ch} (hr:Xy l=true) {n:Node} (h:n.kind≠8∧n.kind≠9):∀ m∈fillN l n,m.kind≠8∧m.kind≠9:=by
 have h1:∀ m∈[n],m.kind≠8∧m.kind≠9:=fun m hm=>by rw [Zt] at hm;subst hm;exact h
 unfold fillN;split
 ·cases hq:Ua l n.n with
  | none=>exact h1
  | some u =>
   obtain ⟨z,e,_,_,_,_,_,hp,_⟩:=gY hr hq n.name;show ∀ m∈named n.name u,_;rw [e];exact V8.1 hp
 ·exact h1
theorem Qed {l:List Ch} (hr:Xy l=true) {n m:Node} (hm:m∈fillN l n) (hk:m.kind=0):m=n∧Ua l n.n=none:=by
 unfold fillN at hm;split at hm
 ·cases hq:Ua l n.n with
  | none=>rw [hq] at hm;exact ⟨Zt.1 hm,rfl⟩
  | some u =>
   rw [hq] at hm;obtain ⟨z,e,_,_,_,_,_,_,hs⟩:=gY hr hq n.name;have hm:m∈named n.name u:=hm;rw [e] at hm;exact absurd hk (hs m hm)
 ·rename_i h0;have:=Zt.1 hm;subst this;exact absurd hk h0
theorem Pt.filled {B:Nat} {t:List Node} (h:Pt B t) {l:List Ch} (hr:Xy l=true) (hl:∀ c∈l,c.t.length≤30):Pt (30*B) (Y8 (Kz l) t):=by
 refine ⟨by have h1:=Zli hl hr t;have h2:=h.len;have:=Nat.mul_le_mul_left 30 h2;omega,?_,fun n hn hk=>?_⟩
 ·rcases h.ty with rfl|hf
  ·exact .inl rfl
  ·right;obtain ⟨x,hx,hw,nx⟩:=hf.tree;refine ⟨Qc9 hr hf.numb,?_,fillX l x,?_,(fillX_nds hr hw).2,by rw [Zyp hr,nx]⟩
   ·rw [bF hr,V8];intro m hm;obtain ⟨n,hn,Qjd⟩:=List.mem_flatMap.1 hm;exact Zjh hr (V8.1 hf.plain n hn) m Qjd
   ·rw [bF hr,hx,(fillX_nds hr hw).1]
 ·rw [bF hr] at hn;obtain ⟨m,hm,Qjd⟩:=List.mem_flatMap.1 hn;obtain ⟨rfl,_⟩:=Qed hr Qjd hk;exact h.low n hm hk
theorem Sr {m:MT} {p:List Mod6} {x:Mod6}:x∈I2 m p↔∃ y∈p,x=⟨y.name,y.imps,y.defs.map (Sd m),y.sites⟩:=by
 unfold I2;rw [Xs,List.mem_map];unfold eR;simp only [Xs];constructor
 ·rintro ⟨y,hy,rfl⟩;exact ⟨y,hy,rfl⟩
 ·rintro ⟨y,hy,rfl⟩;exact ⟨y,hy,rfl⟩
theorem ProgP.filled {B:Nat} {p:List Mod6} (h:ProgP B p) {l:List Ch} (hr:Xy l=true) (hl:∀ c∈l,c.t.length≤30):ProgP (30*B) (I2 (Kz l) p):=by
 refine ⟨by unfold I2;rw [List.length_mapIdx];exact h.len,?_,?_,?_,?_,?_,?_⟩
 ·intro m hm;obtain ⟨y,hy,rfl⟩:=Sr.1 hm;exact h.imps y hy
 ·intro m hm;obtain ⟨y,hy,rfl⟩:=Sr.1 hm;show (y.defs.map _).length≤_;rw [Zf];exact h.defs y hy
 ·intro m hm;obtain ⟨y,hy,rfl⟩:=Sr.1 hm;exact h.sites y hy
 ·intro m hm d hd;obtain ⟨y,hy,rfl⟩:=Sr.1 hm;obtain ⟨c,hc,rfl⟩:=List.mem_map.1 hd;have:=h.e y hy c hc;exact ⟨fun e=>this.1 (by simpa [Sd] using e),by show (c.e.map _).length≤_;rw [Zf];exact this.2⟩
 ·intro m hm d hd;obtain ⟨y,hy,rfl⟩:=Sr.1 hm;obtain ⟨c,hc,rfl⟩:=List.mem_map.1 hd;exact (h.dt y hy c hc).filled hr hl
 ·intro m hm d hd q hq;obtain ⟨y,hy,rfl⟩:=Sr.1 hm;obtain ⟨c,hc,rfl⟩:=List.mem_map.1 hd;obtain ⟨r,Quq,rfl⟩:=List.mem_map.1 hq;exact ⟨(h.et y hy c hc r Quq).1.filled hr hl,(h.et y hy c hc r Quq).2.filled hr hl⟩
theorem Zyx {l:List Ch} (hr:Xy l=true) (p:List Mod6):Zls l p=I2 (Kz l) p:=by
 have h1:Ag l=Hs (Kz l):=by funext q;unfold Ag Hs;rw [Zd7 hr]
 have h2:mJ l=Sd (Kz l):=by funext d;unfold mJ Sd;rw [Zd7 hr,h1]
 have h3:Zgy l=eR (Kz l):=by funext m;unfold Zgy eR;rw [h2]
 unfold Zls I2;rw [h3]
theorem U6 {c:Prop} [Decidable c] {a b:Bool} (h:(if c then a else b)=true):a=true∨b=true:=by
 by_cases hc:c
 ·rw [if_pos hc] at h;exact .inl h
 ·rw [if_neg hc] at h;exact .inr h
theorem Zia {p:Part} {w tg b t u li na op:Bool} (h:Xq p w tg b t u li na op=true):(p.t.length=0∨t=true∨li=true)∧(p.u.length=0∨u=true):=by
 unfold Xq at h;have hb:∀ {a b:Bool},(a&&b)=true→a=true∧b=true:=fun h=>by simpa using h
 have hl:∀ {n:Nat},((n:Int)==0)=true→n=0:=fun h=>by simpa using h
 rcases U6 h with h|h
 ·cases h
 rcases U6 h with h|h
 ·exact ⟨.inr (.inr (hb h).2),.inl (hl (hb (hb h).1).2)⟩
 rcases U6 h with h|h
 ·exact ⟨.inl (hl (hb (hb (hb h).1).1).2),.inl (hl (hb (hb h).1).2)⟩
 rcases U6 h with h|h
 ·exact ⟨.inr (.inl (hb (hb h).1).2),.inl (hl (hb h).2)⟩
 rcases U6 h with h|h
 ·exact ⟨.inl (hl (hb (hb h).1).2),.inl (hl (hb h).2)⟩
 rcases U6 h with h|h
 ·exact ⟨.inr (.inl (hb (hb h).1).2),.inr (hb h).2⟩
 rcases U6 h with h|h
 ·exact ⟨.inl (hl (hb (hb h).1).2),.inl (hl (hb h).2)⟩
 rcases U6 h with h|h
 ·exact ⟨.inl (hl (hb (hb h).1).2),.inl (hl (hb h).2)⟩
 rcases U6 h with h|h
 ·exact ⟨.inl (hl (hb (hb h).1).2),.inl (hl (hb h).2)⟩
 rcases U6 h with h|h
 ·exact ⟨.inl (hl (hb (hb h).1).2),.inl (hl (hb h).2)⟩
 rcases U6 h with h|h
 ·exact ⟨.inl (hl (hb (hb h).1).2),.inl (hl (hb h).2)⟩
 rcases U6 h with h|h
 ·exact ⟨.inr (.inl (hb (hb h).1).2),.inl (hl (hb h).2)⟩
 rcases U6 h with h|h
 ·exact ⟨.inr (.inl (hb (hb h).1).2),.inl (hl (hb h).2)⟩
 rcases U6 h with h|h
 ·exact ⟨.inr (.inl (hb (hb (hb h).1).1).2),.inr (hb (hb h).1).2⟩
 ·cases h
theorem TyF.of {t:List Node} (h:Wg t=true) (hp:Ya t=true):TyF t:=by
 obtain ⟨x,hx,hR⟩:=Dg h;exact ⟨by rw [hx];exact hR.numb,hp,x,hx,hR.wf,hR.name⟩
theorem TyF.lit {n:Node} (h1:1≤n.kind) (h4:n.kind≤4) (hn:n.name=[]) (h0:n.n=0):TyF [n]:=by
 refine ⟨fun m hm=>?_,?_,.mk n [],by rw [Y2];rfl,⟨?_,trivial⟩,hn⟩
 ·rw [Zt] at hm;subst hm;unfold V0;rw [if_neg (by omega),if_pos (by omega),decide_eq_true_eq]
  exact h0
 ·rw [V8];intro m hm;rw [Zt] at hm;subst hm;omega
 ·unfold ar;rw [if_neg (by omega),if_neg (by omega)]
  rfl
theorem Qfu {p:Part} (h:Ak p=true):(p.t=[]∨TyF p.t)∧(p.u=[]∨TyF p.u):=by
 unfold Ak at h;obtain ⟨h1,h2⟩:=Zia h;have hp:∀ {t:List Node},eY t=true→TyF t:=fun {t} h=>by
  unfold eY at h;rw [Zg] at h;exact TyF.of h.1 h.2
 refine ⟨?_,?_⟩
 ·rcases h1 with h1|h1|h1
  ·exact .inl (List.length_eq_zero_iff.1 h1)
  ·exact .inr (hp h1)
  ·right;unfold Ot Qdp at h1;split at h1
   ·cases h1
   rename_i hc;have hl:p.t.length=1:=Classical.byContradiction fun h=>hc (.inl h);have Quv:(p.t.getD 0 n0).name=[]:=Classical.byContradiction fun h=>hc (.inr (.inl h));have Qs9:(p.t.getD 0 n0).n=0:=Classical.byContradiction fun h=>hc (.inr (.inr (.inl h)));obtain ⟨n,hn⟩:∃ n,p.t=[n]:=List.length_eq_one_iff.1 hl;rw [hn] at h1 Quv Qs9 ⊢;simp only [List.getD_cons_zero] at h1 Quv Qs9;have hk:1≤n.kind∧n.kind≤4:=by
    split at h1
    ·omega
    split at h1
    ·omega
    split at h1
    ·omega
    split at h1
    ·omega
    ·cases h1
   exact TyF.lit hk.1 hk.2 Quv Qs9
 ·rcases h2 with h2|h2
  ·exact .inl (List.length_eq_zero_iff.1 h2)
  ·exact .inr (hp h2)
theorem Fq {b:Int} (t:List Node):Hi b t=t.map (Y1 b):=by unfold Hi;rw [Xs]
theorem T4 {b:Int} (n:Node):(Y1 b n).kind=n.kind∧(Y1 b n).name=n.name∧(n.kind≠0→(Y1 b n).n=n.n):=by
 unfold Y1;split
 ·rename_i h;exact ⟨rfl,rfl,fun h0=>absurd h.1 h0⟩
 ·exact ⟨rfl,rfl,fun _=>rfl⟩
theorem TyF.shift {b:Int} (hb:0≤b) {t:List Node} (h:TyF t):TyF (Hi b t):=by
 obtain ⟨x,hx,hw,hn⟩:=h.tree;refine ⟨?_,?_,mapX (Y1 b) x,?_,wf_mapX (fun n=>?_) hw,?_⟩
 ·rw [Fq];intro m hm;obtain ⟨n,hn,rfl⟩:=List.mem_map.1 hm;have:=h.numb n hn;obtain ⟨h1,h2,h3⟩:=T4 (b:=b) n;by_cases h0:n.kind=0
  ·unfold V0 at this ⊢;rw [if_pos (.inl h0),decide_eq_true_eq] at this;rw [if_pos (.inl (by rw [h1];exact h0)),decide_eq_true_eq]
   unfold Y1;split
   ·show 0≤n.n+b;omega
   ·exact this
  ·unfold V0 at this ⊢;rw [h1,h3 h0];exact this
 ·rw [Fq,V8];intro m hm;obtain ⟨n,hn,rfl⟩:=List.mem_map.1 hm;rw [(T4 n).1];exact V8.1 h.plain n hn
 ·rw [Fq,hx,nds_mapX]
 ·obtain ⟨h1,h2,h3⟩:=T4 (b:=b) n;by_cases h0:n.kind=0
  ·unfold ar;rw [h1,if_neg (by omega),if_neg (by omega),if_neg (by omega),if_neg (by omega)]
  ·exact Ql8 h1 (h3 h0)
 ·obtain ⟨n,ks⟩:=x;rw [mapX];show (Y1 b n).name=[];rw [(T4 n).2.1];exact hn
theorem bV {α:Type} {w:α→Nat}:∀ {l:List α} {x:α},x∈l→w x≤(l.map w).sum
 | [],x,h=>by cases h
 | y::l,x,h=>by
  rw [List.map_cons,List.sum_cons];rcases Zs.1 h with rfl|h
  ·omega
  ·have:=bV (w:=w) h;omega
theorem wM {α:Type} {w:α→Nat}:∀ {l:List α},1≤(l.map w).sum→∃ x∈l,1≤w x
 | [],h=>by simp at h
 | y::l,h=>by
  rw [List.map_cons,List.sum_cons] at h;by_cases hy:1≤w y
  ·exact ⟨y,List.mem_cons_self ..,hy⟩
  ·obtain ⟨x,hx,h1⟩:=wM (w:=w) (l:=l) (by omega)
   exact ⟨x,List.mem_cons_of_mem _ hx,h1⟩
theorem Sp {z:Int} {t:List Node}:1≤J0 (Ys z) t↔∃ n∈t,n.kind=0∧n.n=z:=by
 unfold J0;constructor
 ·intro h;obtain ⟨n,hn,h1⟩:=wM h;unfold Ys at h1;split at h1
  ·rename_i hc;exact ⟨n,hn,hc⟩
  ·omega
 ·rintro ⟨n,hn,hc⟩;have:=bV (w:=Ys z) hn;unfold Ys at this;rw [if_pos hc] at this;exact this
theorem Qei {z:Int} {p:List Mod6}:1≤Zgz z p↔∃ t∈De p,∃ n∈t.l,n.kind=0∧n.n=z:=by
 unfold Zgz Of;constructor
 ·intro h;obtain ⟨m,hm,h1⟩:=wM h;obtain ⟨d,hd,h2⟩:=wM h1;unfold C1 at h2;by_cases ht:1≤J0 (Ys z) d.t
  ·exact ⟨⟨d.t⟩,Dk.2 ⟨m,hm,d,hd,.inl rfl⟩,Sp.1 ht⟩
  ·obtain ⟨q,hq,h3⟩:=wM (w:=Xi z) (l:=d.e) (by unfold Wh at h2;omega)
   unfold Xi at h3;by_cases Qv0:1≤J0 (Ys z) q.t
   ·exact ⟨⟨q.t⟩,Dk.2 ⟨m,hm,d,hd,.inr ⟨q,hq,.inl rfl⟩⟩,Sp.1 Qv0⟩
   ·exact ⟨⟨q.u⟩,Dk.2 ⟨m,hm,d,hd,.inr ⟨q,hq,.inr rfl⟩⟩,Sp.1 (show 1≤J0 (Ys z) q.u by omega)⟩
 ·rintro ⟨t,ht,hn⟩;obtain ⟨m,hm,d,hd,ht⟩:=Dk.1 ht;have h1:1≤C1 z d:=by
   unfold C1;rcases ht with rfl|⟨q,hq,rfl|rfl⟩
   ·have g1:1≤J0 (Ys z) d.t:=Sp.2 hn;omega
   ·have g1:1≤J0 (Ys z) q.t:=Sp.2 hn;have g2:=bV (w:=Xi z) hq;unfold Xi at g2;unfold Wh;unfold Xi;omega
   ·have g1:1≤J0 (Ys z) q.u:=Sp.2 hn;have g2:=bV (w:=Xi z) hq;unfold Xi at g2;unfold Wh;unfold Xi;omega
  have h2:=bV (w:=C1 z) hd;have h3:(m.defs.map (C1 z)).sum≤_:=bV (w:=fun m:Mod6=>(m.defs.map (C1 z)).sum) hm;omega
theorem Bm {l:List Mod6} {x:Mod6} (h:x∈l.mapIdx (Uu l)):∃ k,∃ y∈l,x=⟨y.name,y.imps,y.defs.map (V5 (ah l k)),y.sites⟩:=by
 obtain ⟨k,hk,rfl⟩:=List.mem_mapIdx.1 h;refine ⟨k,l[k],List.getElem_mem hk,?_⟩;unfold Uu;rw [Xs]
theorem Zbh {l:List Mod6} (uF:l.length≤20) (hG:∀ m∈l,Good9 m) (Qu7:∀ m∈l,∀ d∈m.defs,fI d.t) (h60:ah l l.length≤60):ProgP 100001 (l.mapIdx (Uu l)):=by
 have mI:∀ t∈De (l.mapIdx (Uu l)),∀ n∈t.l,n.kind=0→n.n≤60:=fun t ht n hn hk=>by
  refine Classical.byContradiction fun Quz=>?_;have h1:=Qei.2 ⟨t,ht,n,hn,hk,rfl⟩;rw [zH (by omega) fun m hm=>(hG m hm).cnt,if_neg (by omega)] at h1
  omega
 have Qwz:∀ m∈l,∀ d∈m.defs,d.t=[]∨TyF d.t:=fun m hm d hd =>
  .inr (TyF.of ((hG m hm).ok d hd).2.1 (V8.2 (Qu7 m hm d hd)))
 have Jbi:∀ m∈l,∀ d∈m.defs,∀ q∈d.e,(q.t=[]∨TyF q.t)∧(q.u=[]∨TyF q.u):=fun m hm d hd q hq=>by
  have h:=(hG m hm).right d hd;unfold Ke at h;simp only [Zg] at h;exact Qfu (List.all_eq_true.1 h.2.1 q hq)
 have Qpo:∀ {t:List Node} {k:Nat},t.length≤100001→(t=[]∨TyF t)→(Hi (ah l k) t).length≤100001∧(Hi (ah l k) t=[]∨TyF (Hi (ah l k) t)):=fun {t k} hl ht=>by
  refine ⟨by rw [Fq,Zf];exact hl,?_⟩
  rcases ht with rfl|ht
  ·exact .inl rfl
  ·exact .inr (ht.shift (by omega))
 refine ⟨by rw [List.length_mapIdx];exact uF,?_,?_,?_,?_,?_,?_⟩
 ·intro m hm;obtain ⟨k,y,hy,rfl⟩:=Bm hm;have:=(hG y hy).ilen;show y.imps.length≤_;omega
 ·intro m hm;obtain ⟨k,y,hy,rfl⟩:=Bm hm;show (y.defs.map _).length≤_;rw [Zf];exact (hG y hy).dlen
 ·intro m hm;obtain ⟨k,y,hy,rfl⟩:=Bm hm;have:=(hG y hy).slen;show y.sites.length≤_;omega
 ·intro m hm d hd;obtain ⟨k,y,hy,rfl⟩:=Bm hm;obtain ⟨c,hc,rfl⟩:=List.mem_map.1 hd;have h1:=((hG y hy).ok c hc).2.2;have h2:=((hG y hy).fit c hc).e;have e1:(V5 (ah l k) c).e.length=c.e.length:=by unfold V5;simp only [List.length_mapIdx]
  refine ⟨fun e=>h1 (List.length_eq_zero_iff.1 ?_),by rw [e1];exact h2⟩
  rw [←e1,e];rfl
 ·intro m hm d hd;have Quw:=hm;have Zh8:=hd;obtain ⟨k,y,hy,rfl⟩:=Bm hm;obtain ⟨c,hc,rfl⟩:=List.mem_map.1 hd;obtain ⟨g1,g2⟩:=Qpo (k:=k) ((hG y hy).fit c hc).t (Qwz y hy c hc);exact ⟨g1,g2,fun n hn hk=>mI ⟨_⟩ (Dk.2 ⟨_,Quw,_,Zh8,.inl rfl⟩) n hn hk⟩
 ·intro m hm d hd q hq;have Quw:=hm;have Zh8:=hd;have Qod:=hq;obtain ⟨k,y,hy,rfl⟩:=Bm hm;obtain ⟨c,hc,rfl⟩:=List.mem_map.1 hd;have he:(V5 (ah l k) c).e=c.e.map (Ut (ah l k)):=by unfold V5;simp only [Xs]
  rw [he] at hq;obtain ⟨r,hr,rfl⟩:=List.mem_map.1 hq;obtain ⟨f1,f2⟩:=Jbi y hy c hc r hr;have ft:=((hG y hy).fit c hc).fit r hr;obtain ⟨g1,g2⟩:=Qpo (k:=k) ft.1.1 f1;obtain ⟨g3,g4⟩:=Qpo (k:=k) ft.2.1.1 f2;exact ⟨⟨g1,g2,fun n hn hk=>mI ⟨_⟩ (Dk.2 ⟨_,Quw,_,Zh8,.inr ⟨_,Qod,.inl rfl⟩⟩) n hn hk⟩,g3,g4,fun n hn hk=>mI ⟨_⟩ (Dk.2 ⟨_,Quw,_,Zh8,.inr ⟨_,Qod,.inr rfl⟩⟩) n hn hk⟩
structure NumP (P:List Mod6) (n:Int):Prop where
 prog:ProgP 100001 P
 lo:0≤n
 hi:n≤60
 cnt:∀ z:Int,z≠0→Zgz z P=if 1≤z∧z≤n then 1 else 0
 pos:∀ t∈De P,∀ n∈t.l,n.kind=0→1≤n.n
theorem Zf6 {l:List Mod6} (hG:∀ m∈l,Good9 m):∀ t∈De (l.mapIdx (Uu l)),∀ n∈t.l,n.kind=0→1≤n.n:=by
 have h0:∀ m∈l,∀ d∈m.defs,∀ t:List Node,(t=d.t∨∃ q∈d.e,t=q.t∨t=q.u)→∀ n∈t,n.kind=0→1≤n.n:=fun m hm d hd t ht n hn hk=>by
  have h1:=(hG m hm).cnt n.n;have h2:1≤A4 n.n m.defs:=by
   have h3:=bV (w:=C1 n.n) hd;have h4:1≤C1 n.n d:=by
    have h5:=Sp.2 ⟨n,hn,hk,rfl⟩;unfold C1;rcases ht with rfl|⟨q,hq,rfl|rfl⟩
    ·omega
    ·have g2:=bV (w:=Xi n.n) hq;unfold Xi at g2;unfold Wh;unfold Xi;omega
    ·have g2:=bV (w:=Xi n.n) hq;unfold Xi at g2;unfold Wh;unfold Xi;omega
   unfold A4;omega
  rw [h1] at h2;split at h2
  ·omega
  ·omega
 have hs:∀ {t:List Node} {k:Nat},(∀ n∈t,n.kind=0→1≤n.n)→∀ n∈Hi (ah l k) t,n.kind=0→1≤n.n:=fun {t k} h n hn hk=>by
  rw [Fq] at hn;obtain ⟨m,hm,rfl⟩:=List.mem_map.1 hn;rw [(T4 m).1] at hk;have:=h m hm hk;unfold Y1;rw [if_pos ⟨hk,by omega⟩]
  show 1≤m.n+_;omega
 intro t ht n hn hk;obtain ⟨m,hm,d,hd,ht⟩:=Dk.1 ht;obtain ⟨k,y,hy,rfl⟩:=Bm hm;obtain ⟨c,hc,rfl⟩:=List.mem_map.1 hd;rcases ht with rfl|⟨q,hq,ht⟩
 ·exact hs (h0 y hy c hc c.t (.inl rfl)) n hn hk
 ·have he:(V5 (ah l k) c).e=c.e.map (Ut (ah l k)):=by unfold V5;simp only [Xs]
  rw [he] at hq;obtain ⟨r,hr,rfl⟩:=List.mem_map.1 hq;rcases ht with rfl|rfl
  ·exact hs (h0 y hy c hc r.t (.inr ⟨r,hr,.inl rfl⟩)) n hn hk
  ·exact hs (h0 y hy c hc r.u (.inr ⟨r,hr,.inr rfl⟩)) n hn hk
theorem xO {t:Tx9} {most:Int} (h:(I0 t most).2.2=true):NumP (I0 t most).1.l (I0 t most).2.1∧(I0 t most).2.1≤most:=by
 have hg:=jP t;have Qu7:=Zjj t;unfold I0 at h ⊢;split at h
 ·cases h
 rename_i Vt;rw [if_neg Vt];simp only [Zg,Zj,Q9] at h ⊢;obtain ⟨_,h2,h3⟩:=h;obtain ⟨l,hl⟩:=exq ((Wq t).1);rw [hl] at hg Qu7 h2 h3 ⊢;unfold Dh at h2 h3 ⊢;split at h2
 ·cases h2
 rename_i h60;rw [if_neg h60] at h3 ⊢;exact ⟨⟨Zbh hg.1 hg.2 Qu7 (by omega),by simp only;omega,by simp only;omega,fun z hz=>zH hz fun m hm=>(hg.2 m hm).cnt,Zf6 hg.2⟩,h3⟩
theorem Zcp {p:List Mod6} (h:Zzh p):Lo (Fp (De p)).length:=by
 have h1:=wO h.low;have h2:=Qa2 (vG (l:=De p) (S:=[]) ⟨List.nodup_nil,fun x hx=>by cases hx⟩ h.low)
 rw [←h1];unfold dT;rw [List.length_mergeSort];show _≤_;omega
noncomputable def con_AssignPrograms:Con:=Um (fun (_ _:Tx9) (l:Sl Ch)=>Zzj l.l) (fun _ _ _=>true)
class KjU:Prop
theorem KjU.k (_:KjU) (h:p:=by
 first|exact Qp4|exact hM|exact Jb6|exact p1|exact p2|exact p3|exact p4|exact p5|exact p6|exact y0|exact y0.2 _ (by assumption)|exact y3|exact y4|exact y5|exact y6|exact u5|exact u6|exact l1|exact l2|rfl|trivial|skip):p:=h
theorem good_AssignPrograms:Qc Tryz.prog (9,con_AssignPrograms):=by
 obtain ⟨Kx,Kt,Kc,Kd,Kb,Ku,Kw,K,X4,V2,Mo,Tx,jB,vK,Za6,Zmm,Zm7,Zm6,jC,_⟩:=J7 Zx Zo [] false (Q1 Zk4 cE.eq_def (Q1 good_Few11 iO.eq_def (Q1 Zgj Ia.eq_def (Q1 Zbm D4.eq_def (Q1 good_Program11 Tu.eq_def (Q1 good_Same9 iE.eq_def (Q1 good_SitesA cZ.eq_def (Q1 good_Sites11 Ii.eq_def (Q1 good_Ints03 cH.eq_def (Q1 good_BelowA cM.eq_def (Q1 good_Below11 Io.eq_def J5)))))))))));have Ko:=con_AssignPrograms.eq_def;refine J9 K Tryz.func9 [.tmp 6] rfl 94 rfl (fun c hc Ji Zh=>?_);unfold con_AssignPrograms at Zh;obtain ⟨⟨na,xa⟩,⟨nb,xb⟩,⟨l⟩,rfl,Qp4⟩:=Vb Zh;simp only at Qp4;clear Zh;have Zzq:=xO (t:=⟨na,xa⟩) (most:=60);have Qod:=xO (t:=⟨nb,xb⟩) (most:=60);obtain ⟨⟨⟨P⟩,n,ok⟩,Qk⟩:=exq (I0 ⟨na,xa⟩ 60);obtain ⟨⟨⟨Q⟩,n2,fine⟩,Qo⟩:=exq (I0 ⟨nb,xb⟩ 60);rw [Qk] at Zzq;rw [Qo] at Qod;simp only at Zzq Qod;cases hc;refine W5 5 ?_;cases ok with
 | false =>
  have Qw:=@Ui;have Q4:=@Uj;have Jf:=@Ug;exact dL
 | true =>
 cases fine with
 | false =>
  have Qw:=@Ui;have Q4:=@Uj;have Jf:=@Ug;exact dL
 | true =>
 cases Qi:Zea l 20 with
 | false =>
  have Qw:=@Ui;have Q4:=@Uj;have Jf:=@Ug;exact N6
 | true =>
 have hP:=(Zzq rfl).1.prog;have hQ:=(Qod rfl).1.prog;clear Zzq Qod;obtain ⟨f1,f2,f3⟩:=Qhe Qi;have hM:kG (Kz l):=Zk8 f3 fun c hc=>by have:=f2 c hc;omega
 have Jb6:Zmo l:=⟨by omega,fun c hc=>by have:=f2 c hc;omega⟩
 have Is:l.length≤1000000:=by omega
 have hY:=hP.filled f3 f2;have Ql:=Zyx f3 P;obtain ⟨Y,Qn⟩:=exq (I2 (Kz l) P);rw [Qn] at hY Ql;have p1:=hP.each (by omega)
 have p2:=hP.fill (by omega)
 have p3:=hP.sitesQ (by omega)
 have p4:=hP.sitesP (by omega)
 have p5:=hP.belQ (by omega)
 have p6:=hP.belP (by omega)
 have y0:=hY.in6 (by omega)
 have y3:=hY.sitesQ (by omega)
 have y4:=hY.sitesP (by omega)
 have y5:=hY.belQ (by omega)
 have y6:=hY.belP (by omega)
 have u5:=hQ.belQ (by omega)
 have u6:=hQ.belP (by omega)
 have l1:=Zcp p3;have l2:=Zcp y3;have Q3:=mB hP hQ;have Jh:=mB hY hP;have Jb:=mB hP hY;obtain ⟨S1,Qp⟩:=exq (Fp (De P));obtain ⟨S2,Qv⟩:=exq (Fp (De Y));rw [Qp] at l1;rw [Qv] at l2;obtain ⟨B1,Z3⟩:=exq (Iq P Q);obtain ⟨B2,Z6⟩:=exq (Iq Y P);obtain ⟨B3,Z7⟩:=exq (Iq P Y);rw [Z3] at Q3;rw [Z6] at Jh;rw [Z7] at Jb;have Qq:(Y==Y)=true:=beq_self_eq_true Y;have Qj:(S1==S1)=true:=beq_self_eq_true S1;have Qx:(S2==S2)=true:=beq_self_eq_true S2;have Qm:(B1==B1)=true:=beq_self_eq_true B1;have Qg:(B2==B2)=true:=beq_self_eq_true B2;have Qr:(B3==B3)=true:=beq_self_eq_true B3;clear hP hQ hY;have Qw:=@Ui;have Q4:=@Uj;have Jf:=@Ug;have Kq:KjU:=⟨⟩;exact Jw
open Go.Proofs
theorem Qkv {p q:D→Prop} {ds:List D} (h:Zzk [p,q] ds):∃ a b,ds=[a,b]∧p a∧q b:=by
 match ds,h with
 | [a,b],h=>exact ⟨a,b,rfl,h.1,h.2.1⟩
def Qum (c:Ch):Prop:=c.t.length≤maxLen∧∀ y∈c.t,y.name.length≤maxLen
theorem Qvi:Qja Tryz.prog 72 2 true Ch Qum :=
 (rJ (ps:=[_,_]) Tryz.underlying72 (by kernel_rfl) rfl ⟨rfl,by kernel_rfl,Zfx Tryz.underlying3,rfl,by kernel_rfl,Qjn,trivial⟩).mono fun x h=>by
  obtain ⟨ds,rfl,h⟩:=h;obtain ⟨a,b,rfl,⟨k,rfl,_⟩,⟨⟨t⟩,rfl,ht⟩⟩:=Qkv h;exact ⟨⟨k,t⟩,rfl,ht⟩
theorem rdChs:Qja Tryz.prog 59 1 false (Sl Ch) (fun a=>a.l.length≤maxLen∧∀ y∈a.l,Qum y):=Zxk Tryz.underlying59 (by kernel_rfl) rfl (by decide) Qvi
theorem fitC_of {a:Sl Ch} (h:a.l.length≤maxLen∧∀ y∈a.l,Qum y):Zzj a.l:=by
 unfold maxLen Qum at h;refine ⟨by have:=h.1;omega,fun c hc=>?_⟩
 obtain ⟨h1,h2⟩:=h.2 c hc;unfold maxLen at *;exact ⟨by omega,fun n hn=>by have:=h2 n hn;omega⟩
end Go.Am.Ty
