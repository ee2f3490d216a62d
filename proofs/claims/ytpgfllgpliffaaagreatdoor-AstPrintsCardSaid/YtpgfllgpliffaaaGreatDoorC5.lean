/- Contracts of functions that the law reaches, and plain laws. Conditions: those that each contract states. -/
import Derived.Test.YtpgfllgpliffaaaGreatDoorC4
import Derived.Test.YtpgfllgpliffaaaGreatDoorChecked
import Derived.WalkKit
import Derived.WalkSmall
import Derived.BigCall
import Derived.Lib.OthersKept
set_option maxHeartbeats 1000000
set_option linter.unusedVariables false
set_option linter.unusedSimpArgs false
variable {p:Prop}
set_option maxRecDepth 100000
namespace Go.Am
def Gt (n:Nat):Nat:=n
theorem Kt:Gt 0=0:=rfl
theorem Kc:Gt 0=0:=rfl
theorem Kd:Gt 0=0:=rfl
theorem Kb:Gt 0=0:=rfl
theorem Ku:Gt 0=0:=rfl
theorem Kw:Gt 0=0:=rfl
theorem Ko:Gt 0=0:=rfl
theorem Y0:Gt 0=0:=rfl
theorem Xr:Gt 0=0:=rfl
theorem eV:Gt 0=0:=rfl
theorem kB:Gt 0=0:=rfl
theorem Zd6:Gt 0=0:=rfl
theorem Zhv:Gt 0=0:=rfl
theorem Zkc:Gt 0=0:=rfl
theorem Zkb:Gt 0=0:=rfl
theorem Zka:Gt 0=0:=rfl
theorem Zj9:Gt 0=0:=rfl
theorem rZ:Gt 0=0:=rfl
theorem rQ:Gt 0=0:=rfl
theorem qU:Gt 0=0:=rfl
theorem qT:Gt 0=0:=rfl
theorem Qz:Gt 0=0:=rfl
theorem Q2:Gt 0=0:=rfl
theorem Qx:Gt 0=0:=rfl
theorem Ql:Gt 0=0:=rfl
theorem Q3:Gt 0=0:=rfl
theorem Ji:Gt 0=0:=rfl
theorem Jl:Gt 0=0:=rfl
theorem Js:Gt 0=0:=rfl
theorem Jk:Gt 0=0:=rfl
theorem Q7:Gt 0=0:=rfl
theorem Zz:Gt 0=0:=rfl
theorem Qi:Gt 0=0:=rfl
theorem Qo:Gt 0=0:=rfl
theorem Qt:Gt 0=0:=rfl
theorem Qq:Gt 0=0:=rfl
theorem Qe:Gt 0=0:=rfl
theorem Z6:Gt 0=0:=rfl
theorem Qb:Gt 0=0:=rfl
theorem Qk:Gt 0=0:=rfl
theorem Q0:Gt 0=0:=rfl
theorem Q1:Gt 0=0:=rfl
theorem Jg:Gt 0=0:=rfl
theorem Jo:Gt 0=0:=rfl
theorem Q9:Gt 0=0:=rfl
theorem Ju:Gt 0=0:=rfl
theorem J1:Gt 0=0:=rfl
theorem P7:Gt 0=0:=rfl
theorem Sh:Gt 0=0:=rfl
theorem Lp:Gt 0=0:=rfl
theorem Sg:Gt 0=0:=rfl
theorem Bj:Gt 0=0:=rfl
theorem Tt:Gt 0=0:=rfl
theorem Ts:Gt 0=0:=rfl
theorem Tq:Gt 0=0:=rfl
theorem Tp:Gt 0=0:=rfl
theorem To:Gt 0=0:=rfl
theorem Tn:Gt 0=0:=rfl
theorem Zuq:Gt 0=0:=rfl
theorem Zup:Gt 0=0:=rfl
theorem Zuo:Gt 0=0:=rfl
theorem Zvu:Gt 0=0:=rfl
theorem Zvt:Gt 0=0:=rfl
theorem Zvs:Gt 0=0:=rfl
theorem Cg {p:Prop} (h:p:=by first|with_reducible assumption|omega|(rw [Xx];omega)):p:=h
theorem Xa {p:Prop} (h:p:=by (try simp only [Vy,Uy,Y9,Hl,upd,Nm,Uw,H9,Nat.reduceDiv,Nat.reduceMod,Nat.reduceMul,Nat.reduceAdd,Nat.reduceEqDiff,Jr,Jx,if_true,if_false,reduceIte]);(first|refine Wk.of_fl ?_|skip);simp only [Wk,rF,oN,R8,kM,AV.kept,keptAll,oM,lk,Wm,and_true,true_and,and_self,Nat.reduceEqDiff,Nat.reduceLeDiff,if_true,if_false,reduceIte,reduceCtorEq,Option.isSome,false_implies];try simp [Wk,rF,R8,kM,AV.kept,keptAll,oM,lk,Wm,List.map_append,Zb,List.map_replicate,Nat.pow_zero,Nat.div_one,Zuq,Zup,Zuo,Zvu,Zvt,Zvs]<;>rfl):p:=h
theorem Qg3 {p q:Prop} (hq:q) (h:q→p:=by
 intro Kq
 (try simp only [Vy,Uy,Y9,Hl,upd,Nm,Uw,H9,Nat.reduceDiv,Nat.reduceMod,Nat.reduceMul,Nat.reduceAdd,Nat.reduceEqDiff,Jr,Jx,if_true,if_false,reduceIte]);(first|refine Wk.of_fl ?_|skip);simp only [Wk,rF,oN,R8,kM,AV.kept,keptAll,oM,lk,Wm,and_true,true_and,and_self,Nat.reduceEqDiff,Nat.reduceLeDiff,if_true,if_false,reduceIte,reduceCtorEq,Option.isSome,false_implies];try simp [Wk,rF,R8,kM,AV.kept,keptAll,oM,lk,Wm,List.map_append,Zb,List.map_replicate,Nat.pow_zero,Nat.div_one,Zuq,Zup,Zuo,Zvu,Zvt,Zvs]
 exact Kq):p:=h hq
theorem Qi5 {p:Prop} (h:p:=by (simp only [Qa5,Oe,bP,Nm,Uw,H9,pur,lk,upd,List.getD_cons_zero,List.getD_cons_succ,Jr,Jx,Nat.reduceDiv,Nat.reduceMod,Nat.reduceMul,Nat.reduceAdd,Nat.reduceEqDiff,if_true,if_false,reduceIte]);refine Z9 (by simp) ?_;(try simp only [Vy,Uy,Y9,Hl,upd,Nm,Uw,H9,Nat.reduceDiv,Nat.reduceMod,Nat.reduceMul,Nat.reduceAdd,Nat.reduceEqDiff,Jr,Jx,if_true,if_false,reduceIte]);(first|refine Wk.of_fl ?_|skip);simp only [Wk,rF,oN,R8,kM,AV.kept,keptAll,oM,lk,Wm,and_true,true_and,and_self,Nat.reduceEqDiff,Nat.reduceLeDiff,if_true,if_false,reduceIte,reduceCtorEq,Option.isSome,false_implies];try simp [Wk,rF,R8,kM,AV.kept,keptAll,oM,lk,Wm,List.map_append,Zb,List.map_replicate,Nat.pow_zero,Nat.div_one,Zuq,Zup,Zuo,Zvu,Zvt,Zvs]<;>rfl):p:=h
theorem Qi6 {p:Prop} (h:p:=by (try simp only [Vy,Uy,Y9,Hl,upd,Nm,Uw,H9,Nat.reduceDiv,Nat.reduceMod,Nat.reduceMul,Nat.reduceAdd,Nat.reduceEqDiff,Jr,Jx,if_true,if_false,reduceIte]);simp only [Qdi,pur,lk,upd,D.setCell,el_set,List.set_set,Jr,Jx,Nat.reduceDiv,Nat.reduceMod,Nat.reduceMul,Nat.reduceAdd,Nat.reduceEqDiff,if_true,if_false,reduceIte,Zuq,Zup,Zuo,Zvu,Zvt,Zvs];refine Z9 (by first|trivial|(simp;done)|omega) (Z9 (by first|trivial|(simp;done)) (Z9 (by first|trivial|omega|(simp;done)) (Z9 (by first|trivial|omega|(simp;omega)) (Z9 (by first|trivial|omega) ?_))));(try simp only [Vy,Uy,Y9,Hl,upd,Nm,Uw,H9,Nat.reduceDiv,Nat.reduceMod,Nat.reduceMul,Nat.reduceAdd,Nat.reduceEqDiff,Jr,Jx,if_true,if_false,reduceIte]);(first|refine Wk.of_fl ?_|skip);simp only [Wk,rF,oN,R8,kM,AV.kept,keptAll,oM,lk,Wm,and_true,true_and,and_self,Nat.reduceEqDiff,Nat.reduceLeDiff,if_true,if_false,reduceIte,reduceCtorEq,Option.isSome,false_implies];try simp [Wk,rF,R8,kM,AV.kept,keptAll,oM,lk,Wm,List.map_append,Zb,List.map_replicate,Nat.pow_zero,Nat.div_one,Zuq,Zup,Zuo,Zvu,Zvt,Zvs]):p:=h
theorem Qfd {p:Prop} (h:p:=by (try simp only [Vy,Uy,Y9,Hl,upd,Nm,Uw,H9,Nat.reduceDiv,Nat.reduceMod,Nat.reduceMul,Nat.reduceAdd,Nat.reduceEqDiff,Jr,Jx,if_true,if_false,reduceIte]);simp only [Qa6,ren,lk,upd,Nat.reduceAdd,Nat.reduceEqDiff,if_true,if_false,reduceIte];refine Z9 (by first|trivial|rfl) (Z9 ?_ (Z9 (by first|trivial|rfl|simp) (Z9 (by first|trivial|simp [nA]) (Z9 (by first|decide|omega) (Z9 (by first|decide|omega) (Z9 (by (first|refine Ah ?_|skip);simp [keptAll,pI,AV.kept,lk]) (by simp [Gj,keptAll,AV.kept,lk])))))));(try simp only [Vy,Uy,Y9,Hl,upd,Nm,Uw,H9,Nat.reduceDiv,Nat.reduceMod,Nat.reduceMul,Nat.reduceAdd,Nat.reduceEqDiff,Jr,Jx,if_true,if_false,reduceIte]);(first|refine Wk.of_fl ?_|skip);simp only [Wk,rF,oN,R8,kM,AV.kept,keptAll,oM,lk,Wm,and_true,true_and,and_self,Nat.reduceEqDiff,Nat.reduceLeDiff,if_true,if_false,reduceIte,reduceCtorEq,Option.isSome,false_implies];try simp [Wk,rF,R8,kM,AV.kept,keptAll,oM,lk,Wm,List.map_append,Zb,List.map_replicate,Nat.pow_zero,Nat.div_one,Zuq,Zup,Zuo,Zvu,Zvt,Zvs]):p:=h
theorem Qi4 {p:Prop} (h:p:=by (try simp only [Vy,Uy,Y9,Hl,upd,Nm,Uw,H9,Nat.reduceDiv,Nat.reduceMod,Nat.reduceMul,Nat.reduceAdd,Nat.reduceEqDiff,Jr,Jx,if_true,if_false,reduceIte]);simp only [Qdh,ren,Oe,bP,Nm,Uw,H9,lk,upd,List.getD_cons_zero,List.getD_cons_succ,Jr,Jx,Nat.reduceDiv,Nat.reduceMod,Nat.reduceMul,Nat.reduceAdd,Nat.reduceEqDiff,if_true,if_false,reduceIte];refine Z9 (by first|trivial|rfl) (Z9 ?_ (Z9 (by first|trivial|rfl|simp) (Z9 (by first|trivial|simp [nA]) (Z9 (by first|decide|omega) (Z9 (by first|decide|omega) (Z9 (by (first|refine Ah ?_|skip);simp [keptAll,pI,AV.kept,lk]) (by simp [Gj,keptAll,AV.kept,lk])))))));(try simp only [Vy,Uy,Y9,Hl,upd,Nm,Uw,H9,Nat.reduceDiv,Nat.reduceMod,Nat.reduceMul,Nat.reduceAdd,Nat.reduceEqDiff,Jr,Jx,if_true,if_false,reduceIte]);(first|refine Wk.of_fl ?_|skip);simp only [Wk,rF,oN,R8,kM,AV.kept,keptAll,oM,lk,Wm,and_true,true_and,and_self,Nat.reduceEqDiff,Nat.reduceLeDiff,if_true,if_false,reduceIte,reduceCtorEq,Option.isSome,false_implies];try simp [Wk,rF,R8,kM,AV.kept,keptAll,oM,lk,Wm,List.map_append,Zb,List.map_replicate,Nat.pow_zero,Nat.div_one,Zuq,Zup,Zuo,Zvu,Zvt,Zvs]):p:=h
theorem Zz5 {ops:List Oper} {acc:List (Nat×List Nat×Bool)} (h:Zwa ops acc=true:=by kernel_rfl):Zwa ops acc=true:=h
def Gs (P:Program) (l:List (Nat×Con)) (m:List (Nat×BCon)) (E:Prop):Prop:=(∀ p∈l,Jd P p)∧(∀ p∈m,X9 P p)∧E
theorem Yb {P:Program}:Gs P [] [] True:=⟨by simp,by simp,trivial⟩
theorem Xu {P:Program} {n:Nat} {c d:Con} {l:List (Nat×Con)} {m:List (Nat×BCon)} {E:Prop} (h:Jd P (n,c)) (e:c=d) (r:Gs P l m E):Gs P ((n,c)::l) m (c=d∧E):=by
 refine ⟨fun p hp=>?_,r.2.1,e,r.2.2⟩;rcases (@List.mem_cons _ _ _ _).1 hp with h1|h1
 ·rw [h1];exact h
 ·exact r.1 p h1
theorem A6 {P:Program} {n:Nat} {c d:BCon} {l:List (Nat×Con)} {m:List (Nat×BCon)} {E:Prop} (h:X9 P (n,c)) (e:c=d) (r:Gs P l m E):Gs P l ((n,c)::m) (c=d∧E):=by
 refine ⟨r.1,fun p hp=>?_,e,r.2.2⟩;rcases (@List.mem_cons _ _ _ _).1 hp with h1|h1
 ·rw [h1];exact h
 ·exact r.2.1 p h1
theorem Yc {P:Program} {τ:Nat→TI} (hT:Xy P τ) (hm:P.follows .mixedOrders=true) (cu:List Nat) (wr:Bool) {l:List (Nat×Con)} {m:List (Nat×BCon)} {E:Prop} (h:Gs P l m E):∃ C:Ctx,C.τ=τ∧C.Γ=Zi8 l∧C.dp=60∧C.Δ=Zi9 m∧C.cuts=cu∧C.wr=wr∧Mf P C∧E :=
 ⟨⟨τ,Zi8 l,60,Zi9 m,cu,wr⟩,rfl,rfl,rfl,rfl,rfl,rfl,Zg2 hT hm h.1 h.2.1,h.2.2⟩
theorem Ym {C:Ctx} {c:Code} {Q:AExit→AS→Prop} {t:List AV} {o:Z5} (n:Nat) (h:Shut (U6 C c Q ⟨fl (Zdv n t).1 (Zdv n t).2,o⟩)) (hn:decide (16*n≤t.length)=true:=by kernel_rfl):U6 C c Q ⟨t,o⟩:=Zj1 n (of_decide_eq_true hn) h
theorem Qah {F:Func} (h:F.body.isNone=false):∃ c,F.body=some c:=by
 cases hb:F.body with
 | none=>rw [hb] at h;cases h
 | some c=>exact ⟨c,rfl⟩
theorem Ve {P : Program} {C : Ctx} {f : FuncId} {fn : Func} {con : Con} (K : Mf P C) (hf : P.funcs[f]? = some fn) (rs : List ResultVar) (lE : fn.results.toList = rs) (nt : Nat) (hnt : fn.ntmps = nt)
    (h : ∀ c, fn.body = some c → ∀ J0, con.pre J0 → U6 C c (Zj6 C rs con.outs (con.fn J0)) (F4 nt J0)) (h1 : (fn.name == "runtime.NumGoroutine") = false := by kernel_rfl) (h2 : fn.body.isNone = false := by rfl) : Jd P (f, con) := by
  obtain ⟨c, hc⟩ := Qah h2
  exact ⟨J6 hf h1 h2, Zgs K hf hc rs lE nt hnt (h c hc)⟩
theorem bR {P : Program} {C : Ctx} {f : FuncId} {fn : Func} {bc : BCon} (K : Mf P C) (hf : P.funcs[f]? = some fn) (rs : List ResultVar) (lE : fn.results.toList = rs) (nt : Nat) (hnt : fn.ntmps = nt)
    (h : ∀ c, fn.body = some c → ∀ x, bc.ok x → Xg (bc.args x) (bc.objs x) ∧ Zr (bc.objs x) ∧ Xg [] (bc.post x) ∧ (bc.objs x).length ≤ (bc.post x).length ∧
      U6 C c (V5 C rs (bc.objs x).length (bc.res x) (bc.post x)) ⟨bc.args x ++ Vf (nt - (bc.args x).length), Zq (bc.objs x)⟩) (Wp : ∀ x, bc.out x = none := by intro _; rfl) (h1 : (fn.name == "runtime.NumGoroutine") = false := by kernel_rfl) (h2 : fn.body.isNone = false := by rfl) : X9 P (f, bc) := by
  obtain ⟨c, hc⟩ := Qah h2
  exact ⟨J6 hf h1 h2, Zde K hf hc rs lE nt hnt (h c hc) Wp⟩
end Go.Am
namespace Go.Am.Ty
open Go.Proofs
open Enc (enc dec)
def tt:List (Nat×TI):=[(1,⟨.func,1,8,.d .nilf,.nilf,[]⟩),(2,⟨.int .i64,1,8,.d (.int .i64 0),.int .i64 0,[]⟩),(3,⟨.int .i64,1,8,.d (.int .i64 0),.int .i64 0,[]⟩),(4,⟨.bool,1,1,.d (.bool false),.bool false,[]⟩),(5,⟨.int .u8,1,1,.d (.int .u8 0),.int .u8 0,[]⟩),(9,⟨.str,1,16,.d (.str []),.str [],[]⟩),(21,⟨.int .i32,1,4,.d (.int .i32 0),.int .i32 0,[]⟩),(23,⟨.slice 39,1,24,.nils 8,.list 8 [],[]⟩),(30,⟨.slice 3,1,24,.nils 1,.list 1 [],[]⟩),(34,⟨.slice 9,1,24,.nils 1,.list 1 [],[]⟩),(37,⟨.slice 41,1,24,.nils 3,.list 3 [],[]⟩),(39,⟨.struct [(0,1),(1,1),(2,1),(3,1),(4,1),(5,1),(6,1),(7,1)],8,120,.agg [.d (.int .i64 0),.d (.str []),.d (.str []),.d (.str []),.d (.int .i64 0),.d (.int .i64 0),.nils 3,.nils 3],.agg [.int .i64 0,.str [],.str [],.str [],.int .i64 0,.int .i64 0,.list 3 [],.list 3 []],[]⟩),(41,⟨.struct [(0,1),(1,1),(2,1)],3,32,.d (.agg [.int .i64 0,.str [],.int .i64 0]),.agg [.int .i64 0,.str [],.int .i64 0],[.int .i64,.str,.int .i64]⟩),(44,⟨.func,1,8,.d .nilf,.nilf,[]⟩),(46,⟨.map 9 4,1,8,.d .nilm,.nilm,[]⟩),(51,⟨.func,1,8,.d .nilf,.nilf,[]⟩),(52,⟨.ptr 58,1,8,.d .nilp,.nilp,[]⟩),(53,⟨.ptr 56,1,8,.d .nilp,.nilp,[]⟩),(54,⟨.slice 5,1,24,.nils 1,.list 1 [],[]⟩),(56,⟨.struct [(0,1),(1,1)],2,32,.agg [.d .nilp,.nils 1],.agg [.nilp,.list 1 []],[]⟩),(58,⟨.struct [(0,2),(2,1),(3,1)],4,64,.agg [.d .nilp,.nils 1,.nils 8,.d (.int .i64 0)],.agg [.nilp,.list 1 [],.list 8 [],.int .i64 0],[]⟩),(61,⟨.func,1,8,.d .nilf,.nilf,[]⟩),(65,⟨.func,1,8,.d .nilf,.nilf,[]⟩),(68,⟨.func,1,8,.d .nilf,.nilf,[]⟩),(71,⟨.array 15 3,15,120,.d (.agg [.int .i64 0,.int .i64 0,.int .i64 0,.int .i64 0,.int .i64 0,.int .i64 0,.int .i64 0,.int .i64 0,.int .i64 0,.int .i64 0,.int .i64 0,.int .i64 0,.int .i64 0,.int .i64 0,.int .i64 0]),.agg [.int .i64 0,.int .i64 0,.int .i64 0,.int .i64 0,.int .i64 0,.int .i64 0,.int .i64 0,.int .i64 0,.int .i64 0,.int .i64 0,.int .i64 0,.int .i64 0,.int .i64 0,.int .i64 0,.int .i64 0],[]⟩),(75,⟨.func,1,8,.d .nilf,.nilf,[]⟩),(79,⟨.ptr 5,1,8,.d .nilp,.nilp,[]⟩),(85,⟨.func,1,8,.d .nilf,.nilf,[]⟩),(94,⟨.ptr 96,1,8,.d .nilp,.nilp,[]⟩),(96,⟨.struct [(0,2)],2,32,.agg [.d .nilp,.nils 1],.agg [.nilp,.list 1 []],[]⟩),(103,⟨.int .u64,1,8,.d (.int .u64 0),.int .u64 0,[]⟩),(107,⟨.func,1,8,.d .nilf,.nilf,[]⟩),(116,⟨.array 5 9,5,80,.d (.agg [.str [],.str [],.str [],.str [],.str []]),.agg [.str [],.str [],.str [],.str [],.str []],[]⟩),(123,⟨.int .i64,1,8,.d (.int .i64 0),.int .i64 0,[]⟩),(132,⟨.int .u32,1,4,.d (.int .u32 0),.int .u32 0,[]⟩),(134,⟨.int .u64,1,8,.d (.int .u64 0),.int .u64 0,[]⟩),(146,⟨.int .u64,1,8,.d (.int .u64 0),.int .u64 0,[]⟩),(150,⟨.ptr 3,1,8,.d .nilp,.nilp,[]⟩),(157,⟨.array 20 134,20,160,.d (.agg [.int .u64 0,.int .u64 0,.int .u64 0,.int .u64 0,.int .u64 0,.int .u64 0,.int .u64 0,.int .u64 0,.int .u64 0,.int .u64 0,.int .u64 0,.int .u64 0,.int .u64 0,.int .u64 0,.int .u64 0,.int .u64 0,.int .u64 0,.int .u64 0,.int .u64 0,.int .u64 0]),.agg [.int .u64 0,.int .u64 0,.int .u64 0,.int .u64 0,.int .u64 0,.int .u64 0,.int .u64 0,.int .u64 0,.int .u64 0,.int .u64 0,.int .u64 0,.int .u64 0,.int .u64 0,.int .u64 0,.int .u64 0,.int .u64 0,.int .u64 0,.int .u64 0,.int .u64 0,.int .u64 0],[]⟩),(159,⟨.array 256 5,256,256,.d (.agg [.int .u8 0,.int .u8 0,.int .u8 0,.int .u8 0,.int .u8 0,.int .u8 0,.int .u8 0,.int .u8 0,.int .u8 0,.int .u8 0,.int .u8 0,.int .u8 0,.int .u8 0,.int .u8 0,.int .u8 0,.int .u8 0,.int .u8 0,.int .u8 0,.int .u8 0,.int .u8 0,.int .u8 0,.int .u8 0,.int .u8 0,.int .u8 0,.int .u8 0,.int .u8 0,.int .u8 0,.int .u8 0,.int .u8 0,.int .u8 0,.int .u8 0,.int .u8 0,.int .u8 0,.int .u8 0,.int .u8 0,.int .u8 0,.int .u8 0,.int .u8 0,.int .u8 0,.int .u8 0,.int .u8 0,.int .u8 0,.int .u8 0,.int .u8 0,.int .u8 0,.int .u8 0,.int .u8 0,.int .u8 0,.int .u8 0,.int .u8 0,.int .u8 0,.int .u8 0,.int .u8 0,.int .u8 0,.int .u8 0,.int .u8 0,.int .u8 0,.int .u8 0,.int .u8 0,.int .u8 0,.int .u8 0,.int .u8 0,.int .u8 0,.int .u8 0,.int .u8 0,.int .u8 0,.int .u8 0,.int .u8 0,.int .u8 0,.int .u8 0,.int .u8 0,.int .u8 0,.int .u8 0,.int .u8 0,.int .u8 0,.int .u8 0,.int .u8 0,.int .u8 0,.int .u8 0,.int .u8 0,.int .u8 0,.int .u8 0,.int .u8 0,.int .u8 0,.int .u8 0,.int .u8 0,.int .u8 0,.int .u8 0,.int .u8 0,.int .u8 0,.int .u8 0,.int .u8 0,.int .u8 0,.int .u8 0,.int .u8 0,.int .u8 0,.int .u8 0,.int .u8 0,.int .u8 0,.int .u8 0,.int .u8 0,.int .u8 0,.int .u8 0,.int .u8 0,.int .u8 0,.int .u8 0,.int .u8 0,.int .u8 0,.int .u8 0,.int .u8 0,.int .u8 0,.int .u8 0,.int .u8 0,.int .u8 0,.int .u8 0,.int .u8 0,.int .u8 0,.int .u8 0,.int .u8 0,.int .u8 0,.int .u8 0,.int .u8 0,.int .u8 0,.int .u8 0,.int .u8 0,.int .u8 0,.int .u8 0,.int .u8 0,.int .u8 0,.int .u8 0,.int .u8 0,.int .u8 0,.int .u8 0,.int .u8 0,.int .u8 0,.int .u8 0,.int .u8 0,.int .u8 0,.int .u8 0,.int .u8 0,.int .u8 0,.int .u8 0,.int .u8 0,.int .u8 0,.int .u8 0,.int .u8 0,.int .u8 0,.int .u8 0,.int .u8 0,.int .u8 0,.int .u8 0,.int .u8 0,.int .u8 0,.int .u8 0,.int .u8 0,.int .u8 0,.int .u8 0,.int .u8 0,.int .u8 0,.int .u8 0,.int .u8 0,.int .u8 0,.int .u8 0,.int .u8 0,.int .u8 0,.int .u8 0,.int .u8 0,.int .u8 0,.int .u8 0,.int .u8 0,.int .u8 0,.int .u8 0,.int .u8 0,.int .u8 0,.int .u8 0,.int .u8 0,.int .u8 0,.int .u8 0,.int .u8 0,.int .u8 0,.int .u8 0,.int .u8 0,.int .u8 0,.int .u8 0,.int .u8 0,.int .u8 0,.int .u8 0,.int .u8 0,.int .u8 0,.int .u8 0,.int .u8 0,.int .u8 0,.int .u8 0,.int .u8 0,.int .u8 0,.int .u8 0,.int .u8 0,.int .u8 0,.int .u8 0,.int .u8 0,.int .u8 0,.int .u8 0,.int .u8 0,.int .u8 0,.int .u8 0,.int .u8 0,.int .u8 0,.int .u8 0,.int .u8 0,.int .u8 0,.int .u8 0,.int .u8 0,.int .u8 0,.int .u8 0,.int .u8 0,.int .u8 0,.int .u8 0,.int .u8 0,.int .u8 0,.int .u8 0,.int .u8 0,.int .u8 0,.int .u8 0,.int .u8 0,.int .u8 0,.int .u8 0,.int .u8 0,.int .u8 0,.int .u8 0,.int .u8 0,.int .u8 0,.int .u8 0,.int .u8 0,.int .u8 0,.int .u8 0,.int .u8 0,.int .u8 0,.int .u8 0,.int .u8 0,.int .u8 0,.int .u8 0,.int .u8 0,.int .u8 0,.int .u8 0,.int .u8 0,.int .u8 0,.int .u8 0,.int .u8 0,.int .u8 0,.int .u8 0,.int .u8 0,.int .u8 0,.int .u8 0,.int .u8 0,.int .u8 0,.int .u8 0]),.agg [.int .u8 0,.int .u8 0,.int .u8 0,.int .u8 0,.int .u8 0,.int .u8 0,.int .u8 0,.int .u8 0,.int .u8 0,.int .u8 0,.int .u8 0,.int .u8 0,.int .u8 0,.int .u8 0,.int .u8 0,.int .u8 0,.int .u8 0,.int .u8 0,.int .u8 0,.int .u8 0,.int .u8 0,.int .u8 0,.int .u8 0,.int .u8 0,.int .u8 0,.int .u8 0,.int .u8 0,.int .u8 0,.int .u8 0,.int .u8 0,.int .u8 0,.int .u8 0,.int .u8 0,.int .u8 0,.int .u8 0,.int .u8 0,.int .u8 0,.int .u8 0,.int .u8 0,.int .u8 0,.int .u8 0,.int .u8 0,.int .u8 0,.int .u8 0,.int .u8 0,.int .u8 0,.int .u8 0,.int .u8 0,.int .u8 0,.int .u8 0,.int .u8 0,.int .u8 0,.int .u8 0,.int .u8 0,.int .u8 0,.int .u8 0,.int .u8 0,.int .u8 0,.int .u8 0,.int .u8 0,.int .u8 0,.int .u8 0,.int .u8 0,.int .u8 0,.int .u8 0,.int .u8 0,.int .u8 0,.int .u8 0,.int .u8 0,.int .u8 0,.int .u8 0,.int .u8 0,.int .u8 0,.int .u8 0,.int .u8 0,.int .u8 0,.int .u8 0,.int .u8 0,.int .u8 0,.int .u8 0,.int .u8 0,.int .u8 0,.int .u8 0,.int .u8 0,.int .u8 0,.int .u8 0,.int .u8 0,.int .u8 0,.int .u8 0,.int .u8 0,.int .u8 0,.int .u8 0,.int .u8 0,.int .u8 0,.int .u8 0,.int .u8 0,.int .u8 0,.int .u8 0,.int .u8 0,.int .u8 0,.int .u8 0,.int .u8 0,.int .u8 0,.int .u8 0,.int .u8 0,.int .u8 0,.int .u8 0,.int .u8 0,.int .u8 0,.int .u8 0,.int .u8 0,.int .u8 0,.int .u8 0,.int .u8 0,.int .u8 0,.int .u8 0,.int .u8 0,.int .u8 0,.int .u8 0,.int .u8 0,.int .u8 0,.int .u8 0,.int .u8 0,.int .u8 0,.int .u8 0,.int .u8 0,.int .u8 0,.int .u8 0,.int .u8 0,.int .u8 0,.int .u8 0,.int .u8 0,.int .u8 0,.int .u8 0,.int .u8 0,.int .u8 0,.int .u8 0,.int .u8 0,.int .u8 0,.int .u8 0,.int .u8 0,.int .u8 0,.int .u8 0,.int .u8 0,.int .u8 0,.int .u8 0,.int .u8 0,.int .u8 0,.int .u8 0,.int .u8 0,.int .u8 0,.int .u8 0,.int .u8 0,.int .u8 0,.int .u8 0,.int .u8 0,.int .u8 0,.int .u8 0,.int .u8 0,.int .u8 0,.int .u8 0,.int .u8 0,.int .u8 0,.int .u8 0,.int .u8 0,.int .u8 0,.int .u8 0,.int .u8 0,.int .u8 0,.int .u8 0,.int .u8 0,.int .u8 0,.int .u8 0,.int .u8 0,.int .u8 0,.int .u8 0,.int .u8 0,.int .u8 0,.int .u8 0,.int .u8 0,.int .u8 0,.int .u8 0,.int .u8 0,.int .u8 0,.int .u8 0,.int .u8 0,.int .u8 0,.int .u8 0,.int .u8 0,.int .u8 0,.int .u8 0,.int .u8 0,.int .u8 0,.int .u8 0,.int .u8 0,.int .u8 0,.int .u8 0,.int .u8 0,.int .u8 0,.int .u8 0,.int .u8 0,.int .u8 0,.int .u8 0,.int .u8 0,.int .u8 0,.int .u8 0,.int .u8 0,.int .u8 0,.int .u8 0,.int .u8 0,.int .u8 0,.int .u8 0,.int .u8 0,.int .u8 0,.int .u8 0,.int .u8 0,.int .u8 0,.int .u8 0,.int .u8 0,.int .u8 0,.int .u8 0,.int .u8 0,.int .u8 0,.int .u8 0,.int .u8 0,.int .u8 0,.int .u8 0,.int .u8 0,.int .u8 0,.int .u8 0,.int .u8 0,.int .u8 0,.int .u8 0,.int .u8 0,.int .u8 0,.int .u8 0,.int .u8 0,.int .u8 0,.int .u8 0,.int .u8 0,.int .u8 0,.int .u8 0,.int .u8 0,.int .u8 0,.int .u8 0,.int .u8 0,.int .u8 0,.int .u8 0,.int .u8 0,.int .u8 0,.int .u8 0,.int .u8 0,.int .u8 0,.int .u8 0,.int .u8 0,.int .u8 0],[]⟩),(161,⟨.struct [(0,1),(1,1)],2,2,.d (.agg [.int .u8 0,.int .u8 0]),.agg [.int .u8 0,.int .u8 0],[.int .u8,.int .u8]⟩),(163,⟨.ptr 146,1,8,.d .nilp,.nilp,[]⟩),(171,⟨.array 32 5,32,32,.d (.agg [.int .u8 0,.int .u8 0,.int .u8 0,.int .u8 0,.int .u8 0,.int .u8 0,.int .u8 0,.int .u8 0,.int .u8 0,.int .u8 0,.int .u8 0,.int .u8 0,.int .u8 0,.int .u8 0,.int .u8 0,.int .u8 0,.int .u8 0,.int .u8 0,.int .u8 0,.int .u8 0,.int .u8 0,.int .u8 0,.int .u8 0,.int .u8 0,.int .u8 0,.int .u8 0,.int .u8 0,.int .u8 0,.int .u8 0,.int .u8 0,.int .u8 0,.int .u8 0]),.agg [.int .u8 0,.int .u8 0,.int .u8 0,.int .u8 0,.int .u8 0,.int .u8 0,.int .u8 0,.int .u8 0,.int .u8 0,.int .u8 0,.int .u8 0,.int .u8 0,.int .u8 0,.int .u8 0,.int .u8 0,.int .u8 0,.int .u8 0,.int .u8 0,.int .u8 0,.int .u8 0,.int .u8 0,.int .u8 0,.int .u8 0,.int .u8 0,.int .u8 0,.int .u8 0,.int .u8 0,.int .u8 0,.int .u8 0,.int .u8 0,.int .u8 0,.int .u8 0],[]⟩),(172,⟨.array 64 5,64,64,.d (.agg [.int .u8 0,.int .u8 0,.int .u8 0,.int .u8 0,.int .u8 0,.int .u8 0,.int .u8 0,.int .u8 0,.int .u8 0,.int .u8 0,.int .u8 0,.int .u8 0,.int .u8 0,.int .u8 0,.int .u8 0,.int .u8 0,.int .u8 0,.int .u8 0,.int .u8 0,.int .u8 0,.int .u8 0,.int .u8 0,.int .u8 0,.int .u8 0,.int .u8 0,.int .u8 0,.int .u8 0,.int .u8 0,.int .u8 0,.int .u8 0,.int .u8 0,.int .u8 0,.int .u8 0,.int .u8 0,.int .u8 0,.int .u8 0,.int .u8 0,.int .u8 0,.int .u8 0,.int .u8 0,.int .u8 0,.int .u8 0,.int .u8 0,.int .u8 0,.int .u8 0,.int .u8 0,.int .u8 0,.int .u8 0,.int .u8 0,.int .u8 0,.int .u8 0,.int .u8 0,.int .u8 0,.int .u8 0,.int .u8 0,.int .u8 0,.int .u8 0,.int .u8 0,.int .u8 0,.int .u8 0,.int .u8 0,.int .u8 0,.int .u8 0,.int .u8 0]),.agg [.int .u8 0,.int .u8 0,.int .u8 0,.int .u8 0,.int .u8 0,.int .u8 0,.int .u8 0,.int .u8 0,.int .u8 0,.int .u8 0,.int .u8 0,.int .u8 0,.int .u8 0,.int .u8 0,.int .u8 0,.int .u8 0,.int .u8 0,.int .u8 0,.int .u8 0,.int .u8 0,.int .u8 0,.int .u8 0,.int .u8 0,.int .u8 0,.int .u8 0,.int .u8 0,.int .u8 0,.int .u8 0,.int .u8 0,.int .u8 0,.int .u8 0,.int .u8 0,.int .u8 0,.int .u8 0,.int .u8 0,.int .u8 0,.int .u8 0,.int .u8 0,.int .u8 0,.int .u8 0,.int .u8 0,.int .u8 0,.int .u8 0,.int .u8 0,.int .u8 0,.int .u8 0,.int .u8 0,.int .u8 0,.int .u8 0,.int .u8 0,.int .u8 0,.int .u8 0,.int .u8 0,.int .u8 0,.int .u8 0,.int .u8 0,.int .u8 0,.int .u8 0,.int .u8 0,.int .u8 0,.int .u8 0,.int .u8 0,.int .u8 0,.int .u8 0],[]⟩)]
def Bh:Nat→TI:=Zu2 tt
theorem rS:Bh 1=⟨.func,1,8,.d .nilf,.nilf,[]⟩:=rfl
theorem rR:Bh 2=⟨.int .i64,1,8,.d (.int .i64 0),.int .i64 0,[]⟩:=rfl
theorem rP:Bh 3=⟨.int .i64,1,8,.d (.int .i64 0),.int .i64 0,[]⟩:=rfl
theorem rO:Bh 4=⟨.bool,1,1,.d (.bool false),.bool false,[]⟩:=rfl
theorem oR:Bh 5=⟨.int .u8,1,1,.d (.int .u8 0),.int .u8 0,[]⟩:=rfl
theorem rN:Bh 9=⟨.str,1,16,.d (.str []),.str [],[]⟩:=rfl
theorem dX:Bh 21=⟨.int .i32,1,4,.d (.int .i32 0),.int .i32 0,[]⟩:=rfl
theorem dZ:Bh 23=⟨.slice 39,1,24,.nils 8,.list 8 [],[]⟩:=rfl
theorem dQ:Bh 30=⟨.slice 3,1,24,.nils 1,.list 1 [],[]⟩:=rfl
theorem cU:Bh 34=⟨.slice 9,1,24,.nils 1,.list 1 [],[]⟩:=rfl
theorem cT:Bh 37=⟨.slice 41,1,24,.nils 3,.list 3 [],[]⟩:=rfl
theorem cR:Bh 39=⟨.struct [(0,1),(1,1),(2,1),(3,1),(4,1),(5,1),(6,1),(7,1)],8,120,.agg [.d (.int .i64 0),.d (.str []),.d (.str []),.d (.str []),.d (.int .i64 0),.d (.int .i64 0),.nils 3,.nils 3],.agg [.int .i64 0,.str [],.str [],.str [],.int .i64 0,.int .i64 0,.list 3 [],.list 3 []],[]⟩:=rfl
theorem cP:Bh 41=⟨.struct [(0,1),(1,1),(2,1)],3,32,.d (.agg [.int .i64 0,.str [],.int .i64 0]),.agg [.int .i64 0,.str [],.int .i64 0],[.int .i64,.str,.int .i64]⟩:=rfl
theorem cO:Bh 44=⟨.func,1,8,.d .nilf,.nilf,[]⟩:=rfl
theorem cN:Bh 46=⟨.map 9 4,1,8,.d .nilm,.nilm,[]⟩:=rfl
theorem cM:Bh 51=⟨.func,1,8,.d .nilf,.nilf,[]⟩:=rfl
theorem cL:Bh 52=⟨.ptr 58,1,8,.d .nilp,.nilp,[]⟩:=rfl
theorem cI:Bh 53=⟨.ptr 56,1,8,.d .nilp,.nilp,[]⟩:=rfl
theorem cH:Bh 54=⟨.slice 5,1,24,.nils 1,.list 1 [],[]⟩:=rfl
theorem cG:Bh 56=⟨.struct [(0,1),(1,1)],2,32,.agg [.d .nilp,.nils 1],.agg [.nilp,.list 1 []],[]⟩:=rfl
theorem cF:Bh 58=⟨.struct [(0,2),(2,1),(3,1)],4,64,.agg [.d .nilp,.nils 1,.nils 8,.d (.int .i64 0)],.agg [.nilp,.list 1 [],.list 8 [],.int .i64 0],[]⟩:=rfl
theorem cE:Bh 61=⟨.func,1,8,.d .nilf,.nilf,[]⟩:=rfl
theorem cD:Bh 65=⟨.func,1,8,.d .nilf,.nilf,[]⟩:=rfl
theorem cC:Bh 68=⟨.func,1,8,.d .nilf,.nilf,[]⟩:=rfl
theorem cB:Bh 71=⟨.array 15 3,15,120,.d (.agg [.int .i64 0,.int .i64 0,.int .i64 0,.int .i64 0,.int .i64 0,.int .i64 0,.int .i64 0,.int .i64 0,.int .i64 0,.int .i64 0,.int .i64 0,.int .i64 0,.int .i64 0,.int .i64 0,.int .i64 0]),.agg [.int .i64 0,.int .i64 0,.int .i64 0,.int .i64 0,.int .i64 0,.int .i64 0,.int .i64 0,.int .i64 0,.int .i64 0,.int .i64 0,.int .i64 0,.int .i64 0,.int .i64 0,.int .i64 0,.int .i64 0],[]⟩:=rfl
theorem cA:Bh 75=⟨.func,1,8,.d .nilf,.nilf,[]⟩:=rfl
theorem cK:Bh 79=⟨.ptr 5,1,8,.d .nilp,.nilp,[]⟩:=rfl
theorem cW:Bh 85=⟨.func,1,8,.d .nilf,.nilf,[]⟩:=rfl
theorem cV:Bh 94=⟨.ptr 96,1,8,.d .nilp,.nilp,[]⟩:=rfl
theorem cY:Bh 96=⟨.struct [(0,2)],2,32,.agg [.d .nilp,.nils 1],.agg [.nilp,.list 1 []],[]⟩:=rfl
theorem Ds:Bh 103=⟨.int .u64,1,8,.d (.int .u64 0),.int .u64 0,[]⟩:=rfl
theorem Dr:Bh 107=⟨.func,1,8,.d .nilf,.nilf,[]⟩:=rfl
theorem Dq:Bh 116=⟨.array 5 9,5,80,.d (.agg [.str [],.str [],.str [],.str [],.str []]),.agg [.str [],.str [],.str [],.str [],.str []],[]⟩:=rfl
theorem Dp:Bh 123=⟨.int .i64,1,8,.d (.int .i64 0),.int .i64 0,[]⟩:=rfl
theorem Dn:Bh 132=⟨.int .u32,1,4,.d (.int .u32 0),.int .u32 0,[]⟩:=rfl
theorem Dm:Bh 134=⟨.int .u64,1,8,.d (.int .u64 0),.int .u64 0,[]⟩:=rfl
theorem Dl:Bh 146=⟨.int .u64,1,8,.d (.int .u64 0),.int .u64 0,[]⟩:=rfl
theorem Dk:Bh 150=⟨.ptr 3,1,8,.d .nilp,.nilp,[]⟩:=rfl
theorem Dj:Bh 157=⟨.array 20 134,20,160,.d (.agg [.int .u64 0,.int .u64 0,.int .u64 0,.int .u64 0,.int .u64 0,.int .u64 0,.int .u64 0,.int .u64 0,.int .u64 0,.int .u64 0,.int .u64 0,.int .u64 0,.int .u64 0,.int .u64 0,.int .u64 0,.int .u64 0,.int .u64 0,.int .u64 0,.int .u64 0,.int .u64 0]),.agg [.int .u64 0,.int .u64 0,.int .u64 0,.int .u64 0,.int .u64 0,.int .u64 0,.int .u64 0,.int .u64 0,.int .u64 0,.int .u64 0,.int .u64 0,.int .u64 0,.int .u64 0,.int .u64 0,.int .u64 0,.int .u64 0,.int .u64 0,.int .u64 0,.int .u64 0,.int .u64 0],[]⟩:=rfl
theorem Di:Bh 159=⟨.array 256 5,256,256,.d (.agg [.int .u8 0,.int .u8 0,.int .u8 0,.int .u8 0,.int .u8 0,.int .u8 0,.int .u8 0,.int .u8 0,.int .u8 0,.int .u8 0,.int .u8 0,.int .u8 0,.int .u8 0,.int .u8 0,.int .u8 0,.int .u8 0,.int .u8 0,.int .u8 0,.int .u8 0,.int .u8 0,.int .u8 0,.int .u8 0,.int .u8 0,.int .u8 0,.int .u8 0,.int .u8 0,.int .u8 0,.int .u8 0,.int .u8 0,.int .u8 0,.int .u8 0,.int .u8 0,.int .u8 0,.int .u8 0,.int .u8 0,.int .u8 0,.int .u8 0,.int .u8 0,.int .u8 0,.int .u8 0,.int .u8 0,.int .u8 0,.int .u8 0,.int .u8 0,.int .u8 0,.int .u8 0,.int .u8 0,.int .u8 0,.int .u8 0,.int .u8 0,.int .u8 0,.int .u8 0,.int .u8 0,.int .u8 0,.int .u8 0,.int .u8 0,.int .u8 0,.int .u8 0,.int .u8 0,.int .u8 0,.int .u8 0,.int .u8 0,.int .u8 0,.int .u8 0,.int .u8 0,.int .u8 0,.int .u8 0,.int .u8 0,.int .u8 0,.int .u8 0,.int .u8 0,.int .u8 0,.int .u8 0,.int .u8 0,.int .u8 0,.int .u8 0,.int .u8 0,.int .u8 0,.int .u8 0,.int .u8 0,.int .u8 0,.int .u8 0,.int .u8 0,.int .u8 0,.int .u8 0,.int .u8 0,.int .u8 0,.int .u8 0,.int .u8 0,.int .u8 0,.int .u8 0,.int .u8 0,.int .u8 0,.int .u8 0,.int .u8 0,.int .u8 0,.int .u8 0,.int .u8 0,.int .u8 0,.int .u8 0,.int .u8 0,.int .u8 0,.int .u8 0,.int .u8 0,.int .u8 0,.int .u8 0,.int .u8 0,.int .u8 0,.int .u8 0,.int .u8 0,.int .u8 0,.int .u8 0,.int .u8 0,.int .u8 0,.int .u8 0,.int .u8 0,.int .u8 0,.int .u8 0,.int .u8 0,.int .u8 0,.int .u8 0,.int .u8 0,.int .u8 0,.int .u8 0,.int .u8 0,.int .u8 0,.int .u8 0,.int .u8 0,.int .u8 0,.int .u8 0,.int .u8 0,.int .u8 0,.int .u8 0,.int .u8 0,.int .u8 0,.int .u8 0,.int .u8 0,.int .u8 0,.int .u8 0,.int .u8 0,.int .u8 0,.int .u8 0,.int .u8 0,.int .u8 0,.int .u8 0,.int .u8 0,.int .u8 0,.int .u8 0,.int .u8 0,.int .u8 0,.int .u8 0,.int .u8 0,.int .u8 0,.int .u8 0,.int .u8 0,.int .u8 0,.int .u8 0,.int .u8 0,.int .u8 0,.int .u8 0,.int .u8 0,.int .u8 0,.int .u8 0,.int .u8 0,.int .u8 0,.int .u8 0,.int .u8 0,.int .u8 0,.int .u8 0,.int .u8 0,.int .u8 0,.int .u8 0,.int .u8 0,.int .u8 0,.int .u8 0,.int .u8 0,.int .u8 0,.int .u8 0,.int .u8 0,.int .u8 0,.int .u8 0,.int .u8 0,.int .u8 0,.int .u8 0,.int .u8 0,.int .u8 0,.int .u8 0,.int .u8 0,.int .u8 0,.int .u8 0,.int .u8 0,.int .u8 0,.int .u8 0,.int .u8 0,.int .u8 0,.int .u8 0,.int .u8 0,.int .u8 0,.int .u8 0,.int .u8 0,.int .u8 0,.int .u8 0,.int .u8 0,.int .u8 0,.int .u8 0,.int .u8 0,.int .u8 0,.int .u8 0,.int .u8 0,.int .u8 0,.int .u8 0,.int .u8 0,.int .u8 0,.int .u8 0,.int .u8 0,.int .u8 0,.int .u8 0,.int .u8 0,.int .u8 0,.int .u8 0,.int .u8 0,.int .u8 0,.int .u8 0,.int .u8 0,.int .u8 0,.int .u8 0,.int .u8 0,.int .u8 0,.int .u8 0,.int .u8 0,.int .u8 0,.int .u8 0,.int .u8 0,.int .u8 0,.int .u8 0,.int .u8 0,.int .u8 0,.int .u8 0,.int .u8 0,.int .u8 0,.int .u8 0,.int .u8 0,.int .u8 0,.int .u8 0,.int .u8 0,.int .u8 0,.int .u8 0,.int .u8 0,.int .u8 0,.int .u8 0,.int .u8 0,.int .u8 0,.int .u8 0,.int .u8 0,.int .u8 0,.int .u8 0]),.agg [.int .u8 0,.int .u8 0,.int .u8 0,.int .u8 0,.int .u8 0,.int .u8 0,.int .u8 0,.int .u8 0,.int .u8 0,.int .u8 0,.int .u8 0,.int .u8 0,.int .u8 0,.int .u8 0,.int .u8 0,.int .u8 0,.int .u8 0,.int .u8 0,.int .u8 0,.int .u8 0,.int .u8 0,.int .u8 0,.int .u8 0,.int .u8 0,.int .u8 0,.int .u8 0,.int .u8 0,.int .u8 0,.int .u8 0,.int .u8 0,.int .u8 0,.int .u8 0,.int .u8 0,.int .u8 0,.int .u8 0,.int .u8 0,.int .u8 0,.int .u8 0,.int .u8 0,.int .u8 0,.int .u8 0,.int .u8 0,.int .u8 0,.int .u8 0,.int .u8 0,.int .u8 0,.int .u8 0,.int .u8 0,.int .u8 0,.int .u8 0,.int .u8 0,.int .u8 0,.int .u8 0,.int .u8 0,.int .u8 0,.int .u8 0,.int .u8 0,.int .u8 0,.int .u8 0,.int .u8 0,.int .u8 0,.int .u8 0,.int .u8 0,.int .u8 0,.int .u8 0,.int .u8 0,.int .u8 0,.int .u8 0,.int .u8 0,.int .u8 0,.int .u8 0,.int .u8 0,.int .u8 0,.int .u8 0,.int .u8 0,.int .u8 0,.int .u8 0,.int .u8 0,.int .u8 0,.int .u8 0,.int .u8 0,.int .u8 0,.int .u8 0,.int .u8 0,.int .u8 0,.int .u8 0,.int .u8 0,.int .u8 0,.int .u8 0,.int .u8 0,.int .u8 0,.int .u8 0,.int .u8 0,.int .u8 0,.int .u8 0,.int .u8 0,.int .u8 0,.int .u8 0,.int .u8 0,.int .u8 0,.int .u8 0,.int .u8 0,.int .u8 0,.int .u8 0,.int .u8 0,.int .u8 0,.int .u8 0,.int .u8 0,.int .u8 0,.int .u8 0,.int .u8 0,.int .u8 0,.int .u8 0,.int .u8 0,.int .u8 0,.int .u8 0,.int .u8 0,.int .u8 0,.int .u8 0,.int .u8 0,.int .u8 0,.int .u8 0,.int .u8 0,.int .u8 0,.int .u8 0,.int .u8 0,.int .u8 0,.int .u8 0,.int .u8 0,.int .u8 0,.int .u8 0,.int .u8 0,.int .u8 0,.int .u8 0,.int .u8 0,.int .u8 0,.int .u8 0,.int .u8 0,.int .u8 0,.int .u8 0,.int .u8 0,.int .u8 0,.int .u8 0,.int .u8 0,.int .u8 0,.int .u8 0,.int .u8 0,.int .u8 0,.int .u8 0,.int .u8 0,.int .u8 0,.int .u8 0,.int .u8 0,.int .u8 0,.int .u8 0,.int .u8 0,.int .u8 0,.int .u8 0,.int .u8 0,.int .u8 0,.int .u8 0,.int .u8 0,.int .u8 0,.int .u8 0,.int .u8 0,.int .u8 0,.int .u8 0,.int .u8 0,.int .u8 0,.int .u8 0,.int .u8 0,.int .u8 0,.int .u8 0,.int .u8 0,.int .u8 0,.int .u8 0,.int .u8 0,.int .u8 0,.int .u8 0,.int .u8 0,.int .u8 0,.int .u8 0,.int .u8 0,.int .u8 0,.int .u8 0,.int .u8 0,.int .u8 0,.int .u8 0,.int .u8 0,.int .u8 0,.int .u8 0,.int .u8 0,.int .u8 0,.int .u8 0,.int .u8 0,.int .u8 0,.int .u8 0,.int .u8 0,.int .u8 0,.int .u8 0,.int .u8 0,.int .u8 0,.int .u8 0,.int .u8 0,.int .u8 0,.int .u8 0,.int .u8 0,.int .u8 0,.int .u8 0,.int .u8 0,.int .u8 0,.int .u8 0,.int .u8 0,.int .u8 0,.int .u8 0,.int .u8 0,.int .u8 0,.int .u8 0,.int .u8 0,.int .u8 0,.int .u8 0,.int .u8 0,.int .u8 0,.int .u8 0,.int .u8 0,.int .u8 0,.int .u8 0,.int .u8 0,.int .u8 0,.int .u8 0,.int .u8 0,.int .u8 0,.int .u8 0,.int .u8 0,.int .u8 0,.int .u8 0,.int .u8 0,.int .u8 0,.int .u8 0,.int .u8 0,.int .u8 0,.int .u8 0,.int .u8 0,.int .u8 0,.int .u8 0,.int .u8 0,.int .u8 0,.int .u8 0,.int .u8 0,.int .u8 0,.int .u8 0,.int .u8 0,.int .u8 0,.int .u8 0,.int .u8 0,.int .u8 0],[]⟩:=rfl
theorem Dh:Bh 161=⟨.struct [(0,1),(1,1)],2,2,.d (.agg [.int .u8 0,.int .u8 0]),.agg [.int .u8 0,.int .u8 0],[.int .u8,.int .u8]⟩:=rfl
theorem Dg:Bh 163=⟨.ptr 146,1,8,.d .nilp,.nilp,[]⟩:=rfl
theorem Df:Bh 171=⟨.array 32 5,32,32,.d (.agg [.int .u8 0,.int .u8 0,.int .u8 0,.int .u8 0,.int .u8 0,.int .u8 0,.int .u8 0,.int .u8 0,.int .u8 0,.int .u8 0,.int .u8 0,.int .u8 0,.int .u8 0,.int .u8 0,.int .u8 0,.int .u8 0,.int .u8 0,.int .u8 0,.int .u8 0,.int .u8 0,.int .u8 0,.int .u8 0,.int .u8 0,.int .u8 0,.int .u8 0,.int .u8 0,.int .u8 0,.int .u8 0,.int .u8 0,.int .u8 0,.int .u8 0,.int .u8 0]),.agg [.int .u8 0,.int .u8 0,.int .u8 0,.int .u8 0,.int .u8 0,.int .u8 0,.int .u8 0,.int .u8 0,.int .u8 0,.int .u8 0,.int .u8 0,.int .u8 0,.int .u8 0,.int .u8 0,.int .u8 0,.int .u8 0,.int .u8 0,.int .u8 0,.int .u8 0,.int .u8 0,.int .u8 0,.int .u8 0,.int .u8 0,.int .u8 0,.int .u8 0,.int .u8 0,.int .u8 0,.int .u8 0,.int .u8 0,.int .u8 0,.int .u8 0,.int .u8 0],[]⟩:=rfl
theorem De:Bh 172=⟨.array 64 5,64,64,.d (.agg [.int .u8 0,.int .u8 0,.int .u8 0,.int .u8 0,.int .u8 0,.int .u8 0,.int .u8 0,.int .u8 0,.int .u8 0,.int .u8 0,.int .u8 0,.int .u8 0,.int .u8 0,.int .u8 0,.int .u8 0,.int .u8 0,.int .u8 0,.int .u8 0,.int .u8 0,.int .u8 0,.int .u8 0,.int .u8 0,.int .u8 0,.int .u8 0,.int .u8 0,.int .u8 0,.int .u8 0,.int .u8 0,.int .u8 0,.int .u8 0,.int .u8 0,.int .u8 0,.int .u8 0,.int .u8 0,.int .u8 0,.int .u8 0,.int .u8 0,.int .u8 0,.int .u8 0,.int .u8 0,.int .u8 0,.int .u8 0,.int .u8 0,.int .u8 0,.int .u8 0,.int .u8 0,.int .u8 0,.int .u8 0,.int .u8 0,.int .u8 0,.int .u8 0,.int .u8 0,.int .u8 0,.int .u8 0,.int .u8 0,.int .u8 0,.int .u8 0,.int .u8 0,.int .u8 0,.int .u8 0,.int .u8 0,.int .u8 0,.int .u8 0,.int .u8 0]),.agg [.int .u8 0,.int .u8 0,.int .u8 0,.int .u8 0,.int .u8 0,.int .u8 0,.int .u8 0,.int .u8 0,.int .u8 0,.int .u8 0,.int .u8 0,.int .u8 0,.int .u8 0,.int .u8 0,.int .u8 0,.int .u8 0,.int .u8 0,.int .u8 0,.int .u8 0,.int .u8 0,.int .u8 0,.int .u8 0,.int .u8 0,.int .u8 0,.int .u8 0,.int .u8 0,.int .u8 0,.int .u8 0,.int .u8 0,.int .u8 0,.int .u8 0,.int .u8 0,.int .u8 0,.int .u8 0,.int .u8 0,.int .u8 0,.int .u8 0,.int .u8 0,.int .u8 0,.int .u8 0,.int .u8 0,.int .u8 0,.int .u8 0,.int .u8 0,.int .u8 0,.int .u8 0,.int .u8 0,.int .u8 0,.int .u8 0,.int .u8 0,.int .u8 0,.int .u8 0,.int .u8 0,.int .u8 0,.int .u8 0,.int .u8 0,.int .u8 0,.int .u8 0,.int .u8 0,.int .u8 0,.int .u8 0,.int .u8 0,.int .u8 0,.int .u8 0],[]⟩:=rfl
theorem Qp:Xy Tryz.prog Bh:=Ze2 (by kernel_rfl)
theorem Z0:Tryz.prog.follows .mixedOrders=true:=by kernel_rfl
instance encU8:Enc UInt8:=⟨fun b=>.int .u8 b.toNat,fun x=>UInt8.ofNat x.i.toNat,fun b=>by simp [D.i]⟩
instance szU8:Sz UInt8:=⟨1⟩
theorem Zwj {b:UInt8}:(enc b:D)=.int .u8 b.toNat:=rfl
theorem Zwf {b:UInt8}:C5 UInt8 (.int .u8 b.toNat)=True:=eq_true (Ue b)
theorem Zwn {b:UInt8}:(dec (.int .u8 b.toNat):UInt8)=b:=Enc.dec_enc b
def Vq (c a b:UInt8):Bool:=decide (a≤c)&&decide (c≤b)
theorem Mq {a b:UInt8}:Xn (a.toNat:Int) (b.toNat:Int)=decide (a≤b):=by
 unfold Xn
 congr 1
 rw [UInt8.le_iff_toNat_le];exact propext (by omega)
def Kj:Con:=Ba (fun (_ _ _:UInt8)=>True) (fun c a b=>Vq c a b)
theorem Zku:type_of% @Kj.eq_def:=@Kj.eq_def
theorem Zix {p:Prop} (h:p:=by (sym=>simp [Kt,Kc,Kd,Kb,Ku,Kw,Ko,Y0,Xr,eV,kB,Zd6,Zhv,Zkc,Zkb,Zka,Zj9,rZ,rQ,qU,qT,Qz,Q2,Qx,Ql,Q3,Ji,Jl,Js,Jk,Q7,Zz,Qi,Qo,Qt,Qq,Qe,Z6,Qb,Qk,Q0,Q1,Jg,Jo,Q9,Ju,J1,P7,Sh,Lp,Sg,Bj,Tt,Ts,Tq,Tp,To,Tn,Zp,Nd,Nc,Nb,Mq,Zun,Zum,Zul,Zuk,Zuj,Zui,Zuh,Zug,Zuf,Zue,Zud,Zuc,Zub,Zua,Zt9,Zt8,Zt7,Zt6,Zt5,Zt4,Zt3,Zt2,Zt1,Zt0,Ztz,Zty,Ztx,Ztw,Ztv,Ztu,Ztt,Zts,Ztr,Ztq,Ztp,Zto,Ztn,Ztm,Ztl,Ztk,Ztj,Zti,Zth,Ztg,Ztf,Zte,Ztd,Ztc,Ztb,Zta,Zs9,Zs8,Zs7,Zs6,Zs5,Zs4,Zs3,Zs2,Zs1,Zs0,Zsz,Zsy,Zsx,Zsw,Zsv,Zsu,Zst,Zss,Zsr,Zsq,Zsp,Zso,Zsn,Zsm,Zsl,Zsk,Zsj,Zsi,Zsh,Zsg,Zsf,Zse,Zsd,Zsc,Zsb,Zsa,Zr9,Zr8,Zr7,Zr6,Zr5,Zr4,Zr3,Zr2,Zr1,Zr0,Zrz,Zry,Zrx,Zrw,Zrv,Zru,Zrt,Zrs,Zrr,Zrq,Zrp,Zro,Zrn,Zrm,Zrl,Zrk,Zrj,Zri,Zrh,Zrg,Zrf,Zre,Zrd,Zrc,Zrb,Zra,Zq9,Zq8,Zq7,Zq6,Zq5,Zq4,Zq3,Zq2,Zq1,Zq0,Zqz,Zqy,Zqx,Zqw,Zqv,Zqu,Zqt,Zqs,Zqr,Zqq,Zqp,Zqo,Zqn,Zqm,Zql,Zqk,Zqj,Zqi,Zqh,Zqg,Zqf,Zqe,Zqd,Zqc,Zqb,Zqa,Zp9,Zp8,Zp7,Zp6,Zp5,Zp4,Zp3,Zp2,Zp1,Zp0,Zpz,Zpy,Zpx,Zpw,Zpv,Zpu,Zpt,Zps,Zpr,Zpq,Zpp,Zpo,Zpn,Zpm,Zpl,Zpk,Zpj,Zpi,Zph,Zpg,Zpf,Zpe,Zpd,Zpc,Zpb,Zpa,Zo9,Zo8,Zo7,Zo6,Zo5,Zo4,Zo3,Zo2,Zo1,Zo0,Zoz,Zoy,Zox,Zow,Zov,Zou,Zot,Zos,Zor,Zoq,Zop,Zoo,Zon,Zom,Zol,Zok,Zoj,Zoi,Zoh,Zog,Zof,Zoe,Zod,Zoc,Zob,Zoa,Zn9,Zn8,Zn7,Zn6,Zn5,Zn4,Zn3,Zn2,Zn1,Zn0,Znz,Zny,Znx,Znw,Znv,Znu,Znt,Zns,Znr,Znq,Znp,Zno,Znn,Znm,Znl,Znk,Znj,Zni,Znh,Zng,Znf,Zne,Znd,Znc,Znb,Zna,Zm9,Zm8,Zm7,Zm6,Zm5,Zm4,Zm3,Zm2,Zm1,Zm0,Zmz,Zmy,Zmx,Zmw,Zmv,Zmu,Zmt,Zms,Zmr,Zmq,Zmp,Zmo,Zmn,Zmm,Zml,Zmk,Zmj,Zmi,Zmh,Zmg,Zmf,Zme,Zmd,Zmc,Zmb,Zma,Zl9,Zl8,Zl7,Zl6,Zl5,Zl4,Zl3,Zl2,Zl1,Zl0,Zlz,Zly,Zlx,Zlw,Zlv,Zlu,Zlt,Zls,Zlr,Zlq,Zlp,Zlo,Zln,Zlm,Zll,Zlk,Zlj,Zli,Zlh,Zlg,Zlf,Zle,Zld,Zlc,Zlb,Zla,Zk9,Zk8,Zk7,Zk6,Zk5,Zk4,Zk3,Zk2,Zk1,Zk0,Zkz,Zky,Zkx,Zkw,Zkv,rS,rR,rP,rO,oR,rN,dX,dZ,dQ,cU,cT,cR,cP,cO,cN,cM,cL,cI,cH,cG,cF,cE,cD,cC,cB,cA,cK,cW,cV,cY,Ds,Dr,Dq,Dp,Dn,Dm,Dl,Dk,Dj,Di,Dh,Dg,Df,De])):p:=h
theorem Pm {p:Prop} (h:p:=by
 (sym=>simp [Kt,Kc,Kd,Kb,Ku,Kw,Ko,Y0,Xr,eV,kB,Zd6,Zhv,Zkc,Zkb,Zka,Zj9,rZ,rQ,qU,qT,Qz,Q2,Qx,Ql,Q3,Ji,Jl,Js,Jk,Q7,Zz,Qi,Qo,Qt,Qq,Qe,Z6,Qb,Qk,Q0,Q1,Jg,Jo,Q9,Ju,J1,P7,Sh,Lp,Sg,Bj,Tt,Ts,Tq,Tp,To,Tn,Zp,Nd,Nc,Nb,Mq,Zun,Zum,Zul,Zuk,Zuj,Zui,Zuh,Zug,Zuf,Zue,Zud,Zuc,Zub,Zua,Zt9,Zt8,Zt7,Zt6,Zt5,Zt4,Zt3,Zt2,Zt1,Zt0,Ztz,Zty,Ztx,Ztw,Ztv,Ztu,Ztt,Zts,Ztr,Ztq,Ztp,Zto,Ztn,Ztm,Ztl,Ztk,Ztj,Zti,Zth,Ztg,Ztf,Zte,Ztd,Ztc,Ztb,Zta,Zs9,Zs8,Zs7,Zs6,Zs5,Zs4,Zs3,Zs2,Zs1,Zs0,Zsz,Zsy,Zsx,Zsw,Zsv,Zsu,Zst,Zss,Zsr,Zsq,Zsp,Zso,Zsn,Zsm,Zsl,Zsk,Zsj,Zsi,Zsh,Zsg,Zsf,Zse,Zsd,Zsc,Zsb,Zsa,Zr9,Zr8,Zr7,Zr6,Zr5,Zr4,Zr3,Zr2,Zr1,Zr0,Zrz,Zry,Zrx,Zrw,Zrv,Zru,Zrt,Zrs,Zrr,Zrq,Zrp,Zro,Zrn,Zrm,Zrl,Zrk,Zrj,Zri,Zrh,Zrg,Zrf,Zre,Zrd,Zrc,Zrb,Zra,Zq9,Zq8,Zq7,Zq6,Zq5,Zq4,Zq3,Zq2,Zq1,Zq0,Zqz,Zqy,Zqx,Zqw,Zqv,Zqu,Zqt,Zqs,Zqr,Zqq,Zqp,Zqo,Zqn,Zqm,Zql,Zqk,Zqj,Zqi,Zqh,Zqg,Zqf,Zqe,Zqd,Zqc,Zqb,Zqa,Zp9,Zp8,Zp7,Zp6,Zp5,Zp4,Zp3,Zp2,Zp1,Zp0,Zpz,Zpy,Zpx,Zpw,Zpv,Zpu,Zpt,Zps,Zpr,Zpq,Zpp,Zpo,Zpn,Zpm,Zpl,Zpk,Zpj,Zpi,Zph,Zpg,Zpf,Zpe,Zpd,Zpc,Zpb,Zpa,Zo9,Zo8,Zo7,Zo6,Zo5,Zo4,Zo3,Zo2,Zo1,Zo0,Zoz,Zoy,Zox,Zow,Zov,Zou,Zot,Zos,Zor,Zoq,Zop,Zoo,Zon,Zom,Zol,Zok,Zoj,Zoi,Zoh,Zog,Zof,Zoe,Zod,Zoc,Zob,Zoa,Zn9,Zn8,Zn7,Zn6,Zn5,Zn4,Zn3,Zn2,Zn1,Zn0,Znz,Zny,Znx,Znw,Znv,Znu,Znt,Zns,Znr,Znq,Znp,Zno,Znn,Znm,Znl,Znk,Znj,Zni,Znh,Zng,Znf,Zne,Znd,Znc,Znb,Zna,Zm9,Zm8,Zm7,Zm6,Zm5,Zm4,Zm3,Zm2,Zm1,Zm0,Zmz,Zmy,Zmx,Zmw,Zmv,Zmu,Zmt,Zms,Zmr,Zmq,Zmp,Zmo,Zmn,Zmm,Zml,Zmk,Zmj,Zmi,Zmh,Zmg,Zmf,Zme,Zmd,Zmc,Zmb,Zma,Zl9,Zl8,Zl7,Zl6,Zl5,Zl4,Zl3,Zl2,Zl1,Zl0,Zlz,Zly,Zlx,Zlw,Zlv,Zlu,Zlt,Zls,Zlr,Zlq,Zlp,Zlo,Zln,Zlm,Zll,Zlk,Zlj,Zli,Zlh,Zlg,Zlf,Zle,Zld,Zlc,Zlb,Zla,Zk9,Zk8,Zk7,Zk6,Zk5,Zk4,Zk3,Zk2,Zk1,Zk0,Zkz,Zky,Zkx,Zkw,Zkv,rS,rR,rP,rO,oR,rN,dX,dZ,dQ,cU,cT,cR,cP,cO,cN,cM,cL,cI,cH,cG,cF,cE,cD,cC,cB,cA,cK,cW,cV,cY,Ds,Dr,Dq,Dp,Dn,Dm,Dl,Dk,Dj,Di,Dh,Dg,Df,De];tactic =>
   try simp only [mG] at *
   try simp only [Zyh] at *
   try simp (maxSteps:=4000000) only [Qz,Q2,Qx,Ql,Q3,Ji,Jl,Js,Jk,Q7,Zz,Qi,Qo,Qt,Qq,Qe,Z6,Qb,Qk,Q0,Q1,Jg,Jo,Q9,Ju,J1,P7,Sh,Lp,Sg,Bj,Tt,Ts,Tq,Tp,To,Tn,Zp,Nd,Nc,Nb,Mq,Zb3]
   first|done|exact Kq.k)):p:=h
theorem Cs {p:Prop} (h:p:=by
 (sym=>simp [Kt,Kc,Kd,Kb,Ku,Kw,Ko,Y0,Xr,eV,kB,Zd6,Zhv,Zkc,Zkb,Zka,Zj9,rZ,rQ,qU,qT,Qz,Q2,Qx,Ql,Q3,Ji,Jl,Js,Jk,Q7,Zz,Qi,Qo,Qt,Qq,Qe,Z6,Qb,Qk,Q0,Q1,Jg,Jo,Q9,Ju,J1,P7,Sh,Lp,Sg,Bj,Tt,Ts,Tq,Tp,To,Tn,Zp,Nd,Nc,Nb,Mq,Zun,Zum,Zul,Zuk,Zuj,Zui,Zuh,Zug,Zuf,Zue,Zud,Zuc,Zub,Zua,Zt9,Zt8,Zt7,Zt6,Zt5,Zt4,Zt3,Zt2,Zt1,Zt0,Ztz,Zty,Ztx,Ztw,Ztv,Ztu,Ztt,Zts,Ztr,Ztq,Ztp,Zto,Ztn,Ztm,Ztl,Ztk,Ztj,Zti,Zth,Ztg,Ztf,Zte,Ztd,Ztc,Ztb,Zta,Zs9,Zs8,Zs7,Zs6,Zs5,Zs4,Zs3,Zs2,Zs1,Zs0,Zsz,Zsy,Zsx,Zsw,Zsv,Zsu,Zst,Zss,Zsr,Zsq,Zsp,Zso,Zsn,Zsm,Zsl,Zsk,Zsj,Zsi,Zsh,Zsg,Zsf,Zse,Zsd,Zsc,Zsb,Zsa,Zr9,Zr8,Zr7,Zr6,Zr5,Zr4,Zr3,Zr2,Zr1,Zr0,Zrz,Zry,Zrx,Zrw,Zrv,Zru,Zrt,Zrs,Zrr,Zrq,Zrp,Zro,Zrn,Zrm,Zrl,Zrk,Zrj,Zri,Zrh,Zrg,Zrf,Zre,Zrd,Zrc,Zrb,Zra,Zq9,Zq8,Zq7,Zq6,Zq5,Zq4,Zq3,Zq2,Zq1,Zq0,Zqz,Zqy,Zqx,Zqw,Zqv,Zqu,Zqt,Zqs,Zqr,Zqq,Zqp,Zqo,Zqn,Zqm,Zql,Zqk,Zqj,Zqi,Zqh,Zqg,Zqf,Zqe,Zqd,Zqc,Zqb,Zqa,Zp9,Zp8,Zp7,Zp6,Zp5,Zp4,Zp3,Zp2,Zp1,Zp0,Zpz,Zpy,Zpx,Zpw,Zpv,Zpu,Zpt,Zps,Zpr,Zpq,Zpp,Zpo,Zpn,Zpm,Zpl,Zpk,Zpj,Zpi,Zph,Zpg,Zpf,Zpe,Zpd,Zpc,Zpb,Zpa,Zo9,Zo8,Zo7,Zo6,Zo5,Zo4,Zo3,Zo2,Zo1,Zo0,Zoz,Zoy,Zox,Zow,Zov,Zou,Zot,Zos,Zor,Zoq,Zop,Zoo,Zon,Zom,Zol,Zok,Zoj,Zoi,Zoh,Zog,Zof,Zoe,Zod,Zoc,Zob,Zoa,Zn9,Zn8,Zn7,Zn6,Zn5,Zn4,Zn3,Zn2,Zn1,Zn0,Znz,Zny,Znx,Znw,Znv,Znu,Znt,Zns,Znr,Znq,Znp,Zno,Znn,Znm,Znl,Znk,Znj,Zni,Znh,Zng,Znf,Zne,Znd,Znc,Znb,Zna,Zm9,Zm8,Zm7,Zm6,Zm5,Zm4,Zm3,Zm2,Zm1,Zm0,Zmz,Zmy,Zmx,Zmw,Zmv,Zmu,Zmt,Zms,Zmr,Zmq,Zmp,Zmo,Zmn,Zmm,Zml,Zmk,Zmj,Zmi,Zmh,Zmg,Zmf,Zme,Zmd,Zmc,Zmb,Zma,Zl9,Zl8,Zl7,Zl6,Zl5,Zl4,Zl3,Zl2,Zl1,Zl0,Zlz,Zly,Zlx,Zlw,Zlv,Zlu,Zlt,Zls,Zlr,Zlq,Zlp,Zlo,Zln,Zlm,Zll,Zlk,Zlj,Zli,Zlh,Zlg,Zlf,Zle,Zld,Zlc,Zlb,Zla,Zk9,Zk8,Zk7,Zk6,Zk5,Zk4,Zk3,Zk2,Zk1,Zk0,Zkz,Zky,Zkx,Zkw,Zkv,rS,rR,rP,rO,oR,rN,dX,dZ,dQ,cU,cT,cR,cP,cO,cN,cM,cL,cI,cH,cG,cF,cE,cD,cC,cB,cA,cK,cW,cV,cY,Ds,Dr,Dq,Dp,Dn,Dm,Dl,Dk,Dj,Di,Dh,Dg,Df,De];tactic =>
   try simp only [mG] at *
   try simp only [Zyh] at *
   try simp (maxSteps:=4000000) only [Qz,Q2,Qx,Ql,Q3,Ji,Jl,Js,Jk,Q7,Zz,Qi,Qo,Qt,Qq,Qe,Z6,Qb,Qk,Q0,Q1,Jg,Jo,Q9,Ju,J1,P7,Sh,Lp,Sg,Bj,Tt,Ts,Tq,Tp,To,Tn,Zp,Nd,Nc,Nb,Mq,Zb3]
   repeat' first|with_reducible assumption|with_reducible apply Z9|intro _|omega|(rw [Xx];omega)
   all_goals first|with_reducible exact Zz5|omega|exact Kq.k)):p:=h
theorem Zcd {p:Prop} (h:p:=by
 first|(sym=>simp [Kt,Kc,Kd,Kb,Ku,Kw,Ko,Y0,Xr,eV,kB,Zd6,Zhv,Zkc,Zkb,Zka,Zj9,rZ,rQ,qU,qT,Qz,Q2,Qx,Ql,Q3,Ji,Jl,Js,Jk,Q7,Zz,Qi,Qo,Qt,Qq,Qe,Z6,Qb,Qk,Q0,Q1,Jg,Jo,Q9,Ju,J1,P7,Sh,Lp,Sg,Bj,Tt,Ts,Tq,Tp,To,Tn,Zp,Nd,Nc,Nb,Mq,Zun,Zum,Zul,Zuk,Zuj,Zui,Zuh,Zug,Zuf,Zue,Zud,Zuc,Zub,Zua,Zt9,Zt8,Zt7,Zt6,Zt5,Zt4,Zt3,Zt2,Zt1,Zt0,Ztz,Zty,Ztx,Ztw,Ztv,Ztu,Ztt,Zts,Ztr,Ztq,Ztp,Zto,Ztn,Ztm,Ztl,Ztk,Ztj,Zti,Zth,Ztg,Ztf,Zte,Ztd,Ztc,Ztb,Zta,Zs9,Zs8,Zs7,Zs6,Zs5,Zs4,Zs3,Zs2,Zs1,Zs0,Zsz,Zsy,Zsx,Zsw,Zsv,Zsu,Zst,Zss,Zsr,Zsq,Zsp,Zso,Zsn,Zsm,Zsl,Zsk,Zsj,Zsi,Zsh,Zsg,Zsf,Zse,Zsd,Zsc,Zsb,Zsa,Zr9,Zr8,Zr7,Zr6,Zr5,Zr4,Zr3,Zr2,Zr1,Zr0,Zrz,Zry,Zrx,Zrw,Zrv,Zru,Zrt,Zrs,Zrr,Zrq,Zrp,Zro,Zrn,Zrm,Zrl,Zrk,Zrj,Zri,Zrh,Zrg,Zrf,Zre,Zrd,Zrc,Zrb,Zra,Zq9,Zq8,Zq7,Zq6,Zq5,Zq4,Zq3,Zq2,Zq1,Zq0,Zqz,Zqy,Zqx,Zqw,Zqv,Zqu,Zqt,Zqs,Zqr,Zqq,Zqp,Zqo,Zqn,Zqm,Zql,Zqk,Zqj,Zqi,Zqh,Zqg,Zqf,Zqe,Zqd,Zqc,Zqb,Zqa,Zp9,Zp8,Zp7,Zp6,Zp5,Zp4,Zp3,Zp2,Zp1,Zp0,Zpz,Zpy,Zpx,Zpw,Zpv,Zpu,Zpt,Zps,Zpr,Zpq,Zpp,Zpo,Zpn,Zpm,Zpl,Zpk,Zpj,Zpi,Zph,Zpg,Zpf,Zpe,Zpd,Zpc,Zpb,Zpa,Zo9,Zo8,Zo7,Zo6,Zo5,Zo4,Zo3,Zo2,Zo1,Zo0,Zoz,Zoy,Zox,Zow,Zov,Zou,Zot,Zos,Zor,Zoq,Zop,Zoo,Zon,Zom,Zol,Zok,Zoj,Zoi,Zoh,Zog,Zof,Zoe,Zod,Zoc,Zob,Zoa,Zn9,Zn8,Zn7,Zn6,Zn5,Zn4,Zn3,Zn2,Zn1,Zn0,Znz,Zny,Znx,Znw,Znv,Znu,Znt,Zns,Znr,Znq,Znp,Zno,Znn,Znm,Znl,Znk,Znj,Zni,Znh,Zng,Znf,Zne,Znd,Znc,Znb,Zna,Zm9,Zm8,Zm7,Zm6,Zm5,Zm4,Zm3,Zm2,Zm1,Zm0,Zmz,Zmy,Zmx,Zmw,Zmv,Zmu,Zmt,Zms,Zmr,Zmq,Zmp,Zmo,Zmn,Zmm,Zml,Zmk,Zmj,Zmi,Zmh,Zmg,Zmf,Zme,Zmd,Zmc,Zmb,Zma,Zl9,Zl8,Zl7,Zl6,Zl5,Zl4,Zl3,Zl2,Zl1,Zl0,Zlz,Zly,Zlx,Zlw,Zlv,Zlu,Zlt,Zls,Zlr,Zlq,Zlp,Zlo,Zln,Zlm,Zll,Zlk,Zlj,Zli,Zlh,Zlg,Zlf,Zle,Zld,Zlc,Zlb,Zla,Zk9,Zk8,Zk7,Zk6,Zk5,Zk4,Zk3,Zk2,Zk1,Zk0,Zkz,Zky,Zkx,Zkw,Zkv,rS,rR,rP,rO,oR,rN,dX,dZ,dQ,cU,cT,cR,cP,cO,cN,cM,cL,cI,cH,cG,cF,cE,cD,cC,cB,cA,cK,cW,cV,cY,Ds,Dr,Dq,Dp,Dn,Dm,Dl,Dk,Dj,Di,Dh,Dg,Df,De];tactic =>
   try simp only [mG] at *
   try simp only [Zyh] at *
   try simp (maxSteps:=4000000) only [Qz,Q2,Qx,Ql,Q3,Ji,Jl,Js,Jk,Q7,Zz,Qi,Qo,Qt,Qq,Qe,Z6,Qb,Qk,Q0,Q1,Jg,Jo,Q9,Ju,J1,P7,Sh,Lp,Sg,Bj,Tt,Ts,Tq,Tp,To,Tn,Zp,Nd,Nc,Nb,Mq,Zb3]
   repeat' first|with_reducible assumption|with_reducible apply Z9|intro _|omega|(rw [Xx];omega)
   all_goals first|with_reducible exact Zz5|omega|rfl|trivial|exact Or.inr trivial|assumption|contradiction|exact Xa)|exact Zix):p:=h
class Kab:Prop
theorem Kab.k (_:Kab) (h:p:=by
 repeat' first|exact Cg|with_reducible apply Z9|intro _
 ·rename_i h;unfold Vq;simp [h]
 ·rename_i h;unfold Vq;rw [decide_eq_false h];rfl):p:=h
theorem good_within:Jd Tryz.prog (83,Kj):=by
 obtain ⟨Kx,Kt,Kc,Kd,Kb,Ku,Kw,K,_⟩:=Yc Qp Z0 [] false Yb;have Ko:=Zku;refine Ve K Tryz.func83 [.tmp 6] rfl 15 rfl (fun c hc J0 Zo=>?_);unfold Kj at Zo;obtain ⟨x,y,z,rfl,-⟩:=So Zo;cases hc;have Mi:=Kt;have Qz:=@Zwj;have Q2:=@Zwf;have Qx:=@Zwn;have Kq:Kab:=⟨⟩;exact Pm
def behind (c:UInt8):Bool:=Vq c 97 122||Vq c 65 90||Vq c 48 57||c==95
theorem C0 {a b:UInt8}:((a.toNat:Int)==(b.toNat:Int))=(a==b):=by
 rw [Bool.eq_iff_iff,Zi,Zi];constructor
 ·intro h;exact UInt8.toNat_inj.1 (by omega)
 ·intro h;rw [h]
theorem Qf6:D.int .u8 97=enc (97:UInt8):=rfl
theorem Qa4:D.int .u8 122=enc (122:UInt8):=rfl
theorem Qf8:D.int .u8 65=enc (65:UInt8):=rfl
theorem Qf7:D.int .u8 90=enc (90:UInt8):=rfl
theorem Qg6:D.int .u8 48=enc (48:UInt8):=rfl
theorem Qg5:D.int .u8 57=enc (57:UInt8):=rfl
theorem Mi {b:UInt8}:(.int .u8 b.toNat:D)=enc b:=rfl
theorem Kf {k:IntKind} {x:UInt8}:D.isInt k (enc x)=(.u8=k):=rfl
theorem iU {x:UInt8}:D.i (enc x)=x.toNat:=rfl
theorem Hu {s:Nat} {x:UInt8}:D.fits s (enc x)=(s=1):=rfl
theorem H0 {f:Nat} {x:UInt8}:D.cell (enc x) f=enc x:=rfl
theorem Qc7 {x:UInt8}:((x.toNat:Int)==95)=(x==95):=C0 (b:=95)
def T0:Con:=Xh (fun (_:UInt8)=>True) (fun c=>behind c)
class Kac:Prop
theorem Kac.k (_:Kac) (h:p:=by
 unfold behind;refine ⟨fun h1=>⟨fun h2=>⟨fun h3=>?_,fun h3=>?_⟩,fun h2=>?_⟩,fun h1=>?_⟩;all_goals simp only [*,Bool.false_or,Bool.true_or,Bool.or_true]):p:=h
theorem good_behind:Jd Tryz.prog (102,T0):=by
 obtain ⟨Kx,Kt,Kc,Kd,Kb,Ku,Kw,K,Y0,_⟩:=Yc Qp Z0 [] false (Xu good_within Zku Yb);have Ko:=T0.eq_def;refine Ve K Tryz.func102 [.tmp 2] rfl 17 rfl (fun c hc J0 Zo=>?_);unfold T0 at Zo;obtain ⟨x,rfl,-⟩:=Qs Zo;cases hc;have Qz:=@Qf6;have Q2:=@Qa4;have Qx:=@Qf8;have Ql:=@Qf7;have Q3:=@Qg6;have Ji:=@Qg5;have Jl:=@Mi;have Js:=@Kf;have Jk:=@iU;have Q7:=@Hu;have Zz:=@H0;have Qi:=@Qc7;have Kq:Kac:=⟨⟩;exact Pm
def Hf (s:List UInt8):Bool:=s.all behind
theorem jD {s:List UInt8} {j:Nat}:(s.drop 1).getD j 0=s.getD (j+1) 0:=by
 simp [Zk,Nat.add_comm]
def Eh:Con:=Xh (fun (s:List UInt8)=>s.length≤9223372036854775807) (fun s=>Hf (s.drop 1))
class Kae:Prop
theorem Kae.k (_:Kae) (h:p:=by
 repeat' first|exact Cg|with_reducible apply Z9|intro _
 ·rename_i hb;unfold Hf;rw [aV (p:=behind) 0 (k-1) (by rw [List.length_drop];omega) (by rw [jD,show k-1+1=k by omega];exact hb)]
 ·rename_i hb;refine ⟨k+1,by exact Xa,by omega,by omega,fun j h1 hj=>?_,by omega⟩
  by_cases aC:j=k
  ·subst aC;exact hb
  ·exact Y3 j h1 (by omega)):p:=h
class Kaf:Prop
theorem Kaf.k (_:Kaf) (h:p:=by
 unfold Hf;rw [Sq (p:=behind) 0 fun j hj=>?_];rw [jD];rw [List.length_drop] at hj;exact Y3 (j+1) (by omega) (by omega)):p:=h
class Kad:Prop
theorem Kad.k (_:Kad) (h:p:=by
 refine Z4 [2,4,5,6,7,8,9,10,11,12,13,14] (fun k:Nat=>[(3,.d (.int .i64 k))]) (fun k:Nat=>[]) (fun k:Nat=>1≤k∧(k=1∨k≤s.length)∧∀ j,1≤j→j<k→behind (s.getD j 0)=true) (fun k:Nat=>s.length-k) 1 ?_ ?_ ?_
 ·simp;omega
 ·exact Xa
 rintro k ⟨aI,hk,Y3⟩;rcases Qh k s.length with ⟨Qg,Qz⟩|⟨Qg,Qz⟩
 ·have Q2:=@Mi;have Qx:=@Kf;have Ql:=@iU;have Q3:=@Hu;have Ji:=@H0;have Kq:Kae:=⟨⟩;exact Pm
 ·have Kq:Kaf:=⟨⟩;exact Pm):p:=h
theorem good_all1:Jd Tryz.prog (84,Eh):=by
 obtain ⟨Kx,Kt,Kc,Kd,Kb,Ku,Kw,K,Y0,_⟩:=Yc Qp Z0 [] false (Xu good_behind T0.eq_def Yb);have Ko:=Eh.eq_def;refine Ve K Tryz.func84 [.tmp 2] rfl 15 rfl (fun c hc J0 Zo=>?_);unfold Eh at Zo;obtain ⟨s,rfl,hs⟩:=Qs Zo;cases hc;have Kq:Kad:=⟨⟩;exact Pm
def Xt (s:List UInt8):Bool:=match s with
 | []=>false
 | c::r=>Vq c 97 122&&Hf r
def Ht (s:List UInt8):Bool:=match s with
 | []=>false
 | c::r=>Vq c 65 90&&Hf r
def Kl:Con:=Xh (fun (s:List UInt8)=>s.length≤9223372036854775807) (fun s=>Xt s)
class Kag:Prop
theorem Kag.k (_:Kag) (h:p:=by
 cases s with
 | nil=>simp [Xt]
 | cons c r =>
  simp only [Zd] at hs;simp only [Zd,Xt,Int.toNat_zero,List.getD_cons_zero,List.drop_succ_cons,List.drop_zero];repeat' first|exact Cg|with_reducible apply Z9|intro _
  all_goals simp_all):p:=h
theorem good_IsWord1:Jd Tryz.prog (55,Kl):=by
 obtain ⟨Kx,Kt,Kc,Kd,Kb,Ku,Kw,K,Y0,Xr,_⟩:=Yc Qp Z0 [] false (Xu good_within Zku (Xu good_all1 Eh.eq_def Yb));have Ko:=Kl.eq_def;refine Ve K Tryz.func55 [.tmp 2] rfl 15 rfl (fun c hc J0 Zo=>?_);unfold Kl at Zo;obtain ⟨s,rfl,hs⟩:=Qs Zo;cases hc;have Qz:=@Mi;have Q2:=@Kf;have Qx:=@iU;have Ql:=@Hu;have Q3:=@H0;have Ji:=@Qf6;have Jl:=@Qa4;have Kq:Kag:=⟨⟩;exact Pm
def Nx:Con:=Xh (fun (s:List UInt8)=>s.length≤9223372036854775807) (fun s=>Ht s)
class Kah:Prop
theorem Kah.k (_:Kah) (h:p:=by
 cases s with
 | nil=>simp [Ht]
 | cons c r =>
  simp only [Zd] at hs;simp only [Zd,Ht,Int.toNat_zero,List.getD_cons_zero,List.drop_succ_cons,List.drop_zero];repeat' first|exact Cg|with_reducible apply Z9|intro _
  all_goals simp_all):p:=h
theorem good_IsTag1:Jd Tryz.prog (56,Nx):=by
 obtain ⟨Kx,Kt,Kc,Kd,Kb,Ku,Kw,K,Y0,Xr,_⟩:=Yc Qp Z0 [] false (Xu good_within Zku (Xu good_all1 Eh.eq_def Yb));have Ko:=Nx.eq_def;refine Ve K Tryz.func56 [.tmp 2] rfl 15 rfl (fun c hc J0 Zo=>?_);unfold Nx at Zo;obtain ⟨s,rfl,hs⟩:=Qs Zo;cases hc;have Qz:=@Mi;have Q2:=@Kf;have Qx:=@iU;have Ql:=@Hu;have Q3:=@H0;have Ji:=@Qf8;have Jl:=@Qf7;have Kq:Kah:=⟨⟩;exact Pm
structure Node where
 kind:Int
 name:List UInt8
 n:Int
 deriving DecidableEq
instance encNode:Enc Node:=⟨fun a=>.agg [.int .i64 a.kind,.str a.name,.int .i64 a.n],fun x=>match x with
 | .agg [a,b,c]=>⟨a.i,b.s,c.i⟩
 | _=>⟨0,[],0⟩,fun a=>rfl⟩
instance szNode:Sz Node:=⟨3⟩
theorem Y4:Sz.sz Node=3:=rfl
theorem Zx {n:Node}:(enc n:D)=.agg [.int .i64 n.kind,.str n.name,.int .i64 n.n]:=rfl
theorem Zy {a:Int} {b:List UInt8} {c:Int}:(dec (.agg [.int .i64 a,.str b,.int .i64 c]):Node)=⟨a,b,c⟩:=rfl
theorem Zv {a:Int} {b:List UInt8} {c:Int}:C5 Node (.agg [.int .i64 a,.str b,.int .i64 c])=True:=eq_true rfl
theorem Zw {a b:Node}:((a.kind==b.kind)&&((a.name==b.name)&&(a.n==b.n)))=(a==b):=by
 rw [Bool.eq_iff_iff];cases a;cases b;simp
theorem Zu {n:Node}:Node.mk n.kind n.name n.n=n:=rfl
def Yf (n:Node):Int:=if n.kind=5 then 2 else if n.kind=6∨n.kind=7 then n.n else 0
def Nt:Con:=Xh (fun (_:Node)=>True) (fun n=>Yf n)
class Kai:Prop
theorem Kai.k (_:Kai) (h:p:=by
 unfold Yf;refine ⟨fun h=>by rw [if_pos h],fun h=>⟨fun h6=>⟨fun h7=>by rw [if_neg h,if_pos (.inr h7)],fun h7=>by rw [if_neg h,if_neg (by omega)]⟩,fun h6=>by rw [if_neg h,if_pos (.inl h6)]⟩⟩):p:=h
theorem good_many3:Jd Tryz.prog (140,Nt):=by
 obtain ⟨Kx,Kt,Kc,Kd,Kb,Ku,Kw,K,_⟩:=Yc Qp Z0 [] false Yb;have Ko:=Nt.eq_def;refine Ve K Tryz.func140 [.tmp 2] rfl 16 rfl (fun c hc J0 Zo=>?_);unfold Nt at Zo;obtain ⟨n,rfl,-⟩:=Qs Zo;cases hc;have Qz:=@Zx;have Q2:=@Zv;have Qx:=@Zy;have Ql:=@Zu;have Q3:=@Y4;have Ji:=@Zw;have Kq:Kai:=⟨⟩;exact Pm
def Va (n:Node):Bool :=
 if n.kind=0∨n.kind=8∨n.kind=9 then decide (0≤n.n)
 else if 1≤n.kind∧n.kind≤5 then decide (n.n=0)
 else if n.kind=6 then decide (0≤n.n)&&decide (n.n≤50)
 else if n.kind=7 then decide (1≤n.n)&&decide (n.n≤50)
 else false
def N0:Con:=Xh (fun (_:Node)=>True) (fun n=>Va n)
class Kaj:Prop
theorem Kaj.k (_:Kaj) (h:p:=by
 unfold Va;repeat' first|exact Cg|with_reducible apply Z9|intro _
 all_goals repeat (first|rw [if_pos (by omega)]|rw [if_neg (by omega)])
 all_goals try unfold Xn
 all_goals try unfold Jw
 all_goals rw [Bool.eq_iff_iff]
 all_goals simp only [Zg,Bool.or_eq_true,decide_eq_true_eq,Zi,Zn,iff_self,false_iff,iff_false,true_iff,iff_true]
 all_goals omega):p:=h
theorem good_numbered3:Jd Tryz.prog (103,N0):=by
 obtain ⟨Kx,Kt,Kc,Kd,Kb,Ku,Kw,K,_⟩:=Yc Qp Z0 [] false Yb;have Ko:=N0.eq_def;refine Ve K Tryz.func103 [.tmp 2] rfl 41 rfl (fun c hc J0 Zo=>?_);unfold N0 at Zo;obtain ⟨n,rfl,-⟩:=Qs Zo;cases hc;refine Ym 2 ?_;have Qz:=@Zx;have Q2:=@Zv;have Qx:=@Zy;have Ql:=@Zu;have Q3:=@Y4;have Ji:=@Zw;have Kq:Kaj:=⟨⟩;exact Pm
def qK:List Node→Int→Nat
 | [],_=>0
 | n::l,o=>if o-1+Yf n=0 then 1 else 1+qK l (o-1+Yf n)
def Ar (t:List Node) (i:Int):Int:=if i<0∨(t.length:Int)≤i then -1 else i+qK (t.drop i.toNat) 1
def vV (t:List Node):Prop:=t.length≤20000000∧∀ n∈t,0≤Yf n∧Yf n≤50
def Ei:Con:=Vx (fun (t:Sl Node) (i:Int)=>vV t.l∧Aj .i64 i) (fun t i=>Ar t.l i)
class Kal:Prop
theorem Kal.k (_:Kal) (h:p:=by
 repeat' first|exact Cg|with_reducible apply Z9|intro _
 ·rename_i hz;rw [if_pos hz] at he;rw [e0];omega
 ·rename_i hz;rw [if_neg hz] at he;exact ⟨(k+1,o-1+Yf (t.getD k ⟨0,[],0⟩)),by exact Xa,by simp only;omega,by simp only;omega,by simp only;omega,by simp only;omega,by simp only;omega,by simp only;omega⟩):p:=h
class Kam:Prop
theorem Kam.k (_:Kam) (h:p:=by
 rw [e0];omega):p:=h
class Kak:Prop
theorem Kak.k (_:Kak) (h:p:=by
 repeat' first|exact Cg|with_reducible apply Z9|intro _
 ·unfold Ar;rw [if_pos (.inr ‹_›)]
 ·obtain ⟨i,rfl⟩:∃ n:Nat,i=n:=⟨i.toNat,by omega⟩
  have Bk:i<t.length:=by omega
  have e0:Ar t i=i+qK (t.drop i) 1:=by
   unfold Ar;rw [if_neg (by omega)]
   rfl
  refine Z4 [4,16,17,18,19,20,21,22,23,24,25,26,27,28,29,30,31,32,33] (fun p:Nat×Int=>[(5,.d (.int .i64 p.2)),(6,.d (.int .i64 p.1))]) (fun p:Nat×Int=>[]) (fun p:Nat×Int=>i≤p.1∧p.1≤t.length∧1≤p.2∧p.2≤1+50*p.1∧i+qK (t.drop i) 1=p.1+qK (t.drop p.1) p.2) (fun p:Nat×Int=>t.length-p.1) (i,1) ?_ ?_ ?_
  ·exact ⟨Zl _,by simp only;omega,by simp,by simp only;omega,rfl⟩
  ·exact Xa
  rintro ⟨k,o⟩ ⟨h1,h2,h3,h4,h5⟩;simp only at h1 h2 h3 h4 h5;rcases Qh k t.length with ⟨Qg,Qz⟩|⟨Qg,Qz⟩
  ·have Zin:=hm (t.getD k ⟨0,[],0⟩) (by simp [Qg])
   have he:qK (t.drop k) o=if o-1+Yf (t.getD k ⟨0,[],0⟩)=0 then 1 else 1+qK (t.drop (k+1)) (o-1+Yf (t.getD k ⟨0,[],0⟩)):=by
    rw [List.drop_eq_getElem_cons Qg,qK];simp [Qg]
   have Q2:=Qc (⟨0,[],0⟩:Node) Qg;have Qx:=@Zx;have Ql:=@Zv;have Q3:=@Zy;have Ji:=@Zu;have Jl:=@Y4;have Js:=@Zw;have Kq:Kal:=⟨⟩;exact Pm
  ·have hd:t.drop k=[]:=List.drop_eq_nil_of_le Qg;rw [hd,qK] at h5;have Qx:=@Zx;have Ql:=@Zv;have Q3:=@Zy;have Ji:=@Zu;have Jl:=@Y4;have Js:=@Zw;have Kq:Kam:=⟨⟩;exact Pm
 ·unfold Ar;rw [if_pos (.inl ‹_›)]):p:=h
theorem good_End3:Jd Tryz.prog (104,Ei):=by
 obtain ⟨Kx,Kt,Kc,Kd,Kb,Ku,Kw,K,Y0,_⟩:=Yc Qp Z0 [] false (Xu good_many3 Nt.eq_def Yb);have Ko:=Ei.eq_def;refine Ve K Tryz.func104 [.tmp 4] rfl 36 rfl (fun c hc J0 Zo=>?_);unfold Ei at Zo;obtain ⟨⟨t⟩,i,rfl,⟨ht,hm⟩,hi⟩:=Jh Zo;simp only at ht hm;rw [Xx] at hi;cases hc;refine Ym 2 ?_;have Qx:=@Zx;have Ql:=@Zv;have Q3:=@Zy;have Ji:=@Zu;have Jl:=@Y4;have Js:=@Zw;have Kq:Kak:=⟨⟩;exact Pm
def Dy (t:List Node):Bool:=t.all fun n=>n.kind != 8&&n.kind != 9
def Cc:Con:=Xh (fun (t:Sl Node)=>t.l.length≤9223372036854775807) (fun t=>Dy t.l)
class Kao:Prop
theorem Kao.k (_:Kao) (h:p:=by
 have Xi:((t.getD k ⟨0,[],0⟩).kind != 8&&(t.getD k ⟨0,[],0⟩).kind != 9)=false→false=Dy t:=by
  intro h;unfold Dy;rw [aV (p:=fun n:Node=>n.kind != 8&&n.kind != 9) ⟨0,[],0⟩ k Qg h]
 repeat' first|exact Cg|with_reducible apply Z9|intro _
 ·rename_i h8 h9;exact Xi (by rw [h9];simp)
 ·rename_i h8 h9;refine ⟨k+1,by exact Xa,by omega,fun j hj=>?_,by omega⟩
  by_cases aC:j=k
  ·subst aC;simp only [bne_iff_ne,ne_eq,Zg];exact ⟨h8,h9⟩
  ·exact Y3 j (by omega)
 ·rename_i h8;exact Xi (by rw [h8];simp)):p:=h
class Kap:Prop
theorem Kap.k (_:Kap) (h:p:=by
 unfold Dy;rw [Sq (p:=fun n:Node=>n.kind != 8&&n.kind != 9) ⟨0,[],0⟩ fun j hj=>Y3 j (by omega)]):p:=h
class Kan:Prop
theorem Kan.k (_:Kan) (h:p:=by
 refine Z4 [2,4,5,6,7,8,9,10,11,12,13,14,15,16,17,18,19,20,21,22,23] (fun k:Nat=>[(3,.d (.int .i64 k))]) (fun k:Nat=>[]) (fun k:Nat=>k≤t.length∧∀ j,j<k→((t.getD j ⟨0,[],0⟩).kind != 8&&(t.getD j ⟨0,[],0⟩).kind != 9)=true) (fun k:Nat=>t.length-k) 0 ?_ ?_ ?_
 ·simp
 ·exact Xa
 rintro k ⟨hk,Y3⟩;rcases Qh k t.length with ⟨Qg,Qz⟩|⟨Qg,Qz⟩
 ·have Q2:=Qc (⟨0,[],0⟩:Node) Qg;have Qx:=@Zx;have Ql:=@Zv;have Q3:=@Zy;have Ji:=@Zu;have Jl:=@Y4;have Js:=@Zw;have Kq:Kao:=⟨⟩;exact Pm
 ·have Qx:=@Zx;have Ql:=@Zv;have Q3:=@Zy;have Ji:=@Zu;have Jl:=@Y4;have Js:=@Zw;have Kq:Kap:=⟨⟩;exact Pm):p:=h
theorem good_Plain3:Jd Tryz.prog (86,Cc):=by
 obtain ⟨Kx,Kt,Kc,Kd,Kb,Ku,Kw,K,_⟩:=Yc Qp Z0 [] false Yb;have Ko:=Cc.eq_def;refine Ve K Tryz.func86 [.tmp 2] rfl 24 rfl (fun c hc J0 Zo=>?_);unfold Cc at Zo;obtain ⟨⟨t⟩,rfl,ht⟩:=Qs Zo;simp only at ht;cases hc;have Qx:=@Zx;have Ql:=@Zv;have Q3:=@Zy;have Ji:=@Zu;have Jl:=@Y4;have Js:=@Zw;have Kq:Kan:=⟨⟩;exact Pm
def O2:Con:=Vx (fun (a b:Sl Node)=>a.l.length≤9223372036854775807∧b.l.length≤9223372036854775807) (fun a b=>a.l==b.l)
class Kar:Prop
theorem Kar.k (_:Kar) (h:p:=by
 repeat' first|exact Cg|with_reducible apply Z9|intro _
 ·kernel_rfl
 ·rename_i h;symm;rw [Za];intro e;exact h (by rw [e])
 ·rename_i h;refine ⟨k+1,by exact Xa,by omega,fun j hj=>?_,by omega⟩
  by_cases aC:j=k
  ·subst aC;exact h
  ·exact Y3 j (by omega)):p:=h
class Kas:Prop
theorem Kas.k (_:Kas) (h:p:=by
 symm;rw [Zi];refine List.ext_getElem Z8 fun j h1 h2=>?_;have:=Y3 j (by omega)
 simpa [h1,h2] using this):p:=h
class Kaq:Prop
theorem Kaq.k (_:Kaq) (h:p:=by
 refine ⟨fun Hk=>?_,fun kI=>?_⟩
 ·symm;rw [Za];intro h;exact Hk (by rw [h])
 have Z8:a.length=b.length:=by omega
 refine Z4 [4,11,12,13,14,15,16,17,18,19,20,21,22,23,24,25] (fun k:Nat=>[(5,.d (.int .i64 k))]) (fun k:Nat=>[]) (fun k:Nat=>k≤a.length∧∀ j,j<k→a.getD j ⟨0,[],0⟩=b.getD j ⟨0,[],0⟩) (fun k:Nat=>a.length-k) 0 ?_ ?_ ?_
 ·simp
 ·exact Xa
 rintro k ⟨hk,Y3⟩;rcases Qh k a.length with ⟨Qg,Qz⟩|⟨Qg,Qz⟩
 ·have Q2:=Qc (⟨0,[],0⟩:Node) Qg;have Qx:=Qc (⟨0,[],0⟩:Node) (show k<b.length by omega)
  have Ql:=@Zx;have Q3:=@Zv;have Ji:=@Zy;have Jl:=@Zu;have Js:=@Y4;have Jk:=@Zw;have Kq:Kar:=⟨⟩;exact Pm
 ·have Ql:=@Zx;have Q3:=@Zv;have Ji:=@Zy;have Jl:=@Zu;have Js:=@Y4;have Jk:=@Zw;have Kq:Kas:=⟨⟩;exact Pm):p:=h
theorem good_One3:Jd Tryz.prog (49,O2):=by
 obtain ⟨Kx,Kt,Kc,Kd,Kb,Ku,Kw,K,_⟩:=Yc Qp Z0 [] false Yb;have Ko:=O2.eq_def;refine Ve K Tryz.func49 [.tmp 4] rfl 26 rfl (fun c hc J0 Zo=>?_);unfold O2 at Zo;obtain ⟨⟨a⟩,⟨b⟩,rfl,ha,hb⟩:=Jh Zo;simp only at ha hb;cases hc;have Ql:=@Zx;have Q3:=@Zv;have Ji:=@Zy;have Jl:=@Zu;have Js:=@Y4;have Jk:=@Zw;have Kq:Kaq:=⟨⟩;exact Pm
def Gz (n:Node):Node:=if n.kind=0 then { n with n:=0 } else n
def Mo (a b:List Node):Bool:=a.map Gz==b.map Gz
def Fs:Con:=Vx (fun (a b:Sl Node)=>a.l.length≤9223372036854775807∧b.l.length≤9223372036854775807) (fun a b=>Mo a.l b.l)
class Kau:Prop
theorem Kau.k (_:Kau) (h:p:=by
 revert Wi Xi;generalize a.getD k ⟨0,[],0⟩=x;generalize b.getD k ⟨0,[],0⟩=y;intro Wi Xi;repeat' first|exact Cg|with_reducible apply Z9|intro _
 ·kernel_rfl
 all_goals first|(refine Xi (fun e=>?_);revert e;clear Wi Xi Y3;cases x;cases y;simp_all [Gz];done)|exact ⟨k+1,by exact Xa,by omega,Wi (by clear Wi Xi Y3;cases x;cases y;simp_all [Gz]),by omega⟩):p:=h
class Kav:Prop
theorem Kav.k (_:Kav) (h:p:=by
 symm;unfold Mo;rw [Zi];refine List.ext_getElem (by simp [Z8]) fun j h1 h2=>?_
 rw [Qn] at h1 h2;have:=Y3 j (by omega)
 simpa [h1,h2] using this):p:=h
class Kat:Prop
theorem Kat.k (_:Kat) (h:p:=by
 refine ⟨fun Hk=>?_,fun kI=>?_⟩
 ·symm;unfold Mo;rw [Za];intro h;have:=congrArg List.length h;rw [Qn,Qn] at this;exact Hk (by rw [this])
 have Z8:a.length=b.length:=by omega
 refine Z4 [4,6,7,13,14,15,16,17,18,19,20,21,22,23,24,25,26,27,28,29,30,31,32,33,34,35,36,37] (fun k:Nat=>[(5,.d (.int .i64 k))]) (fun k:Nat=>[]) (fun k:Nat=>k≤a.length∧∀ j,j<k→Gz (a.getD j ⟨0,[],0⟩)=Gz (b.getD j ⟨0,[],0⟩)) (fun k:Nat=>a.length-k) 0 ?_ ?_ ?_
 ·simp
 ·exact Xa
 rintro k ⟨hk,Y3⟩;rcases Qh k a.length with ⟨Qg,Qz⟩|⟨Qg,Qz⟩
 ·have Wi:Gz (a.getD k ⟨0,[],0⟩)=Gz (b.getD k ⟨0,[],0⟩)→∀ j,j<k+1→Gz (a.getD j ⟨0,[],0⟩)=Gz (b.getD j ⟨0,[],0⟩):=by
   intro h j hj;by_cases aC:j=k
   ·subst aC;exact h
   ·exact Y3 j (by omega)
  have Xi:Gz (a.getD k ⟨0,[],0⟩)≠Gz (b.getD k ⟨0,[],0⟩)→false=Mo a b:=by
   intro h;symm;unfold Mo;rw [Za];intro e;apply h;have h1:(a.map Gz).getD k ⟨0,[],0⟩=(b.map Gz).getD k ⟨0,[],0⟩:=by rw [e]
   simpa [Qg,show k<b.length by omega] using h1
  have Q2:=Qc (⟨0,[],0⟩:Node) Qg;have Qx:=Qc (⟨0,[],0⟩:Node) (show k<b.length by omega)
  have Ql:=@Zx;have Q3:=@Zv;have Ji:=@Zy;have Jl:=@Zu;have Js:=@Y4;have Jk:=@Zw;have Kq:Kau:=⟨⟩;exact Pm
 ·have Ql:=@Zx;have Q3:=@Zv;have Ji:=@Zy;have Jl:=@Zu;have Js:=@Y4;have Jk:=@Zw;have Kq:Kav:=⟨⟩;exact Pm):p:=h
theorem good_Same3:Jd Tryz.prog (38,Fs):=by
 obtain ⟨Kx,Kt,Kc,Kd,Kb,Ku,Kw,K,_⟩:=Yc Qp Z0 [] false Yb;have Ko:=Fs.eq_def;refine Ve K Tryz.func38 [.tmp 4] rfl 38 rfl (fun c hc J0 Zo=>?_);unfold Fs at Zo;obtain ⟨⟨a⟩,⟨b⟩,rfl,ha,hb⟩:=Jh Zo;simp only at ha hb;cases hc;refine Ym 2 ?_;have Ql:=@Zx;have Q3:=@Zv;have Ji:=@Zy;have Jl:=@Zu;have Js:=@Y4;have Jk:=@Zw;have Kq:Kat:=⟨⟩;exact Pm
theorem Zgw:∀ (l:List Node) (o:Int),qK l o≤l.length
 | [],o=>by simp [qK]
 | n::l,o=>by
  simp only [qK];split
  ·simp
  ·have:=Zgw l (o-1+Yf n);simp only [Zd];omega
def We (t:List Node):Nat→Nat→List Int
 | 0,_=>[]
 | m+1,at_=>if at_<t.length then (at_:Int)::We t m (at_+qK (t.drop at_) 1) else []
def Gi (t:List Node) (i:Int):List Int:=if i<0∨(t.length:Int)≤i then [] else We t (Yf (t.getD i.toNat ⟨0,[],0⟩)).toNat (i.toNat+1)
def Sj:Con:=Vx (fun (t:Sl Node) (i:Int)=>vV t.l∧Aj .i64 i) (fun t i=>Sl.mk (Gi t.l i))
class Kax:Prop
theorem Kax.k (_:Kax) (h:p:=by
 refine ⟨(k+1,q+qK (t.drop q) 1,out++[(q:Int)]),by exact Xa,by simp only;omega,by simp only;omega,by simp [h3],?_,by simp only;omega⟩
 simp only;rw [←h4,show M-(k+1)=M-k-1 by omega]
 simp):p:=h
class Kay:Prop
theorem Kay.k (_:Kay) (h:p:=by
 rw [e0,h4]):p:=h
class Kaz:Prop
theorem Kaz.k (_:Kaz) (h:p:=by
 rw [e0,h4]):p:=h
class Kaw:Prop
theorem Kaw.k (_:Kaw) (h:p:=by
 repeat' first|exact Cg|with_reducible apply Z9|intro _
 ·unfold Gi;rw [if_pos (.inr ‹_›)];rfl
 ·obtain ⟨i,rfl⟩:∃ n:Nat,i=n:=⟨i.toNat,by omega⟩
  have Bk:i<t.length:=by omega
  have Qbq:=hm (t.getD i ⟨0,[],0⟩) (by simp [Bk])
  obtain ⟨M,Qx⟩:∃ M:Nat,Yf (t.getD i ⟨0,[],0⟩)=M:=⟨(Yf (t.getD i ⟨0,[],0⟩)).toNat,by omega⟩
  have e0:Gi t i=We t M (i+1):=by
   unfold Gi;rw [if_neg (by omega)]
   simp only [Zp,Qx]
  refine Z4 [20,21,22,23,24,25,26,27,28,29,30,31,32,33,34,35,36,37,38,39,40,41] (fun p:Nat×Nat×List Int=>[(5,.sl 8 (p.2.2.map enc).length),(6,.d (.int .i64 p.2.1)),(7,.d (.int .i64 p.1))]) (fun p:Nat×Nat×List Int=>[(8,.row 1 (p.2.2.map enc) 0)]) (fun p:Nat×Nat×List Int=>p.1≤M∧p.2.1≤t.length∧p.2.2.length=p.1∧p.2.2++We t (M-p.1) p.2.1=We t M (i+1)) (fun p:Nat×Nat×List Int=>M-p.1) (0,i+1,[]) ?_ ?_ ?_
  ·exact ⟨Nat.zero_le _,Bk,rfl,rfl⟩
  ·exact Xa
  rintro ⟨k,q,out⟩ ⟨h1,h2,h3,h4⟩;simp only at h1 h2 h3 h4;rcases Qh k M with ⟨hk,Qz⟩|⟨hk,Qz⟩
  ·rcases Qh q t.length with ⟨hq,Q2⟩|⟨hq,Q2⟩
   ·have e1:M-k=(M-k-1)+1:=by omega
    rw [e1,We,if_pos hq] at h4;have M8:=Zgw (t.drop q) 1;rw [List.length_drop] at M8;have Ql:Ar t q=((q+qK (t.drop q) 1:Nat):Int):=by
     unfold Ar;rw [if_neg (by omega)]
     simp
    have hT:vV t:=⟨ht,hm⟩;have Q3:=Qc (⟨0,[],0⟩:Node) Bk;have Js:=@Zx;have Jk:=@Zv;have Q7:=@Zy;have Zz:=@Zu;have Qi:=@Y4;have Qo:=@Zw;have Kq:Kax:=⟨⟩;exact Cs
   ·have hz:We t (M-k) q=[]:=by
     cases hc:M-k with
     | zero=>rfl
     | succ c=>rw [We,if_neg (by omega)]
    rw [hz,List.append_nil] at h4;have Ji:=Qc (⟨0,[],0⟩:Node) Bk;have Js:=@Zx;have Jk:=@Zv;have Q7:=@Zy;have Zz:=@Zu;have Qi:=@Y4;have Qo:=@Zw;have Kq:Kay:=⟨⟩;exact Cs
  ·have hz:We t (M-k) q=[]:=by
    rw [show M-k=0 by omega]
    rfl
   rw [hz,List.append_nil] at h4;have Jl:=Qc (⟨0,[],0⟩:Node) Bk;have Js:=@Zx;have Jk:=@Zv;have Q7:=@Zy;have Zz:=@Zu;have Qi:=@Y4;have Qo:=@Zw;have Kq:Kaz:=⟨⟩;exact Cs
 ·unfold Gi;rw [if_pos (.inl ‹_›)];rfl):p:=h
theorem good_Kids3:Jd Tryz.prog (118,Sj):=by
 obtain ⟨Kx,Kt,Kc,Kd,Kb,Ku,Kw,K,Y0,Xr,_⟩:=Yc Qp Z0 [] false (Xu good_End3 Ei.eq_def (Xu good_many3 Nt.eq_def Yb));have Ko:=Sj.eq_def;refine Ve K Tryz.func118 [.tmp 4] rfl 43 rfl (fun c hc J0 Zo=>?_);unfold Sj at Zo;obtain ⟨⟨t⟩,i,rfl,⟨ht,hm⟩,hi⟩:=Jh Zo;simp only at ht hm;rw [Xx] at hi;cases hc;refine Ym 2 ?_;have Js:=@Zx;have Jk:=@Zv;have Q7:=@Zy;have Zz:=@Zu;have Qi:=@Y4;have Qo:=@Zw;have Kq:Kaw:=⟨⟩;exact Pm
def Bi:Int→List Int→List Int
 | x,[]=>if x=0 then [] else [x]
 | x,y::r=>if x=0 then Bi (y-1) r else x::y::r
def Zcl:List Int→List Int
 | []=>[]
 | x::r=>Bi x r
def eH:List Node→List Int→Bool
 | [],_=>true
 | n::l,rs=>if 100≤rs.length then false else eH l (Bi (Yf n) rs)
def Pr (t:List Node):Bool:=eH t []
def Zxj (rs:List Int):Prop:=(∀ x∈rs,0≤x∧x≤50)∧∀ x∈rs.tail,1≤x
theorem Ih {x:Int} {r:List Int}:el ((x::r).reverse.map enc) r.length=.int .i64 x:=by
 simp [el]
theorem sW {x:Int} {r:List Int}:((x::r).reverse.map (enc:Int→D)).take r.length=r.reverse.map enc:=by
 rw [List.reverse_cons,List.map_append,List.take_left' (by simp)]
theorem Bq {x y:Int} {r:List Int}:((x::r).reverse.map (enc:Int→D)).set r.length (.int .i64 y)=(y::r).reverse.map enc:=by
 rw [List.reverse_cons,List.map_append,List.set_append];simp
theorem Pd {x:Int} {r:List Int} (h:x≠0):Bi x r=x::r:=by
 cases r<;>simp [Bi,h]
def Mx:Con:=Xh (fun (t:Sl Node)=>vV t.l) (fun t=>Pr t.l)
class KaC:Prop
theorem KaC.k (_:KaC) (h:p:=by
 simp only [Zcl] at g4;exact ⟨(k+1,[]),by exact Xa,by simp only;omega,by simp,by simp,by simp only;rw [←h4,e1,g4],by simp only;omega⟩):p:=h
class KaD:Prop
theorem KaD.k (_:KaD) (h:p:=by
 exact ⟨[],by exact Xa,⟨by simp,by simp⟩,by simp,by rw [←g4];rfl,by simp⟩):p:=h
class KaE:Prop
theorem KaE.k (_:KaE) (h:p:=by
 refine ⟨(y-1)::r,by exact Xa,⟨fun z Qx=>?_,fun z Qx=>g2 z (List.mem_cons_of_mem _ Qx)⟩,by simp only [Zd];omega,by rw [←g4];simp only [Zcl,Bi,if_true],by simp only [Zd];omega⟩
 rcases Z2.1 Qx with rfl|Qx
 ·omega
 ·exact g1 z (List.mem_cons_of_mem _ (List.mem_cons_of_mem _ Qx))):p:=h
class KaF:Prop
theorem KaF.k (_:KaF) (h:p:=by
 have e3:Bi M rs=x::r:=by rw [←g4];exact Pd Zkf
 refine ⟨(k+1,x::r),by exact Xa,by simp only;omega,by simp only [Zd];omega,fun z Qx=>?_,by simp only;rw [←h4,e1,e3],by simp only;omega⟩
 rcases Z2.1 Qx with rfl|Qx
 ·omega
 ·exact ⟨g2 z Qx,(g1 z (List.mem_cons_of_mem _ Qx)).2⟩):p:=h
class KaB:Prop
theorem KaB.k (_:KaB) (h:p:=by
 revert e1 Zin;generalize Yf (t.getD k ⟨0,[],0⟩)=M;intro Zin e1;repeat' first|exact Cg|with_reducible apply Z9|intro _
 ·rw [if_pos (by omega)] at e1
  rw [←h4,e1]
 ·rw [if_neg (by omega)] at e1
  have e2:rs.reverse++[M]=(M::rs).reverse:=by simp
  have hS:∀ (q:List Int),q≠[]→((q.length:Nat):Int)-1=((q.length-1:Nat):Int):=by
   intro q hq;have:=List.length_pos_iff.2 hq;omega
  refine Z4 [23,24,25,26,27,28,29,30,31,32,33,34,35,36,37,38,39,40,41,42,43,44,45,46,47,48,49,50] (fun q:List Int=>[(3,.sl 5 (q.reverse.map enc).length),(5,.dead),(12,.dead),(15,.dead),(22,.dead)]) (fun q:List Int=>[(5,.row 1 (q.reverse.map enc) 0)]) (fun q:List Int=>Zxj q∧q.length≤101∧Zcl q=Bi M rs) (fun q:List Int=>q.length) (M::rs) ?_ ?_ ?_
  ·refine ⟨⟨fun x hx=>?_,fun x hx=>(h3 x hx).1⟩,by simp only [Zd];omega,rfl⟩
   rcases Z2.1 hx with rfl|hx
   ·exact Zin
   ·have:=h3 x hx;omega
  ·exact Xa
  rintro q ⟨⟨g1,g2⟩,g3,g4⟩;cases q with
  | nil =>
   have Qx:Jw 0 ((0:Nat):Int)=false:=rfl;have Qi:=@List.length_reverse.{0};have Qo:=@List.reverse_nil.{0};have Qt:=@Zx;have Qq:=@Zv;have Qe:=@Zy;have Z6:=@Zu;have Qb:=@Y4;have Qk:=@Zw;have Kq:KaC:=⟨⟩;exact Cs
  | cons x r =>
   have Qx:Jw 0 ((r.length+1:Nat):Int)=true:=by rw [Je];omega
   have Ql:((r.length+1:Nat):Int)-1=(r.length:Int):=by omega
   have vM:=g1 x (by simp)
   have Q3:el (List.map enc (x::r).reverse) r.length=.int .i64 x:=Ih;have Ji:List.take r.length (List.map (enc:Int→D) (x::r).reverse)=List.map enc r.reverse:=sW;simp only [Zd] at g3;by_cases Zkf:x=0
   ·subst Zkf;cases r with
    | nil =>
     have Jl:Jw 0 ((0:Nat):Int)=false:=rfl;simp only [List.length_nil] at Qx Ql Q3 Ji;have Qi:=@List.length_reverse.{0};have Qo:=@List.reverse_nil.{0};have Qt:=@Zx;have Qq:=@Zv;have Qe:=@Zy;have Z6:=@Zu;have Qb:=@Y4;have Qk:=@Zw;have Kq:KaD:=⟨⟩;exact Cs
    | cons y r =>
     have Qhc:=g2 y (by simp)
     have Qhb:=g1 y (by simp)
     have Js:Jw 0 ((r.length+1:Nat):Int)=true:=by rw [Je];omega
     have Jk:((r.length+1:Nat):Int)-1=(r.length:Int):=by omega
     have Q7:el (List.map enc (y::r).reverse) r.length=.int .i64 y:=Ih;simp only [Zd] at Qx Ql Q3 Ji g3;have Qi:=@List.length_reverse.{0};have Qo:=@Bq;have Qt:=@Zx;have Qq:=@Zv;have Qe:=@Zy;have Z6:=@Zu;have Qb:=@Y4;have Qk:=@Zw;have Kq:KaE:=⟨⟩;exact Cs
   ·have Zz:(x==(0:Int))=false:=by simpa using Zkf
    have Qi:=@List.length_reverse.{0};have Qo:=@Zx;have Qt:=@Zv;have Qq:=@Zy;have Qe:=@Zu;have Z6:=@Y4;have Qb:=@Zw;have Kq:KaF:=⟨⟩;exact Cs):p:=h
class KaG:Prop
theorem KaG.k (_:KaG) (h:p:=by
 rw [←h4,List.drop_eq_nil_of_le Qg];rfl):p:=h
class KaA:Prop
theorem KaA.k (_:KaA) (h:p:=by
 refine Z4 [2,6,7,8,9,10,11,12,13,14,15,16,17,18,19,20,21,22,23,24,25,26,27,28,29,30,31,32,33,34,35,36,37,38,39,40,41,42,43,44,45,46,47,48,49,50] (fun p:Nat×List Int=>[(3,.sl 5 (p.2.reverse.map enc).length),(4,.d (.int .i64 p.1)),(5,.dead)]) (fun p:Nat×List Int=>[(5,.row 1 (p.2.reverse.map enc) 0)]) (fun p:Nat×List Int=>p.1≤t.length∧p.2.length≤101∧(∀ x∈p.2,1≤x∧x≤50)∧eH (t.drop p.1) p.2=Pr t) (fun p:Nat×List Int=>t.length-p.1) (0,[]) ?_ ?_ ?_
 ·exact ⟨Nat.zero_le _,by simp,by simp,rfl⟩
 ·exact Xa
 rintro ⟨k,rs⟩ ⟨h1,h2,h3,h4⟩;simp only at h1 h2 h3 h4;rcases Qh k t.length with ⟨Qg,Qz⟩|⟨Qg,Qz⟩
 ·have Zin:=hm (t.getD k ⟨0,[],0⟩) (by simp [Qg])
  have e1:eH (t.drop k) rs=if 100≤rs.length then false else eH (t.drop (k+1)) (Bi (Yf (t.getD k ⟨0,[],0⟩)) rs):=by
   rw [List.drop_eq_getElem_cons Qg,eH];simp [Qg]
  have Q2:=Qc (⟨0,[],0⟩:Node) Qg;have Qi:=@List.length_reverse.{0};have Qo:=@Zx;have Qt:=@Zv;have Qq:=@Zy;have Qe:=@Zu;have Z6:=@Y4;have Qb:=@Zw;have Kq:KaB:=⟨⟩;exact Pm
 ·have Qi:=@Zx;have Qo:=@Zv;have Qt:=@Zy;have Qq:=@Zu;have Qe:=@Y4;have Z6:=@Zw;have Kq:KaG:=⟨⟩;exact Pm):p:=h
theorem good_shallow3:Jd Tryz.prog (105,Mx):=by
 obtain ⟨Kx,Kt,Kc,Kd,Kb,Ku,Kw,K,Y0,_⟩:=Yc Qp Z0 [39] false (Xu good_many3 Nt.eq_def Yb);have Ko:=Mx.eq_def;refine Ve K Tryz.func105 [.tmp 2] rfl 51 rfl (fun c hc J0 Zo=>?_);unfold Mx at Zo;obtain ⟨⟨t⟩,rfl,⟨ht,hm⟩⟩:=Qs Zo;simp only at ht hm;cases hc;refine Ym 3 ?_;have Qi:=@Zx;have Qo:=@Zv;have Qt:=@Zy;have Qq:=@Zu;have Qe:=@Y4;have Z6:=@Zw;have Kq:KaA:=⟨⟩;exact Pm
abbrev n0:Node:=⟨0,[],0⟩
def bG (n:Node):Bool:=n.kind==6||n.kind==7
def labK (p x prev:Node) (pos last:Bool):Bool :=
 cond (x.kind==9) (bG p&&(last&&x.name==[]))
  (!((p.kind==6&&!Xt x.name)||(p.kind==7&&!Ht x.name))&&(!(!bG p&&!(x.name==[]))&&!(bG p&&(pos&&!Op.bytesLess prev.name x.name))))
def Sd (t:List Node) (l:List Int) (k:Nat):Node:=t.getD (l.getD k 0).toNat n0
def Rp (t:List Node) (i:Nat) (l:List Int) (k:Nat):Bool:=labK (t.getD i n0) (Sd t l k) (Sd t l (k-1)) (Jw 0 k) ((k:Int)==(l.length:Int)-1)
def D3 (t:List Node) (i:Nat):Bool:=(((Gi t i).length:Int)==Yf (t.getD i n0))&&(List.range (Gi t i).length).all fun k=>Rp t i (Gi t i) k
def Sr (t:List Node):Prop:=∀ n∈t,n.name.length≤9223372036854775807
theorem dI (t:List Node):∀ (m q:Nat),∀ x∈We t m q,(q:Int)≤x∧x<t.length
 | 0,q,x,hx=>by simp [We] at hx
 | m+1,q,x,hx=>by
  unfold We at hx;split at hx
  ·rcases Z2.1 hx with rfl|hx
   ·omega
   ·have:=dI t m _ x hx;omega
  ·cases hx
theorem Zgl {t:List Node} {i:Nat}:∀ x∈Gi t i,(i:Int)<x∧x<t.length:=by
 intro x hx;unfold Gi at hx;split at hx
 ·cases hx
 ·have:=dI t _ _ x hx;omega
theorem Iw (t:List Node):∀ (m q:Nat),(We t m q).length≤m
 | 0,q=>by simp [We]
 | m+1,q=>by
  unfold We;split
  ·simp only [Zd];have:=Iw t m (q+qK (t.drop q) 1);omega
  ·simp
def N2:Con:=Vx (fun (t:Sl Node) (i:Int)=>vV t.l∧Sr t.l∧0≤i∧i<t.l.length) (fun t i=>D3 t.l i.toNat)
class KaI:Prop
theorem KaI.k (_:KaI) (h:p:=by
 first|exact Xi (by clear Wi Xi kI Ug hlab' Y3;simp_all [labK,bG,Jw])|exact ⟨k+1,by exact Xa,by omega,Wi (by clear Wi Xi kI Ug hlab' Y3;simp_all [labK,bG,Jw]),by omega⟩):p:=h
class KaJ:Prop
theorem KaJ.k (_:KaJ) (h:p:=by
 rw [hlab',eq_comm,List.all_eq_true];intro j hj;exact Y3 j (by have:=List.mem_range.1 hj;omega)):p:=h
class KaH:Prop
theorem KaH.k (_:KaH) (h:p:=by
 repeat' first|exact Cg|with_reducible apply Z9|intro _
 ·rename_i Hk;rw [Ug];rw [show ((l.length:Int)==Yf (t.getD i n0))=false by simpa using Hk]
  rfl
 ·rename_i kI;have hlab':D3 t i=(List.range l.length).all fun k=>Rp t i l k:=by
   rw [Ug,show ((l.length:Int)==Yf (t.getD i n0))=true by simpa using kI]
   rfl
  refine Z4 [4,7,8,9,21,22,23,24,25,26,27,28,29,30,31,32,33,34,35,36,37,38,39,40,41,42,43,44,45,46,47,48,49,50,51,52,53,54,55,56,57,58,59,60,61,62,63,64,65,66,67,68,69,70,71,72,73,74,75,76,77,78,79,80,81,82,83,84,85,86,87,88,89,90,91,92,93,94,95,96,97,98,99,100,101,102,103,104,105,106,107,108,109,110,111,112,113,114,115,116,117,118,119,120,121,122] (fun k:Nat=>[(6,.d (.int .i64 k))]) (fun k:Nat=>[]) (fun k:Nat=>k≤l.length∧∀ j,j<k→Rp t i l j=true) (fun k:Nat=>l.length-k) 0 ?_ ?_ ?_
  ·simp
  ·exact Xa
  rintro k ⟨hk,Y3⟩;rcases Qh k l.length with ⟨Qg,Qx⟩|⟨Qg,Qx⟩
  ·have Zbs:=aL (l.getD k 0) (by simp [Qg])
   have rD:(l.getD k 0).toNat<t.length:=by omega
   have Qcx:=hN (Sd t l k) (by
    show t.getD _ n0∈t;rw [Zk,Zh rD];exact List.getElem_mem rD)
   have Wi:Rp t i l k=true→∀ j,j<k+1→Rp t i l j=true:=by
    intro h j hj;by_cases aC:j=k
    ·subst aC;exact h
    ·exact Y3 j (by omega)
   have Xi:Rp t i l k=false→false=D3 t i:=by
    intro h;rw [hlab',eq_comm,Bool.eq_false_iff];intro hc;rw [List.all_eq_true] at hc;have:=hc k (List.mem_range.2 Qg);rw [h] at this;cases this
   have Q7:t.getD (l.getD k 0).toNat ⟨0,[],0⟩=Sd t l k:=rfl;have Wi:labK (t.getD i n0) (Sd t l k) (Sd t l (k-1)) (Jw 0 k) ((k:Int)==(l.length:Int)-1)=true→∀ j,j<k+1→Rp t i l j=true:=Wi;have Xi:labK (t.getD i n0) (Sd t l k) (Sd t l (k-1)) (Jw 0 k) ((k:Int)==(l.length:Int)-1)=false→false=D3 t i:=Xi;have Qt:t.getD (l.getD (k-1) 0).toNat ⟨0,[],0⟩=Sd t l (k-1):=rfl;obtain ⟨x,hx⟩:=exq (Sd t l k);obtain ⟨prev,Qgl⟩:=exq (Sd t l (k-1));obtain ⟨p,hp⟩:=exq (t.getD i n0);rw [hx,Qgl,hp] at Wi Xi;rw [hx] at Qcx Q7;rw [Qgl] at Qt;have Ql:t.getD i ⟨0,[],0⟩=p:=hp;have aI:k-1<l.length:=by omega
   have Qcs:=aL (l.getD (k-1) 0) (by simp [aI])
   have Qhn:(l.getD (k-1) 0).toNat<t.length:=by omega
   have Zz:((k:Int)-1).toNat=k-1:=by omega
   have hc:((p.kind==6)=true∧(p.kind==7)=false)∨((p.kind==6)=false∧(p.kind==7)=true)∨((p.kind==6)=false∧(p.kind==7)=false):=by
    simp only [Zi,Za,ne_eq];omega
   rcases hc with ⟨Q3,Ji⟩|⟨Q3,Ji⟩|⟨Q3,Ji⟩
   all_goals
    have Jl:=Qc (0:Int) Qg;have Js:=Qc n0 rD;have Jk:=Qc n0 Bk;have Qi:=Qc (0:Int) aI;have Qo:=Qc n0 Qhn;have Qq:=@Zx;have Qe:=@Zv;have Z6:=@Zy;have Qb:=@Zu;have Qk:=@Y4;have Q0:=@Zw;have Kq:KaI:=⟨⟩;exact Cs
  ·have Qq:=@Zx;have Qe:=@Zv;have Z6:=@Zy;have Qb:=@Zu;have Qk:=@Y4;have Q0:=@Zw;have Kq:KaJ:=⟨⟩;exact Pm):p:=h
theorem good_labelled3:Jd Tryz.prog (106,N2):=by
 obtain ⟨Kx,Kt,Kc,Kd,Kb,Ku,Kw,K,Y0,Xr,eV,kB,_⟩:=Yc Qp Z0 [] false (Xu good_IsWord1 Kl.eq_def (Xu good_IsTag1 Nx.eq_def (Xu good_Kids3 Sj.eq_def (Xu good_many3 Nt.eq_def Yb))));have Ko:=N2.eq_def;refine Ve K Tryz.func106 [.tmp 4] rfl 123 rfl (fun c hc J0 Zo=>?_);unfold N2 at Zo;obtain ⟨⟨t⟩,i,rfl,hT,hN,Zio,Zbt⟩:=Jh Zo;simp only at hT hN Zio Zbt;obtain ⟨i,rfl⟩:∃ n:Nat,i=n:=⟨i.toNat,by omega⟩
 have Bk:i<t.length:=by omega
 have Z8:=hT.1;obtain ⟨l,Qz⟩:=exq (Gi t i);have aL:∀ x∈l,(i:Int)<x∧x<t.length:=by rw [←Qz];exact Zgl
 have Ly:l.length≤100000:=by
  rw [←Qz];unfold Gi;split
  ·simp
  ·have h1:=Iw t (Yf (t.getD (Int.toNat i) ⟨0,[],0⟩)).toNat ((Int.toNat i)+1);have h2:=(hT.2 (t.getD i ⟨0,[],0⟩) (by simp [Bk])).2
   simp only [Zp] at h1 ⊢;omega
 have Ug:D3 t i=(((l.length:Int)==Yf (t.getD i n0))&&(List.range l.length).all fun k=>Rp t i l k):=by
  unfold D3;rw [Qz]
 cases hc;refine Ym 7 ?_;have Q2:=Qc n0 Bk;have Qq:=@Zx;have Qe:=@Zv;have Z6:=@Zy;have Qb:=@Zu;have Qk:=@Y4;have Q0:=@Zw;have Kq:KaH:=⟨⟩;exact Pm
end Go.Am.Ty
namespace Go.Rose
inductive Rose (α:Type) where
 | mk (n:α) (ks:List (Rose α))
namespace Rose
variable {α:Type}
def root:Rose α→α
 | mk n _=>n
def kids:Rose α→List (Rose α)
 | mk _ ks=>ks
mutual
def nds:Rose α→List α
 | mk n ks=>n::ndss ks
def ndss:List (Rose α)→List α
 | []=>[]
 | x::xs=>nds x++ndss xs
end
mutual
def wf (ar:α→Nat):Rose α→Prop
 | mk n ks=>ks.length=ar n∧wfs ar ks
def wfs (ar:α→Nat):List (Rose α)→Prop
 | []=>True
 | x::xs=>wf ar x∧wfs ar xs
end
mutual
def depth:Rose α→Nat
 | mk _ ks=>1+depths ks
def depths:List (Rose α)→Nat
 | []=>0
 | x::xs=>max (depth x) (depths xs)
end
end Rose
open Rose
variable {α:Type} {ar:α→Nat}
theorem Yl:∀ (a b:List (Rose α)),ndss (a++b)=ndss a++ndss b
 | [],b=>by simp [ndss]
 | x::a,b=>by simp [ndss,Yl a b]
theorem R9:∀ {a b:List (Rose α)},wfs ar (a++b)↔wfs ar a∧wfs ar b
 | [],b=>by simp [wfs]
 | x::a,b=>by simp only [List.cons_append,wfs,R9 (a:=a),and_assoc]
theorem Qlg:∀ {a:List (Rose α)},wfs ar a→∀ x∈a,wf ar x
 | [],_,x,hx=>by cases hx
 | y::a,h,x,hx=>by
  rcases Z2.1 hx with rfl|hx
  ·exact h.1
  ·exact Qlg h.2 x hx
theorem Jt (n:α) (ks:List (Rose α)):nds (mk n ks)=n::ndss ks:=by simp [nds]
theorem Ta (x:Rose α):1≤(nds x).length:=by cases x;simp [nds]
theorem E0 (x:Rose α):nds x=x.root::ndss x.kids:=by cases x;simp [nds,root,kids]
theorem Zvr {x:Rose α}:wf ar x↔x.kids.length=ar x.root∧wfs ar x.kids:=by cases x;simp [wf,root,kids]
def Hw (ar:α→Nat):List α→Nat→Option Nat
 | _,0=>some 0
 | [],_+1=>none
 | n::l,o+1=>(Hw ar l (o+ar n)).map (·+1)
theorem bT (ar:α→Nat):∀ (m:Nat) (ts:List (Rose α)) (r:List α),(ndss ts).length≤m→wfs ar ts→∀ o,Hw ar (ndss ts++r) (ts.length+o)=(Hw ar r o).map (·+(ndss ts).length)
 | m,[],r,_,_,o=>by simp [ndss,Hw]
 | 0,mk n ks::ts,r,hm,_,o=>by simp [ndss,nds] at hm
 | m+1,mk n ks::ts,r,hm,hw,o=>by
  obtain ⟨⟨h1,h2⟩,h3⟩:=hw;simp only [ndss,nds,List.cons_append,Zd,Zb] at hm ⊢;rw [show ts.length+1+o=(ts.length+o)+1 by omega,Hw,List.append_assoc]
  rw [show ts.length+o+ar n=ks.length+(ts.length+o) by omega,bT ar m ks (ndss ts++r) (by omega) h2 (ts.length+o),bT ar m ts r (by omega) h3 o]
  cases Hw ar r o with
  | none=>rfl
  | some k=>simp only [Option.map_some];congr 1;omega
theorem Zgx {x:Rose α} (h:wf ar x) (r:List α):Hw ar (nds x++r) 1=some (nds x).length:=by
 have:=bT ar _ [x] r (Zl _) ⟨h,trivial⟩ 0;simpa [ndss,Hw] using this
theorem Qkf:∀ (l:List α) (o k:Nat),Hw ar l o=some k→∃ ts r,ts.length=o∧wfs ar ts∧l=ndss ts++r∧(ndss ts).length=k
 | l,0,k,h=>by
  cases l<;>(simp only [Hw,Zc] at h;exact ⟨[],_,rfl,trivial,by simp [ndss];rfl,by simp [ndss,←h]⟩)
 | [],o+1,k,h=>by simp [Hw] at h
 | n::l,o+1,k,h=>by
  rw [Hw,Option.map_eq_some_iff] at h;obtain ⟨k',h1,rfl⟩:=h;obtain ⟨ts,r,g1,g2,g3,g4⟩:=Qkf l _ k' h1;rw [←List.take_append_drop (ar n) ts] at g2 g3 g4;rw [R9] at g2;refine ⟨mk n (ts.take (ar n))::ts.drop (ar n),r,?_,⟨⟨?_,g2.1⟩,g2.2⟩,?_,?_⟩
  ·simp only [Zd,List.length_drop];omega
  ·rw [List.length_take];omega
  ·rw [g3,Yl];simp [ndss,nds]
  ·rw [Yl,Zb] at g4;simp only [ndss,nds,Zb,Zd];omega
theorem sP:∀ (m:Nat) {ts us:List (Rose α)} {r s:List α},(ndss ts).length≤m→wfs ar ts→wfs ar us→ts.length=us.length→ndss ts++r=ndss us++s→ts=us∧r=s
 | m,[],us,r,s,_,_,_,hl,h=>by
  have:us=[]:=List.length_eq_zero_iff.1 hl.symm;subst this;exact ⟨rfl,by simpa [ndss] using h⟩
 | m,_::_,[],_,_,_,_,_,hl,_=>by simp at hl
 | 0,mk n ks::ts,_,_,_,hm,_,_,_,_=>by simp [ndss,nds] at hm
 | m+1,mk n ks::ts,mk p qs::us,r,s,hm,ht,hu,hl,h=>by
  obtain ⟨⟨h1,h2⟩,h3⟩:=ht;obtain ⟨⟨g1,g2⟩,g3⟩:=hu;simp only [ndss,nds,List.cons_append,List.cons.injEq,Zd,Zb] at h hm hl;obtain ⟨rfl,h⟩:=h;rw [←Yl,←Yl] at h;obtain ⟨e1,e2⟩:=sP m (ts:=ks++ts) (us:=qs++us) (by rw [Yl,Zb];omega) (R9.2 ⟨h2,h3⟩) (R9.2 ⟨g2,g3⟩) (by simp only [Zb];omega) h
  obtain ⟨e3,e4⟩:=List.append_inj e1 (by rw [h1,g1])
  exact ⟨by rw [e3,e4],e2⟩
theorem Zi4 {x y:Rose α} {r s:List α} (hx:wf ar x) (hy:wf ar y) (h:nds x++r=nds y++s):x=y∧r=s:=by
 obtain ⟨h1,h2⟩:=sP (ar:=ar) _ (ts:=[x]) (us:=[y]) (Zl _) ⟨hx,trivial⟩ ⟨hy,trivial⟩ rfl (by simpa [ndss] using h)
 injection h1 with h1
 exact ⟨h1,h2⟩
def At (ar:α→Nat) (l:List α) (i:Nat) (x:Rose α):Prop:=wf ar x∧∃ r,l.drop i=nds x++r
theorem At.inj {l:List α} {i:Nat} {x y:Rose α} (hx:At ar l i x) (hy:At ar l i y):x=y:=by
 obtain ⟨h1,r,h2⟩:=hx;obtain ⟨g1,s,g2⟩:=hy;exact (Zi4 h1 g1 (h2.symm.trans g2)).1
theorem At.le {l:List α} {i:Nat} {x:Rose α} (h:At ar l i x):i+(nds x).length≤l.length:=by
 obtain ⟨_,r,h2⟩:=h;have h3:=congrArg List.length h2;rw [List.length_drop,Zb] at h3;have:=Ta x;omega
theorem At.lt {l:List α} {i:Nat} {x:Rose α} (h:At ar l i x):i<l.length:=by
 have:=h.le;have:=Ta x;omega
theorem At.root {l:List α} {i:Nat} {x:Rose α} (h:At ar l i x) (d:α):l.getD i d=x.root:=by
 obtain ⟨_,r,h2⟩:=h;have h3:(l.drop i).getD 0 d=x.root:=by rw [h2,E0];rfl
 simpa [Zk] using h3
def Ss (ar:α→Nat) (l:List α) (i:Nat) (xs:List (Rose α)):Prop:=wfs ar xs∧∃ r,l.drop i=ndss xs++r
theorem At.kids {l:List α} {i:Nat} {x:Rose α} (h:At ar l i x):Ss ar l (i+1) x.kids∧x.kids.length=ar x.root:=by
 obtain ⟨h1,r,h2⟩:=h;rw [Zvr] at h1;refine ⟨⟨h1.2,r,?_⟩,h1.1⟩;rw [E0] at h2;have h3:(l.drop i).drop 1=(ndss x.kids++r):=by rw [h2];rfl
 rwa [List.drop_drop] at h3
theorem Ss.head {l:List α} {i:Nat} {x:Rose α} {xs:List (Rose α)} (h:Ss ar l i (x::xs)):At ar l i x∧Ss ar l (i+(nds x).length) xs:=by
 obtain ⟨⟨h1,h2⟩,r,h3⟩:=h;refine ⟨⟨h1,ndss xs++r,by rw [h3];simp [ndss]⟩,h2,r,?_⟩
 rw [←List.drop_drop,h3];simp [ndss]
theorem Yz {x:Rose α} (h:wf ar x):At ar (nds x) 0 x:=⟨h,[],by simp⟩
theorem qH {l:List α} {i:Nat} {x:Rose α} (h:At ar l i x):Hw ar (l.drop i) 1=some (nds x).length:=by
 obtain ⟨h1,r,h2⟩:=h;rw [h2];exact Zgx h1 r
theorem Ql1 {l:List α} {i k:Nat} (h:Hw ar (l.drop i) 1=some k):∃ x,At ar l i x∧(nds x).length=k:=by
 obtain ⟨ts,r,h1,h2,h3,h4⟩:=Qkf _ _ _ h
 match ts,h1 with
 | [x],_ =>
  refine ⟨x,⟨h2.1,r,by rw [h3];simp [ndss]⟩,by simpa [ndss] using h4⟩
open Classical in
noncomputable def Vs [Inhabited α] (ar:α→Nat) (l:List α) (i:Nat):Rose α:=if h:∃ x,At ar l i x then Classical.choose h else mk default []
theorem Xp [Inhabited α] {l:List α} {i:Nat} {x:Rose α} (h:At ar l i x):Vs ar l i=x:=by
 unfold Vs;rw [dif_pos ⟨x,h⟩];exact At.inj (Classical.choose_spec (⟨x,h⟩:∃ x,At ar l i x)) h
theorem At.mem {l:List α} {i:Nat} {x:Rose α} (h:At ar l i x):∀ n∈nds x,n∈l:=fun n hn=>by
 obtain ⟨_,r,h2⟩:=h;exact List.mem_of_mem_drop (i:=i) (by rw [h2];exact List.mem_append_left _ hn)
end Go.Rose
namespace Go.Am.Ty
open Go.Proofs
open Enc (enc dec)
theorem Pw {n:Node} (h:Va n=true):0≤Yf n∧Yf n≤50:=by
 unfold Va at h;unfold Yf;by_cases h5:n.kind=5
 ·rw [if_pos h5];omega
 ·rw [if_neg h5];by_cases Zyt:n.kind=6∨n.kind=7
  ·rw [if_pos Zyt];rw [if_neg (by omega),if_neg (by omega)] at h
   by_cases h6:n.kind=6
   ·rw [if_pos h6] at h;simpa using h
   ·rw [if_neg h6,if_pos (by omega)] at h
    simp only [Zg,decide_eq_true_eq] at h;omega
  ·rw [if_neg Zyt];omega
def X6 (t:List Node):Bool:=t.length==0||Jw 10000 t.length||!((t.getD 0 n0).name==[])||(t.getD 0 n0).kind==9
def Ho (t:List Node):Bool:=!X6 t&&(t.all Va&&((Ar t 0==(t.length:Int)&&Pr t)&&(List.range t.length).all fun i=>D3 t i))
theorem Hp {p:Nat→Bool} {n:Nat} (h:∀ j,j<n→p j=true):(List.range n).all p=true:=by
 rw [List.all_eq_true];intro j hj;exact h j (List.mem_range.1 hj)
theorem Lj {p:Nat→Bool} {n:Nat} (j:Nat) (hj:j<n) (h:p j=false):(List.range n).all p=false:=by
 rw [Bool.eq_false_iff];intro hc;rw [List.all_eq_true] at hc;have:=hc j (List.mem_range.2 hj);rw [h] at this;cases this
def T5:Con:=Xh (fun (t:Sl Node)=>t.l.length≤9223372036854775807∧Sr t.l) (fun t=>Ho t.l)
class KaK:Prop
theorem KaK.k (_:KaK) (h:p:=by
 unfold Ho X6;simp [h0]):p:=h
class KaM:Prop
theorem KaM.k (_:KaM) (h:p:=by
 repeat' first|exact Cg|with_reducible apply Z9|intro _
 ·rename_i hb;rw [hr,aV (p:=Va) n0 k Qg hb];rfl
 ·rename_i hb;refine ⟨k+1,by exact Xa,by omega,fun j hj=>?_,by omega⟩
  by_cases aC:j=k
  ·subst aC;exact hb
  ·exact Y3 j (by omega)):p:=h
class KaO:Prop
theorem KaO.k (_:KaO) (h:p:=by
 repeat' first|exact Cg|with_reducible apply Z9|intro _
 ·rename_i hb;rw [Cl,Lj k Rd hb]
 ·rename_i hb;refine ⟨k+1,by exact Xa,by omega,fun j hj=>?_,by omega⟩
  by_cases aC:j=k
  ·subst aC;exact hb
  ·exact Zh5 j (by omega)):p:=h
class KaP:Prop
theorem KaP.k (_:KaP) (h:p:=by
 rw [Cl,Hp fun j hj=>Zh5 j (by omega)]):p:=h
class KaN:Prop
theorem KaN.k (_:KaN) (h:p:=by
 repeat' first|exact Cg|with_reducible apply Z9|intro _
 ·rename_i he hs;rw [hr,hs];simp
 ·rename_i he hs;have Cl:Ho t=(List.range t.length).all fun i=>D3 t i:=by
   rw [hr,hs,show (Ar t 0==(t.length:Int))=true by simpa using he]
   rfl
  refine Z4 [2,49,50,51,52,53,54,55,56,57,58] (fun k:Nat=>[(4,.d (.int .i64 k))]) (fun k:Nat=>[]) (fun k:Nat=>k≤t.length∧∀ j,j<k→D3 t j=true) (fun k:Nat=>t.length-k) 0 ?_ ?_ ?_
  ·simp
  ·exact Xa
  rintro k ⟨Az,Zh5⟩;rcases Qh k t.length with ⟨Rd,Ji⟩|⟨Rd,Ji⟩
  ·have Jl:=@Zx;have Js:=@Zv;have Jk:=@Zy;have Q7:=@Zu;have Zz:=@Y4;have Qi:=@Zw;have Kq:KaO:=⟨⟩;exact Pm
  ·have Jl:=@Zx;have Js:=@Zv;have Jk:=@Zy;have Q7:=@Zu;have Zz:=@Y4;have Qi:=@Zw;have Kq:KaP:=⟨⟩;exact Pm
 ·rename_i he;rw [hr,show (Ar t 0==(t.length:Int))=false by simpa using he]
  rfl):p:=h
class KaL:Prop
theorem KaL.k (_:KaL) (h:p:=by
 repeat' first|exact Cg|with_reducible apply Z9|intro _
 ·rename_i h1 h2 h9;exact Zx8 (by unfold X6;rw [show ((t.getD 0 n0).kind==9)=true by rw [Zi];exact h9];simp only [Bool.or_true])
 ·rename_i h1 h3 h9;have M8:t.length≤10000:=by omega
  have H7:X6 t=false:=by
   unfold X6;simp only [Bool.or_eq_false_iff,Jj,Za];refine ⟨⟨⟨by omega,by omega⟩,?_⟩,h9⟩
   simpa using h3
  have hr:Ho t=(t.all Va&&((Ar t 0==(t.length:Int)&&Pr t)&&(List.range t.length).all fun i=>D3 t i)):=by
   unfold Ho;rw [H7];rfl
  refine Z4 [2,27,28,29,30,31,32,33,34,35,36,37,38] (fun k:Nat=>[(3,.d (.int .i64 k))]) (fun k:Nat=>[]) (fun k:Nat=>k≤t.length∧∀ j,j<k→Va (t.getD j n0)=true) (fun k:Nat=>t.length-k) 0 ?_ ?_ ?_
  ·simp
  ·exact Xa
  rintro k ⟨hk,Y3⟩;rcases Qh k t.length with ⟨Qg,Qx⟩|⟨Qg,Qx⟩
  ·have Ql:=Qc n0 Qg;have Jl:=@Zx;have Js:=@Zv;have Jk:=@Zy;have Q7:=@Zu;have Zz:=@Y4;have Qi:=@Zw;have Kq:KaM:=⟨⟩;exact Pm
  ·have J8:t.all Va=true:=Sq (p:=Va) n0 fun j hj=>Y3 j (by omega)
   have Q3:vV t:=⟨by omega,fun n hn=>Pw (List.all_eq_true.1 J8 n hn)⟩
   rw [J8,Bool.true_and] at hr;have Zvn:vV t∧Aj .i64 0:=⟨Q3,by rw [Xx];omega⟩
   have Jl:=@Zx;have Js:=@Zv;have Jk:=@Zy;have Q7:=@Zu;have Zz:=@Y4;have Qi:=@Zw;have Kq:KaN:=⟨⟩;exact Pm
 ·rename_i h1 h3;exact Zx8 (by unfold X6;rw [show ((t.getD 0 n0).name==[])=false by rw [Za];exact h3];simp only [Bool.not_false,Bool.or_true,Bool.true_or])
 ·rename_i h1;exact Zx8 (by unfold X6;rw [show Jw 10000 (t.length:Int)=true by rw [Je];exact h1];simp only [Bool.or_true,Bool.true_or])):p:=h
theorem good_Right3:Jd Tryz.prog (85,T5):=by
 obtain ⟨Kx,Kt,Kc,Kd,Kb,Ku,Kw,K,Y0,Xr,eV,kB,_⟩:=Yc Qp Z0 [] false (Xu good_numbered3 N0.eq_def (Xu good_End3 Ei.eq_def (Xu good_shallow3 Mx.eq_def (Xu good_labelled3 N2.eq_def Yb))));have Ko:=T5.eq_def;refine Ve K Tryz.func85 [.tmp 2] rfl 59 rfl (fun c hc J0 Zo=>?_);unfold T5 at Zo;obtain ⟨⟨t⟩,rfl,ht,hN⟩:=Qs Zo;simp only at ht hN;cases hc;refine Ym 3 ?_;by_cases h0:t.length=0
 ·have Qz:((t.length:Int)==0)=true:=by simp [h0]
  have Jl:=@Zx;have Js:=@Zv;have Jk:=@Zy;have Q7:=@Zu;have Zz:=@Y4;have Qi:=@Zw;have Kq:KaK:=⟨⟩;exact Pm
 have Qz:((t.length:Int)==0)=false:=by rw [Za];omega
 have zW:0<t.length:=by omega
 have Zx8:X6 t=true→false=Ho t:=by
  intro h;unfold Ho;rw [h];rfl
 have Q2:=Qc n0 zW;have Jl:=@Zx;have Js:=@Zv;have Jk:=@Zy;have Q7:=@Zu;have Zz:=@Y4;have Qi:=@Zw;have Kq:KaL:=⟨⟩;exact Pm
open Go.Proofs Go.Rose Go.Rose.Rose
instance inhSl {α:Type}:Inhabited (Sl α):=⟨⟨[]⟩⟩
instance inhNode:Inhabited Node:=⟨n0⟩
def Ud (n:Node):Bool:=n.kind==6||n.kind==7
def P9:Con:=Xh (fun (_:Node)=>True) (fun n=>Ud n)
class KaQ:Prop
theorem KaQ.k (_:KaQ) (h:p:=by
 unfold Ud;repeat' first|exact Cg|with_reducible apply Z9|intro _
 all_goals simp_all):p:=h
theorem good_isRowT:Jd Tryz.prog (137,P9):=by
 obtain ⟨Kx,Kt,Kc,Kd,Kb,Ku,Kw,K,_⟩:=Yc Qp Z0 [] false Yb;have Ko:=P9.eq_def;refine Ve K Tryz.func137 [.tmp 2] rfl 11 rfl (fun c hc J0 Zo=>?_);unfold P9 at Zo;obtain ⟨n,rfl,-⟩:=Qs Zo;cases hc;have Qz:=@Zx;have Q2:=@Zv;have Qx:=@Zy;have Ql:=@Zu;have Q3:=@Y4;have Ji:=@Zw;have Kq:KaQ:=⟨⟩;exact Pm
def ar (n:Node):Nat:=if n.kind=5 then 2 else if n.kind=6∨n.kind=7 then n.n.toNat else 0
def Fk:Con:=Xh (fun (_:Node)=>True) (fun n=>(ar n:Int))
class KaR:Prop
theorem KaR.k (_:KaR) (h:p:=by
 unfold ar;repeat' first|exact Cg|with_reducible apply Z9|intro _
 ·rename_i h5;rw [if_pos h5];rfl
 ·rename_i h5 h6;rw [if_neg h5,if_pos (by simpa [Ud] using h6)]
  unfold Mt;split<;>omega
 ·rename_i h5 h6;rw [if_neg h5,if_neg (by simpa [Ud] using h6)];rfl):p:=h
theorem good_manyT:Jd Tryz.prog (136,Fk):=by
 obtain ⟨Kx,Kt,Kc,Kd,Kb,Ku,Kw,K,Y0,_⟩:=Yc Qp Z0 [] false (Xu good_isRowT P9.eq_def Yb);have Ko:=Fk.eq_def;refine Ve K Tryz.func136 [.tmp 2] rfl 13 rfl (fun c hc J0 Zo=>?_);unfold Fk at Zo;obtain ⟨n,rfl,-⟩:=Qs Zo;cases hc;have Qz:=@Zx;have Q2:=@Zv;have Qx:=@Zy;have Ql:=@Zu;have Q3:=@Y4;have Ji:=@Zw;have Kq:KaR:=⟨⟩;exact Pm
theorem Zho {n:Node} (h:0≤Yf n):(ar n:Int)=Yf n:=by
 unfold ar Yf at *;split
 ·rfl
 ·rename_i h5;rw [if_neg h5] at h;split
  ·rename_i h6;rw [if_pos h6] at h;omega
  ·rfl
def Whole (t:List Node) (i:Int):Prop:=0≤i→i<t.length→(Hw ar (t.drop i.toNat) 1).isSome=true
def P3:Nat→List (Rose Node)→List Int
 | _,[]=>[]
 | q,x::xs=>(q:Int)::P3 (q+(nds x).length) xs
theorem Te:∀ (q:Nat) (xs:List (Rose Node)),(P3 q xs).length=xs.length
 | _,[]=>rfl
 | q,x::xs=>by simp [P3,Te _ xs]
theorem bE:∀ (q:Nat) (xs:List (Rose Node)) (j:Nat),j<xs.length→(P3 q xs).getD j 0=((q+(ndss (xs.take j)).length:Nat):Int)
 | _,[],j,h=>by simp at h
 | q,x::xs,0,_=>by simp [P3,ndss]
 | q,x::xs,j+1,h=>by
  simp only [P3,List.getD_cons_succ,List.take_succ_cons,ndss,Zb];rw [bE _ xs j (by simpa using h)]
  congr 1
  omega
theorem Zhm {t:List Node}:∀ {xs:List (Rose Node)} {i j:Nat},Ss ar t i xs→∀ h:j<xs.length,At ar t (i+(ndss (xs.take j)).length) xs[j]
 | [],_,_,_,h=>by simp at h
 | x::xs,i,0,ha,_=>by simpa [ndss] using ha.head.1
 | x::xs,i,j+1,ha,h=>by
  have:=Zhm ha.head.2 (j:=j) (by simpa using h)
  simpa [ndss,Nat.add_assoc] using this
def Bb (l:List Node):Prop:=∀ n∈l,Va n=true
theorem Tc {n:Node} (h:Va n=true):Yf n=(ar n:Int):=(Zho (Pw h).1).symm
theorem uY:∀ {l:List Node} {o k:Nat},Bb l→1≤o→Hw ar l o=some k→qK l o=k
 | [],o+1,k,_,_,h=>by simp [Hw] at h
 | n::l,o+1,k,hn,_,h=>by
  rw [Hw,Option.map_eq_some_iff] at h;obtain ⟨k',h1,rfl⟩:=h;have hm:=Tc (hn n (by simp))
  have e:((o+1:Nat):Int)-1+Yf n=((o+ar n:Nat):Int):=by rw [hm];omega
  rw [qK,e];by_cases hz:o+ar n=0
  ·rw [if_pos (by omega)]
   rw [hz] at h1;cases l<;>(simp only [Hw,Zc] at h1;omega)
  ·rw [if_neg (by omega),uY (fun m hm=>hn m (List.mem_cons_of_mem _ hm)) (by omega) h1]
   omega
theorem Zcq {l:List Node} {i:Nat} (h:Bb l):Bb (l.drop i):=fun n hn=>h n (List.mem_of_mem_drop hn)
theorem yV {t:List Node} {i:Nat} {x:Rose Node} (hn:Bb t) (h:At ar t i x):qK (t.drop i) 1=(nds x).length:=uY (o:=1) (Zcq hn) (Zl _) (qH h)
theorem Zaz {t:List Node} {i:Nat} {x:Rose Node} (hn:Bb t) (h:At ar t i x):Ar t i=((i+(nds x).length:Nat):Int):=by
 unfold Ar;have:=h.lt;rw [if_neg (by omega),Zp,yV hn h]
 simp
theorem Ix {t:List Node} (hn:Bb t):∀ {ks:List (Rose Node)} {q:Nat},Ss ar t q ks→We t ks.length q=P3 q ks
 | [],_,_=>rfl
 | x::ks,q,h=>by
  have hx:=h.head;rw [Zd,We,if_pos hx.1.lt,yV hn hx.1,P3,Ix hn hx.2]
theorem tC {t:List Node} {i:Nat} {x:Rose Node} (hn:Bb t) (h:At ar t i x):Gi t i=P3 (i+1) x.kids:=by
 unfold Gi;have hl:=h.lt;have hk:=h.kids;have hm:=Tc (hn (t.getD i n0) (by simp [hl]))
 rw [if_neg (by omega)]
 simp only [Zp];rw [show (⟨0,[],0⟩:Node)=n0 from rfl,hm,h.root n0,Zp,←hk.2,Ix hn hk.1]
theorem eZ {t:List Node} (hn:Bb t):∀ {m q:Nat},(We t m q).length=m→(∀ j,q≤j→j<t.length→∃ z,At ar t j z)→q≤t.length→∃ ks:List (Rose Node),ks.length=m∧Ss ar t q ks
 | 0,q,_,_,hq=>⟨[],rfl,trivial,t.drop q,by simp [ndss]⟩
 | m+1,q,h,hz,hq=>by
  rw [We] at h;by_cases Qg:q<t.length
  ·rw [if_pos Qg] at h;obtain ⟨x,hx⟩:=hz q (Zl _) Qg;rw [yV hn hx] at h;obtain ⟨ks,h1,h2,r,h3⟩:=eZ hn (m:=m) (q:=q+(nds x).length) (by simpa using h) (fun j hj=>hz j (by omega)) hx.le
   obtain ⟨h4,r',h5⟩:=hx;refine ⟨x::ks,by simp [h1],⟨h4,h2⟩,r,?_⟩
   rw [←List.drop_drop,h5,List.drop_left'] at h3
   ·rw [h5,h3,ndss,List.append_assoc]
   ·rfl
  ·rw [if_neg Qg] at h;simp at h
theorem Rg {t:List Node} (hn:Bb t) (h:∀ i,i<t.length→((Gi t i).length:Int)=Yf (t.getD i n0)):∀ (m i:Nat),t.length-i≤m→i<t.length→∃ z,At ar t i z
 | 0,i,hm,hi=>by omega
 | m+1,i,hm,hi=>by
  have h1:=h i hi;have Qcw:=Tc (hn (t.getD i n0) (by simp [hi]))
  unfold Gi at h1;rw [if_neg (by omega)] at h1
  simp only [Zp] at h1;rw [show (⟨0,[],0⟩:Node)=n0 from rfl,Qcw,Zp] at h1;obtain ⟨ks,k1,k2,r,k3⟩:=eZ hn (m:=ar (t.getD i n0)) (q:=i+1) (by omega) (fun j hj Ra=>Rg hn h m j (by omega) Ra) (by omega)
  refine ⟨mk (t.getD i n0) ks,⟨k1,k2⟩,r,?_⟩;rw [List.drop_eq_getElem_cons hi,k3,Jt];simp [hi]
def P8 (r d:Nat):Bool:=decide (r+d≤100)
theorem Lq {r d:Nat} (h:r+d≤100):P8 r d=true:=decide_eq_true h
theorem Ml {r d:Nat} (h:¬ r+d≤100):P8 r d=false:=decide_eq_false h
theorem Za4 {r d r' d':Nat} (h:r+d=r'+d'):P8 r d=P8 r' d':=by unfold P8;rw [h]
mutual
theorem shal_tree:∀ (x:Rose Node) (l:List Node) (rs:List Int),wf ar x→Bb (nds x)→eH (nds x++l) rs=(P8 rs.length (depth x)&&eH l (Bi 0 rs))
 | mk n ks,l,rs,hw,hn=>by
  have hm:=Tc (hn n (by simp [nds]))
  rw [Jt,List.cons_append,eH,hm,←hw.1];cases ks with
  | nil =>
   have hd:depth (mk n [])=1:=by simp [depth,depths]
   rw [hd];simp only [ndss,List.nil_append,List.length_nil];by_cases h:100≤rs.length
   ·rw [if_pos h,Ml (by omega)];rfl
   ·rw [if_neg h,Lq (by omega)];rfl
  | cons y ys =>
   have hd:depth (mk n (y::ys))=1+depths (y::ys):=by rw [depth]
   rw [hd,Pd (by simp only [Zd];omega),shal_forest (y::ys) l rs (by simp) hw.2 (fun m hm=>hn m (by rw [Jt];exact List.mem_cons_of_mem _ hm))]
   by_cases h:100≤rs.length
   ·rw [if_pos h,Ml (by omega)];rfl
   ·rw [if_neg h]
theorem shal_forest:∀ (xs:List (Rose Node)) (l:List Node) (rs:List Int),xs≠[]→wfs ar xs→Bb (ndss xs)→eH (ndss xs++l) ((xs.length:Int)::rs)=(P8 rs.length (1+depths xs)&&eH l (Bi 0 rs))
 | [],_,_,h,_,_=>absurd rfl h
 | x::ts,l,rs,_,hw,hn=>by
  have h0:=shal_tree x;cases ts with
  | nil =>
   simp only [ndss,List.append_nil] at hn ⊢;have hd:depths [x]=depth x:=by simp [depths]
   rw [h0 l _ hw.1 hn,hd];simp only [Zd,List.length_nil];rw [Za4 (r:=rs.length+1) (d:=depth x) (r':=rs.length) (d':=1+depth x) (by omega)]
   rfl
  | cons y ts =>
   have h2:=shal_forest (y::ts) l rs (by simp) hw.2 (fun m hm=>hn m (by rw [ndss];exact List.mem_append_right _ hm))
   rw [ndss,List.append_assoc,h0 _ _ hw.1 (fun m hm=>hn m (by rw [ndss];exact List.mem_append_left _ hm))]
   have e:Bi 0 ((((x::y::ts).length:Nat):Int)::rs)=(((y::ts).length:Nat):Int)::rs:=by
    rw [Bi,if_pos rfl,show (((x::y::ts).length:Nat):Int)-1=(((y::ts).length:Nat):Int) by simp only [Zd];omega,Pd (by simp only [Zd];omega)]
   have hd:depths (x::y::ts)=max (depth x) (depths (y::ts)):=by rw [depths]
   rw [e,h2,hd];simp only [Zd];by_cases h1:rs.length+1+depth x≤100
   ·rw [Lq h1,Bool.true_and];by_cases h2:rs.length+(1+depths (y::ts))≤100
    ·rw [Lq h2,Lq (r:=rs.length) (d:=1+max (depth x) (depths (y::ts))) (by omega)]
    ·rw [Ml h2,Ml (r:=rs.length) (d:=1+max (depth x) (depths (y::ts))) (by omega)]
   ·rw [Ml h1,Ml (r:=rs.length) (d:=1+max (depth x) (depths (y::ts))) (by omega)]
    rfl
end
theorem Rk {x:Rose Node} (hw:wf ar x) (hn:Bb (nds x)):Pr (nds x)=P8 0 (depth x):=by
 have:=shal_tree x [] [] hw hn;simp only [List.append_nil,List.length_nil] at this;unfold Pr;rw [this,eH];simp
def Zgg (n:Node) (ks:List (Rose Node)):Bool:=(List.range ks.length).all fun k=>labK n (ks.getD k (mk n0 [])).root (ks.getD (k-1) (mk n0 [])).root (Jw 0 k) ((k:Int)==(ks.length:Int)-1)
mutual
def labT:Rose Node→Bool
 | mk n ks=>Zgg n ks&&labTs ks
def labTs:List (Rose Node)→Bool
 | []=>true
 | x::xs=>labT x&&labTs xs
end
theorem Zje {t:List Node} {i:Nat} {x:Rose Node} (hn:Bb t) (h:At ar t i x):D3 t i=Zgg x.root x.kids:=by
 have hk:=h.kids;have hl:=h.lt;have hm:=Tc (hn (t.getD i n0) (by simp [hl]))
 have hr:=h.root n0;unfold D3;rw [tC hn h,Te,hr];rw [hr] at hm;rw [hm,hk.2];rw [show ((ar x.root:Int)==(ar x.root:Int))=true by simp,Bool.true_and]
 unfold Zgg;rw [hk.2];apply Bool.eq_iff_iff.2;simp only [List.all_eq_true,List.mem_range];have key:∀ k,k<x.kids.length→Sd t (P3 (i+1) x.kids) k=(x.kids.getD k (mk n0 [])).root:=by
  intro k hk';unfold Sd;rw [bE _ _ k hk',Zp];have:=(Zhm hk.1 hk').root n0;rw [this];simp [hk']
 have e:∀ k,k<ar x.root→Rp t i (P3 (i+1) x.kids) k=labK x.root (x.kids.getD k (mk n0 [])).root (x.kids.getD (k-1) (mk n0 [])).root (Jw 0 k) ((k:Int)==(ar x.root:Int)-1):=by
  intro k hk';unfold Rp;rw [hr,key k (by omega),key (k-1) (by omega),Te,hk.2]
 constructor
 ·intro g k hk';rw [←e k hk'];exact g k hk'
 ·intro g k hk';rw [e k hk'];exact g k hk'
mutual
theorem labT_at {t:List Node} (hn:Bb t):∀ {x:Rose Node} {i:Nat},At ar t i x→(labT x=true↔∀ j,i≤j→j<i+(nds x).length→D3 t j=true)
 | mk n ks,i,h=>by
  have h1:=Zje hn h;have hk:Ss ar t (i+1) ks:=h.kids.1;rw [labT,Zg,labTs_at hn hk,Jt,Zd];simp only [root,kids] at h1 ⊢;constructor
  ·rintro ⟨g1,g2⟩ j A0 lH;by_cases V8:j=i
   ·subst V8;rw [h1];exact g1
   ·exact g2 j (by omega) (by omega)
  ·intro g;exact ⟨by rw [←h1];exact g i (Zl _) (by omega),fun j A0 lH=>g j (by omega) (by omega)⟩
theorem labTs_at {t:List Node} (hn:Bb t):∀ {xs:List (Rose Node)} {i:Nat},Ss ar t i xs→(labTs xs=true↔∀ j,i≤j→j<i+(ndss xs).length→D3 t j=true)
 | [],i,_=>by simp only [labTs,ndss,List.length_nil,true_iff];intro j h1 h2;omega
 | x::xs,i,h=>by
  rw [labTs,Zg,labT_at hn h.head.1,labTs_at hn h.head.2];simp only [ndss,Zb];constructor
  ·rintro ⟨g1,g2⟩ j A0 lH;rcases Nat.lt_or_ge j (i+(nds x).length) with Qg|Pj
   ·exact g1 j A0 Qg
   ·exact g2 j Pj (by omega)
  ·intro g;exact ⟨fun j A0 lH=>g j A0 (by omega),fun j A0 lH=>g j (by omega) (by omega)⟩
end
structure RT (x:Rose Node):Prop where
 wf:wf ar x
 numb:Bb (nds x)
 depth:depth x≤100
 lab:labT x=true
 name:x.root.name=[]
 kind:x.root.kind≠9
 len:(nds x).length≤10000
theorem Zce {x:Rose Node} (h:RT x):Ho (nds x)=true:=by
 have ha:=Yz h.wf;have hp:=Ta x;have hr:=ha.root n0;unfold Ho;have h1:X6 (nds x)=false:=by
  unfold X6;rw [hr,h.name];have e1:((nds x).length==0)=false:=by rw [Za];omega
  have e2:Jw 10000 ((nds x).length:Int)=false:=by rw [Jj];have:=h.len;omega
  have e3:(x.root.kind==9)=false:=by rw [Za];exact h.kind
  rw [e1,e2,e3];rfl
 have h2:(nds x).all Va=true:=List.all_eq_true.2 h.numb;have h3:Ar (nds x) 0=((nds x).length:Int):=by have:=Zaz h.numb ha;simpa using this
 have h4:Pr (nds x)=true:=by rw [Rk h.wf h.numb];exact Lq (by have:=h.depth;omega)
 have h5:((List.range (nds x).length).all fun i=>D3 (nds x) i)=true:=Hp fun j hj=>(labT_at h.numb ha).1 h.lab j (Nat.zero_le _) (by omega)
 rw [h1,h2,h3,h4,h5];simp
theorem Ie {t:List Node} (h:Ho t=true):∃ x,t=nds x∧RT x:=by
 unfold Ho at h;simp only [Zg,Bool.not_eq_true',Zi] at h;obtain ⟨h1,h2,⟨h3,h4⟩,h5⟩:=h;unfold X6 at h1;simp only [Bool.or_eq_false_iff,Za,Bool.not_eq_false',Zi,Jj] at h1;obtain ⟨⟨⟨g1,g2⟩,g3⟩,g4⟩:=h1;have hn:Bb t:=List.all_eq_true.1 h2;have hl:∀ i,i<t.length→D3 t i=true:=fun i hi=>List.all_eq_true.1 h5 i (List.mem_range.2 hi);have hk:∀ i,i<t.length→((Gi t i).length:Int)=Yf (t.getD i n0):=by
  intro i hi;have:=hl i hi;unfold D3 at this;rw [Zg,Zi] at this;exact this.1
 obtain ⟨x,hx⟩:=Rg hn hk t.length 0 (by omega) (by omega)
 have he:=Zaz hn hx;have he':Ar t 0=((0+(nds x).length:Nat):Int):=he;rw [h3] at he';obtain ⟨hw,r,hr⟩:=id hx;have Zxq:t=nds x:=by
  rw [List.drop_zero] at hr;have:=congrArg List.length hr;rw [Zb] at this;have Zym:r=[]:=List.length_eq_zero_iff.1 (by omega)
  rw [hr,Zym,List.append_nil]
 have Eo:=hx.root n0;subst Zxq;refine ⟨x,rfl,⟨hw,hn,?_,(labT_at hn hx).2 fun j _ hj=>hl j (by omega),by rw [←Eo];exact g3,by rw [←Eo];exact g4,by omega⟩⟩
 rw [Rk hw hn] at h4;have:=of_decide_eq_true h4;omega
def Qg4:List Node→List Node
 | []=>[]
 | n::r=>⟨n.kind,[],n.n⟩::r
def n5:Node:=⟨5,[],0⟩
def Ry {A R S:Type} [Enc A] [Enc R] [Enc S] (p:A→Prop) (f:A→R×S):Con:=⟨[false],[false,false],fun c=>match c with
 | [.d x]=>C5 A x∧p (dec x)
 | _=>False,fun c=>match c with
 | [.d x]=>.tup [.d (enc (f (dec x)).1),.d (enc (f (dec x)).2)]
 | _=>.d .nilp⟩
theorem Zdu {A R S:Type} [Enc A] [Enc R] [Enc S] {p:A→Prop} {f:A→R×S} {c:List CV} (h:(Ry p f).pre c):∃ a,c=[.d (enc a)]∧p a:=by
 unfold Ry at h;simp only at h;split at h
 ·next x=>exact ⟨dec x,by rw [←h.1],h.2⟩
 ·exact h.elim
def parts (ks:List (Rose Node)):List (Sl Node):=ks.map fun k=>Sl.mk (Qg4 (nds k))
structure Fn0 (f:Nat) where
instance encFn0 (f:Nat):Enc (Fn0 f):=⟨fun _=>.clo f [],fun _=>⟨⟩,fun _=>rfl⟩
theorem Nz {f:Nat} {a:Fn0 f}:(enc a:D)=.clo f []:=rfl
theorem Ny {f:Nat}:C5 (Fn0 f) (.clo f [])=True:=eq_true rfl
def sY (x y:Node):Bool:=Gz x==Gz y
def Fp:Con:=Vx (fun (_ _:Node)=>True) sY
class KaS:Prop
theorem KaS.k (_:KaS) (h:p:=by
 repeat' first|exact Cg|with_reducible apply Z9|intro _
 all_goals
  unfold sY;rw [Bool.eq_iff_iff];simp only [Zi];unfold Gz;obtain ⟨xk,xn,xm⟩:=x;obtain ⟨yk,yn,ym⟩:=y;simp only at *;repeat' split
  all_goals
   first|(simp only [Node.mk.injEq];done)|(simp only [Node.mk.injEq];constructor<;>(intro h;simp_all))):p:=h
theorem good_SameN:Jd Tryz.prog (62,Fp):=by
 obtain ⟨Kx,Kt,Kc,Kd,Kb,Ku,Kw,K,_⟩:=Yc Qp Z0 [] false Yb;have Ko:=Fp.eq_def;refine Ve K Tryz.func62 [.tmp 4] rfl 21 rfl (fun c hc J0 Zo=>?_);unfold Fp at Zo;obtain ⟨x,y,rfl,-⟩:=Jh Zo;cases hc;have Qz:=@Zx;have Q2:=@Zv;have Qx:=@Zy;have Ql:=@Zu;have Q3:=@Y4;have Ji:=@Zw;have Kq:KaS:=⟨⟩;exact Pm
def Hy:Con:=Ba (fun (a b:Sl Node) (_:Fn0 62)=>a.l.length≤9223372036854775807∧b.l.length≤9223372036854775807) (fun a b _=>Mo a.l b.l)
class KaU:Prop
theorem KaU.k (_:KaU) (h:p:=by
 first|exact ⟨k+1,by exact Xa,by omega,Wi,by omega⟩):p:=h
class KaV:Prop
theorem KaV.k (_:KaV) (h:p:=by
 symm;unfold Mo;rw [Zi];refine List.ext_getElem (by simp [Z8]) fun j h1 h2=>?_
 rw [Qn] at h1 h2;have:=Y3 j (by omega)
 simpa [h1,h2] using this):p:=h
class KaT:Prop
theorem KaT.k (_:KaT) (h:p:=by
 refine ⟨fun Hk=>?_,fun kI=>?_⟩
 ·symm;unfold Mo;rw [Za];intro h;have:=congrArg List.length h;rw [Qn,Qn] at this;exact Hk (by rw [this])
 have Z8:a.length=b.length:=by omega
 refine Z4 [6,7,8,9,18,19,20,21,22,23,24,25,26,27,28,29,30,31] (fun k:Nat=>[(17,.d (.int .i64 k))]) (fun k:Nat=>[]) (fun k:Nat=>k≤a.length∧∀ j,j<k→Gz (a.getD j ⟨0,[],0⟩)=Gz (b.getD j ⟨0,[],0⟩)) (fun k:Nat=>a.length-k) 0 ?_ ?_ ?_
 ·simp
 ·exact Xa
 rintro k ⟨hk,Y3⟩;rcases Qh k a.length with ⟨Qg,Qz⟩|⟨Qg,Qz⟩
 ·have Q2:=Qc (⟨0,[],0⟩:Node) Qg;have Qx:=Qc (⟨0,[],0⟩:Node) (show k<b.length by omega)
  cases Ql:sY (a.getD k ⟨0,[],0⟩) (b.getD k ⟨0,[],0⟩) with
  | false =>
   have Xi:false=Mo a b:=by
    symm;unfold Mo;rw [Za];intro e;unfold sY at Ql;rw [Za] at Ql;apply Ql;have h1:(a.map Gz).getD k ⟨0,[],0⟩=(b.map Gz).getD k ⟨0,[],0⟩:=by rw [e]
    simpa [Qg,show k<b.length by omega] using h1
   have Q3:=@Nz;have Ji:=@Zx;have Jl:=@Zv;have Js:=@Zy;have Jk:=@Zu;have Q7:=@Y4;have Zz:=@Zw;exact Zcd
  | true =>
   have Wi:∀ j,j<k+1→Gz (a.getD j ⟨0,[],0⟩)=Gz (b.getD j ⟨0,[],0⟩):=by
    intro j hj;unfold sY at Ql;rw [Zi] at Ql;by_cases aC:j=k
    ·subst aC;exact Ql
    ·exact Y3 j (by omega)
   have Q3:=@Nz;have Ji:=@Zx;have Jl:=@Zv;have Js:=@Zy;have Jk:=@Zu;have Q7:=@Y4;have Zz:=@Zw;have Kq:KaU:=⟨⟩;exact Cs
 ·have Q3:=@Zx;have Ji:=@Zv;have Jl:=@Zy;have Js:=@Zu;have Jk:=@Y4;have Q7:=@Zw;have Kq:KaV:=⟨⟩;exact Pm):p:=h
theorem good_equalNodes:Jd Tryz.prog (61,Hy):=by
 obtain ⟨Kx,Kt,Kc,Kd,Kb,Ku,Kw,K,Y0,_⟩:=Yc Qp Z0 [] false (Xu good_SameN Fp.eq_def Yb);have Ko:=Hy.eq_def;refine Ve K Tryz.func61 [.tmp 6] rfl 32 rfl (fun c hc J0 Zo=>?_);unfold Hy at Zo;obtain ⟨⟨a⟩,⟨b⟩,f,rfl,ha,hb⟩:=So Zo;simp only at ha hb;cases hc;refine Ym 2 ?_;have Q3:=@Nz;have Ji:=@Zx;have Jl:=@Zv;have Js:=@Zy;have Jk:=@Zu;have Q7:=@Y4;have Zz:=@Zw;have Kq:KaT:=⟨⟩;exact Pm
def Fo:Con:=Vx (fun (a b:Sl Node)=>a.l.length≤9223372036854775807∧b.l.length≤9223372036854775807) (fun a b=>Mo a.l b.l)
theorem xR:Jd Tryz.prog (37,Fo):=by
 obtain ⟨Kx,Kt,Kc,Kd,Kb,Ku,Kw,K,Y0,_⟩:=Yc Qp Z0 [] false (Xu good_equalNodes Hy.eq_def Yb);have Ko:=Fo.eq_def;refine Ve K Tryz.func37 [.tmp 4] rfl 8 rfl (fun c hc J0 Zo=>?_);unfold Fo at Zo;obtain ⟨⟨a⟩,⟨b⟩,rfl,ha,hb⟩:=Jh Zo;simp only at ha hb;cases hc;have Qz:=@Ny;have Q2:=@Zx;have Qx:=@Zv;have Ql:=@Zy;have Q3:=@Zu;have Ji:=@Y4;have Jl:=@Zw;exact Zcd
def I6 {α:Type} (p:α→Bool) (l:List α):Int:=match l.findIdx? p with
 | some i=>(i:Int)
 | none=>-1
theorem pR {α:Type} {p:α→Bool} {l:List α} {k:Nat} (d:α) (hk:k<l.length) (Y3:∀ j,j<k→p (l.getD j d)=false) (hp:p (l.getD k d)=true):I6 p l=k:=by
 have h:l.findIdx? p=some k:=by
  rw [List.findIdx?_eq_some_iff_getElem];refine ⟨hk,by simpa [hk] using hp,fun j hj=>?_⟩
  have:=Y3 j hj;simpa [show j<l.length by omega] using this
 unfold I6;rw [h]
theorem bH {α:Type} {p:α→Bool} {l:List α} (d:α) (Y3:∀ j,j<l.length→p (l.getD j d)=false):I6 p l=-1:=by
 have h:l.findIdx? p=none:=by
  rw [List.findIdx?_eq_none_iff];intro x hx;obtain ⟨j,hj,rfl⟩:=List.getElem_of_mem hx;have:=Y3 j hj;simpa [hj] using this
 unfold I6;rw [h]
theorem iT {α:Type} {p:α→Bool} {l:List α}:Xn 0 (I6 p l)=l.any p:=by
 unfold I6;cases h:l.findIdx? p with
 | none =>
  rw [List.findIdx?_eq_none_iff] at h;have:l.any p=false:=by rw [List.any_eq_false];intro x hx;rw [h x hx];simp
  rw [this];rfl
 | some i =>
  rw [List.findIdx?_eq_some_iff_getElem] at h;obtain ⟨hi,hp,_⟩:=h;have:l.any p=true:=by rw [List.any_eq_true];exact ⟨_,List.getElem_mem hi,hp⟩
  rw [this];simp [Xn]
def Zjh (v:Int) (x:Int):Bool:=v==x
def M2:Con:=Vx (fun (l:Sl Int) (_:Int)=>l.l.length≤9223372036854775807) (fun l v=>I6 (Zjh v) l.l)
class KaX:Prop
theorem KaX.k (_:KaX) (h:p:=by
 refine ⟨k+1,by exact Xa,by omega,fun j hj=>?_,by omega⟩
 by_cases aC:j=k
 ·subst aC;exact hs
 ·exact Y3 j (by omega)):p:=h
class KaW:Prop
theorem KaW.k (_:KaW) (h:p:=by
 refine Z4 [4,5,9,10,11,12,13,14,15,16,17,18] (fun k:Nat=>[(8,.d (.int .i64 k))]) (fun k:Nat=>[]) (fun k:Nat=>k≤l.length∧∀ j,j<k→Zjh v (l.getD j 0)=false) (fun k:Nat=>l.length-k) 0 ?_ ?_ ?_
 ·simp
 ·exact Xa
 rintro k ⟨hk,Y3⟩;rcases Qh k l.length with ⟨Qg,Qz⟩|⟨Qg,Qz⟩
 ·have Q2:=Qc (0:Int) Qg;cases hs:Zjh v (l.getD k 0) with
  | false =>
   have Qx:(v==l.getD k 0)=false:=hs;have Q3:=@Zx;have Ji:=@Zv;have Jl:=@Zy;have Js:=@Zu;have Jk:=@Y4;have Q7:=@Zw;have Kq:KaX:=⟨⟩;exact Cs
  | true =>
   have Qx:(v==l.getD k 0)=true:=hs;have Ql:=pR 0 Qg Y3 hs;have Q3:=@Zx;have Ji:=@Zv;have Jl:=@Zy;have Js:=@Zu;have Jk:=@Y4;have Q7:=@Zw;exact Zcd
 ·have Ql:=bH (p:=Zjh v) (l:=l) 0 (fun j hj=>Y3 j (by omega))
  have Q3:=@Zx;have Ji:=@Zv;have Jl:=@Zy;have Js:=@Zu;have Jk:=@Y4;have Q7:=@Zw;exact Zix):p:=h
theorem good_indexInt:Jd Tryz.prog (172,M2):=by
 obtain ⟨Kx,Kt,Kc,Kd,Kb,Ku,Kw,K,_⟩:=Yc Qp Z0 [] false Yb;have Ko:=M2.eq_def;refine Ve K Tryz.func172 [.tmp 4] rfl 19 rfl (fun c hc J0 Zo=>?_);unfold M2 at Zo;obtain ⟨⟨l⟩,v,rfl,hl⟩:=Jh Zo;simp only at hl;cases hc;have Q3:=@Zx;have Ji:=@Zv;have Jl:=@Zy;have Js:=@Zu;have Jk:=@Y4;have Q7:=@Zw;have Kq:KaW:=⟨⟩;exact Pm
def Gv:Con:=Vx (fun (l:Sl Int) (_:Int)=>l.l.length≤9223372036854775807) (fun l v=>l.l.any (Zjh v))
theorem bN:Jd Tryz.prog (160,Gv):=by
 obtain ⟨Kx,Kt,Kc,Kd,Kb,Ku,Kw,K,Y0,_⟩:=Yc Qp Z0 [] false (Xu good_indexInt M2.eq_def Yb);have Ko:=Gv.eq_def;refine Ve K Tryz.func160 [.tmp 4] rfl 9 rfl (fun c hc J0 Zo=>?_);unfold Gv at Zo;obtain ⟨⟨l⟩,v,rfl,hl⟩:=Jh Zo;simp only at hl;have Qz:=iT (p:=Zjh v) (l:=l);cases hc;have Q2:=@Zx;have Qx:=@Zv;have Ql:=@Zy;have Q3:=@Zu;have Ji:=@Y4;have Jl:=@Zw;exact Zcd
structure PI where
 l:List Int
instance encPI:Enc PI:=⟨fun p=>.ptr 1 (.list 1 (p.l.map enc)),fun x=>match x with
 | .ptr _ y=>⟨y.l.map dec⟩
 | _=>⟨[]⟩,fun p=>by
  have h:∀ l:List Int,(l.map (enc:Int→D)).map dec=l:=fun l=>Vd;obtain ⟨l⟩:=p;simp [D.l,h]⟩
theorem Zwk {l:List Int}:(enc (PI.mk l):D)=.ptr 1 (.list 1 (l.map enc)):=rfl
theorem Zxi {l:List Int}:(PI.mk l).l=l:=rfl
theorem yB {l:List Int}:(dec (.ptr 1 (.list 1 (l.map enc))):PI)=⟨l⟩:=Enc.dec_enc (PI.mk l)
theorem Zgn {l:List Int}:C5 PI (.ptr 1 (.list 1 (l.map enc)))=True:=eq_true (Ue (PI.mk l))
structure NoneF where
 l:List Int
instance encNoneF:Enc NoneF:=⟨fun p=>.clo 159 [.ptr 1 (.list 1 (p.l.map enc))],fun x=>match x with
 | .clo _ [.ptr _ y]=>⟨y.l.map dec⟩
 | _=>⟨[]⟩,fun p=>by
  have h:∀ l:List Int,(l.map (enc:Int→D)).map dec=l:=fun l=>Vd;obtain ⟨l⟩:=p;simp [D.l,h]⟩
theorem Fc {l:List Int}:(enc (NoneF.mk l):D)=.clo 159 [.ptr 1 (.list 1 (l.map enc))]:=rfl
theorem fM {l:List Int}:(NoneF.mk l).l=l:=rfl
theorem bU {l:List Int}:(dec (.clo 159 [.ptr 1 (.list 1 (l.map enc))]):NoneF)=⟨l⟩:=Enc.dec_enc (NoneF.mk l)
theorem Zc7 {l:List Int}:C5 NoneF (.clo 159 [.ptr 1 (.list 1 (l.map enc))])=True:=eq_true (Ue (NoneF.mk l))
theorem Zdr {l:List Int}:(dec (.clo 159 [.ptr 1 (enc (Sl.mk l))]):NoneF)=⟨l⟩:=Enc.dec_enc (NoneF.mk l)
theorem Zc6 {l:List Int}:C5 NoneF (.clo 159 [.ptr 1 (enc (Sl.mk l))])=True:=eq_true (Ue (NoneF.mk l))
def Pv (l:List Int) (n:Node):Bool:=l.any (Zjh n.kind)
def Fi:Con:=Vx (fun (_:Node) (p:PI)=>p.l.length≤1000000) (fun n p=>Pv p.l n)
theorem xL:Jd Tryz.prog (159,Fi):=by
 obtain ⟨Kx,Kt,Kc,Kd,Kb,Ku,Kw,K,Y0,_⟩:=Yc Qp Z0 [] false (Xu bN Gv.eq_def Yb);have Ko:=Fi.eq_def;refine Ve K Tryz.func159 [.tmp 3] rfl 8 rfl (fun c hc J0 Zo=>?_);unfold Fi at Zo;obtain ⟨n,⟨l⟩,rfl,hl⟩:=Jh Zo;simp only at hl;have Qz:Pv l n=l.any (Zjh n.kind):=rfl;cases hc;have Q2:=@Zwk;have Qx:=@yB;have Ql:=@Zxi;have Q3:=@Zx;have Ji:=@Zv;have Jl:=@Zy;have Js:=@Zu;have Jk:=@Y4;have Q7:=@Zw;exact Zcd
def N3:Con:=Vx (fun (l:Sl Node) (f:NoneF)=>l.l.length≤9223372036854775807∧f.l.length≤1000000) (fun l f=>I6 (Pv f.l) l.l)
class KaZ:Prop
theorem KaZ.k (_:KaZ) (h:p:=by
 refine ⟨k+1,by exact Xa,by omega,fun j hj=>?_,by omega⟩
 by_cases aC:j=k
 ·subst aC;exact Qx
 ·exact Y3 j (by omega)):p:=h
class KaY:Prop
theorem KaY.k (_:KaY) (h:p:=by
 refine Z4 [4,5,9,10,11,12,13,14,15,16,17,18] (fun k:Nat=>[(8,.d (.int .i64 k))]) (fun k:Nat=>[]) (fun k:Nat=>k≤l.length∧∀ j,j<k→Pv v (l.getD j ⟨0,[],0⟩)=false) (fun k:Nat=>l.length-k) 0 ?_ ?_ ?_
 ·simp
 ·exact Xa
 rintro k ⟨hk,Y3⟩;rcases Qh k l.length with ⟨Qg,Qz⟩|⟨Qg,Qz⟩
 ·have Q2:=Qc (⟨0,[],0⟩:Node) Qg;cases Qx:Pv v (l.getD k ⟨0,[],0⟩) with
  | false =>
   have Q3:=@Fc;have Ji:=@yB;have Jl:=@Zgn;have Js:=@Zxi;have Jk:=@Zx;have Q7:=@Zv;have Zz:=@Zy;have Qi:=@Zu;have Qo:=@Y4;have Qt:=@Zw;have Kq:KaZ:=⟨⟩;exact Cs
  | true =>
   have Ql:=pR ⟨0,[],0⟩ Qg Y3 Qx;have Q3:=@Fc;have Ji:=@bU;have Jl:=@yB;have Js:=@Zgn;have Jk:=@Zxi;have Q7:=@fM;have Zz:=@Zx;have Qi:=@Zv;have Qo:=@Zy;have Qt:=@Zu;have Qq:=@Y4;have Qe:=@Zw;exact Zcd
 ·have Ql:=bH (p:=Pv v) (l:=l) ⟨0,[],0⟩ (fun j hj=>Y3 j (by omega))
  have Q3:=@bU;have Ji:=@fM;have Jl:=@Zx;have Js:=@Zv;have Jk:=@Zy;have Q7:=@Zu;have Zz:=@Y4;have Qi:=@Zw;exact Zix):p:=h
theorem good_indexNode:Jd Tryz.prog (171,N3):=by
 obtain ⟨Kx,Kt,Kc,Kd,Kb,Ku,Kw,K,Y0,_⟩:=Yc Qp Z0 [] false (Xu xL Fi.eq_def Yb);have Ko:=N3.eq_def;refine Ve K Tryz.func171 [.tmp 4] rfl 19 rfl (fun c hc J0 Zo=>?_);unfold N3 at Zo;obtain ⟨⟨l⟩,⟨v⟩,rfl,hl,hv⟩:=Jh Zo;simp only at hl hv;cases hc;have Q3:=@Fc;have Ji:=@Zx;have Jl:=@Zv;have Js:=@Zy;have Jk:=@Zu;have Q7:=@Y4;have Zz:=@Zw;have Kq:KaY:=⟨⟩;exact Pm
def K3:Con:=Vx (fun (l:Sl Node) (f:NoneF)=>l.l.length≤9223372036854775807∧f.l.length≤1000000) (fun l f=>l.l.any (Pv f.l))
theorem Oc:Jd Tryz.prog (158,K3):=by
 obtain ⟨Kx,Kt,Kc,Kd,Kb,Ku,Kw,K,Y0,_⟩:=Yc Qp Z0 [] false (Xu good_indexNode N3.eq_def Yb);have Ko:=K3.eq_def;refine Ve K Tryz.func158 [.tmp 4] rfl 9 rfl (fun c hc J0 Zo=>?_);unfold K3 at Zo;obtain ⟨⟨l⟩,⟨v⟩,rfl,hl,hv⟩:=Jh Zo;simp only at hl hv;have Qz:=iT (p:=Pv v) (l:=l);cases hc;have Q2:=@Fc;have Qx:=@bU;have Ql:=@Zc7;have Q3:=@fM;have Ji:=@Zx;have Jl:=@Zv;have Js:=@Zy;have Jk:=@Zu;have Q7:=@Y4;have Zz:=@Zw;exact Zcd
def Fh:Con:=Vx (fun (l:Sl Node) (f:Sl Int)=>l.l.length≤9223372036854775807∧f.l.length≤1000000) (fun l f=>!l.l.any (Pv f.l))
theorem xI:Jd Tryz.prog (139,Fh):=by
 obtain ⟨Kx,Kt,Kc,Kd,Kb,Ku,Kw,K,Y0,_⟩:=Yc Qp Z0 [] false (Xu Oc K3.eq_def Yb);have Ko:=Fh.eq_def;refine Ve K Tryz.func139 [.tmp 4] rfl 9 rfl (fun c hc J0 Zo=>?_);unfold Fh at Zo;obtain ⟨⟨l⟩,⟨v⟩,rfl,hl,hv⟩:=Jh Zo;simp only at hl hv;cases hc;have Qz:=@Zdr;have Q2:=@Zc6;have Qx:=@fM;have Ql:=@Zx;have Q3:=@Zv;have Ji:=@Zy;have Jl:=@Zu;have Js:=@Y4;have Jk:=@Zw;exact Zcd
theorem wR (t:List Node):(!t.any (Pv [8,9]))=Dy t:=by
 unfold Dy;rw [List.not_any_eq_all_not]
 congr 1
 funext n
 simp [Pv,Zjh,bne]
def Cb:Con:=Xh (fun (t:Sl Node)=>t.l.length≤9223372036854775807) (fun t=>Dy t.l)
theorem tP:Jd Tryz.prog (100,Cb):=by
 obtain ⟨Kx,Kt,Kc,Kd,Kb,Ku,Kw,K,Y0,_⟩:=Yc Qp Z0 [] false (Xu xI Fh.eq_def Yb);have Ko:=Cb.eq_def;refine Ve K Tryz.func100 [.tmp 2] rfl 6 rfl (fun c hc J0 Zo=>?_);unfold Cb at Zo;obtain ⟨⟨t⟩,rfl,ht⟩:=Qs Zo;simp only at ht;have Qz:=wR t;cases hc;have Q2:=@Zx;have Qx:=@Zv;have Ql:=@Zy;have Q3:=@Zu;have Ji:=@Y4;have Jl:=@Zw;exact Zcd
def Nl (r:Int):Bool:=Xn 97 r&&Xn r 122
def Nr (r:Int):Bool:=Xn 65 r&&Xn r 90
def M6 (r:Int):Bool:=Nl r||(Nr r||((Xn 48 r&&Xn r 57)||r==95))
theorem Rz (r:Int) (W:World):Calls Tryz.prog 82 #[.int .i32 r] W fun e W'=>e=.returned (.bool (Nl r))∧Go.RowKit.Below W.heap.size W W':=by
 go_enter Tryz.func82,Tryz.ntmps82
 go_wp2
 all_goals go_ret
 all_goals refine ⟨?_,Go.RowKit.Below.refl _ _⟩
 all_goals refine congrArg Ending.returned ?_
 all_goals show Value.bool _=Value.bool _
 all_goals refine congrArg Value.bool ?_
 all_goals rw [Bool.eq_iff_iff]
 all_goals simp [Nl,Xn]
 all_goals omega
theorem R0 (r:Int) (W:World):Calls Tryz.prog 81 #[.int .i32 r] W fun e W'=>e=.returned (.bool (Nr r))∧Go.RowKit.Below W.heap.size W W':=by
 go_enter Tryz.func81,Tryz.ntmps81
 go_wp2
 all_goals go_ret
 all_goals refine ⟨?_,Go.RowKit.Below.refl _ _⟩
 all_goals refine congrArg Ending.returned ?_
 all_goals show Value.bool _=Value.bool _
 all_goals refine congrArg Value.bool ?_
 all_goals rw [Bool.eq_iff_iff]
 all_goals simp [Nr,Xn]
 all_goals omega
theorem H3 (r:Int) (W:World):Calls Tryz.prog 101 #[.int .i32 r] W fun e W'=>e=.returned (.bool (M6 r))∧Go.RowKit.Below W.heap.size W W':=by
 go_enter Tryz.func101,Tryz.ntmps101
 go_wp2
 all_goals go_ret
 all_goals refine ⟨?_,Go.RowKit.Below.refl _ _⟩
 all_goals refine congrArg Ending.returned ?_
 all_goals show Value.bool _=Value.bool _
 all_goals refine congrArg Value.bool ?_
 all_goals rw [Bool.eq_iff_iff]
 all_goals simp [M6,Nl,Nr,Xn]
 all_goals omega
open Go.Proofs Go.RowKit
theorem aN (s:ByteArray) (pos:Nat) (h:pos<s.size):1≤(Utf8.decode s pos).2:=by
 simp only [Utf8.decode];repeat' split
 all_goals simp
def Wr (p:Int→Bool) (s:ByteArray):Nat→Nat→Bool
 | 0,_=>true
 | n+1,pos=>if pos<s.size then (cond (pos==0) (p ((Utf8.decode s pos).1:Int)) (M6 ((Utf8.decode s pos).1:Int))&&Wr p s n (pos+(Utf8.decode s pos).2)) else true
theorem Ap {p:Int→Bool} {s:ByteArray} {n pos:Nat} (h:¬ pos<s.size):Wr p s n pos=true:=by
 cases n with
 | zero=>rfl
 | succ n=>rw [Wr,if_neg h]
theorem H5 {B B':Nat} {a b:World} (h:Below B' a b) (hl:B≤B'):Below B a b:=⟨h.os,h.tape,h.output,h.size,fun k hk=>h.block k (by omega)⟩
set_option maxRecDepth 1000000 in
set_option maxHeartbeats 4000000 in
theorem yJ (s:ByteArray) (w:World) :
  Calls Tryz.prog 80 #[.string s,.func (.func 82) #[] #[]] w fun e w'=>e=.returned (.bool (Wr Nl s s.size 0&&!(s.data.toList==[])))∧Below w.heap.size w w':=by
 go_enter Tryz.func80,Tryz.ntmps80
 go_wp2
 go_loopw [] (fun wr=>∃ pos fuel:Nat,wr.heap[w.heap.size]?=some (.stringIter s pos)∧Below w.heap.size w wr∧Hid (Wr Nl s fuel pos=Wr Nl s s.size 0)∧s.size≤pos+fuel) (fun wr=>s.size-wr.iterPos w.heap.size)
 case atStart=>exact ⟨0,s.size,World.iter_heap w s 0,(Below.refl _ _).alloc (Zl _) _,rfl,by omega⟩
 case round =>
  obtain ⟨pos,fuel,C3,Zie,HS,hb⟩:=hrel;have Su:=iterPos_of C3;by_cases hp:pos<s.size
  ·have fJ:∀ ty,(Instr.next (.pointer (some ⟨w.heap.size,0,none⟩)) true ty).run Tryz.prog wr=_:=fun ty=>Lib.run_next_any_at wr w.heap.size s pos ty C3 hp;have Qdu:=aN s pos hp;obtain ⟨fuel,rfl⟩:∃ f',fuel=f'+1:=⟨fuel-1,by omega⟩
   have Cp:=Lib.iterAt_heap wr w.heap.size s pos (pos+(Utf8.decode s pos).2) C3;have Re:=Lib.below_iterAt Zie (k:=w.heap.size) (Zl _) s (pos+(Utf8.decode s pos).2);obtain ⟨W1,Zvm⟩:∃ W1,W1=wr.iterAt w.heap.size s (pos+(Utf8.decode s pos).2):=⟨_,rfl⟩;rw [←Zvm] at fJ Cp Re;have Qg:w.heap.size<W1.heap.size:=lt_of_block Cp;clear Zvm C3 Zie;by_cases h0:pos=0
   ·subst h0;cases hr:Nl ((Utf8.decode s 0).1:Int) with
    | false =>
     go_wp2_with (go_at_call 82;refine (Rz _ _).mono ?_;rintro e W2 ⟨rfl,Sy⟩;simp only [hr])
     go_ret
     refine ⟨?_,Re.trans (H5 Sy (by first|omega|(simp;omega)|exact Qg|exact Nat.le_of_lt Qg))⟩
     have e0:Wr Nl s s.size 0=false:=by rw [←HS.out];simp [Wr,hp,hr]
     rw [e0,Bool.false_and];rfl
    | true =>
     go_wp2_with (go_at_call 82;refine (Rz _ _).mono ?_;rintro e W2 ⟨rfl,Sy⟩;simp only [hr])
     have A1:W2.heap[w.heap.size]?=some (.stringIter s (0+(Utf8.decode s 0).2)):=(Sy.block w.heap.size (by first|omega|(simp;omega)|exact Qg|exact Nat.le_of_lt Qg)).trans Cp
     refine ⟨⟨_,fuel,A1,Re.trans (H5 Sy (by first|omega|(simp;omega)|exact Qg|exact Nat.le_of_lt Qg)),?_,by omega⟩,?_⟩
     ·show _=_;rw [←HS.out];simp [Wr,hp,hr]
     ·rw [iterPos_of A1,Su];omega
   ·have Qct:((pos:Int)==0)=false:=by rw [Za];omega
    have Qho:(decide ((pos:Int) > 0))=true:=by rw [decide_eq_true_eq];omega
    have zX:(pos==0)=false:=by rw [Za];exact h0
    cases hr:M6 ((Utf8.decode s pos).1:Int) with
    | false =>
     go_wp2_with (go_at_call 101;refine (H3 _ _).mono ?_;rintro e W2 ⟨rfl,Sy⟩;simp only [hr])
     go_ret
     refine ⟨?_,Re.trans (H5 Sy (by first|omega|(simp;omega)|exact Qg|exact Nat.le_of_lt Qg))⟩
     have e0:Wr Nl s s.size 0=false:=by rw [←HS.out];simp [Wr,hp,hr,zX]
     rw [e0,Bool.false_and];rfl
    | true =>
     go_wp2_with (go_at_call 101;refine (H3 _ _).mono ?_;rintro e W2 ⟨rfl,Sy⟩;simp only [hr])
     have A1:W2.heap[w.heap.size]?=some (.stringIter s (pos+(Utf8.decode s pos).2)):=(Sy.block w.heap.size (by first|omega|(simp;omega)|exact Qg|exact Nat.le_of_lt Qg)).trans Cp
     refine ⟨⟨_,fuel,A1,Re.trans (H5 Sy (by first|omega|(simp;omega)|exact Qg|exact Nat.le_of_lt Qg)),?_,by omega⟩,?_⟩
     ·show _=_;rw [←HS.out];simp [Wr,hp,hr,zX]
     ·rw [iterPos_of A1,Su];omega
  ·have fJ:∀ ty,(Instr.next (.pointer (some ⟨w.heap.size,0,none⟩)) true ty).run Tryz.prog wr=_:=fun ty=>Lib.run_next_end_at wr w.heap.size s pos ty C3 hp
   go_wp2
   go_ret
   refine ⟨?_,Zie⟩;rw [←HS.out,Ap hp,Bool.true_and]
   congr 2
   rw [ByteArray.toList_mk];cases s.data.toList<;>rfl
set_option maxRecDepth 1000000 in
set_option maxHeartbeats 4000000 in
theorem yY (s:ByteArray) (w:World) :
  Calls Tryz.prog 80 #[.string s,.func (.func 81) #[] #[]] w fun e w'=>e=.returned (.bool (Wr Nr s s.size 0&&!(s.data.toList==[])))∧Below w.heap.size w w':=by
 go_enter Tryz.func80,Tryz.ntmps80
 go_wp2
 go_loopw [] (fun wr=>∃ pos fuel:Nat,wr.heap[w.heap.size]?=some (.stringIter s pos)∧Below w.heap.size w wr∧Hid (Wr Nr s fuel pos=Wr Nr s s.size 0)∧s.size≤pos+fuel) (fun wr=>s.size-wr.iterPos w.heap.size)
 case atStart=>exact ⟨0,s.size,World.iter_heap w s 0,(Below.refl _ _).alloc (Zl _) _,rfl,by omega⟩
 case round =>
  obtain ⟨pos,fuel,C3,Zie,HS,hb⟩:=hrel;have Su:=iterPos_of C3;by_cases hp:pos<s.size
  ·have fJ:∀ ty,(Instr.next (.pointer (some ⟨w.heap.size,0,none⟩)) true ty).run Tryz.prog wr=_:=fun ty=>Lib.run_next_any_at wr w.heap.size s pos ty C3 hp;have Qdu:=aN s pos hp;obtain ⟨fuel,rfl⟩:∃ f',fuel=f'+1:=⟨fuel-1,by omega⟩
   have Cp:=Lib.iterAt_heap wr w.heap.size s pos (pos+(Utf8.decode s pos).2) C3;have Re:=Lib.below_iterAt Zie (k:=w.heap.size) (Zl _) s (pos+(Utf8.decode s pos).2);obtain ⟨W1,Zvm⟩:∃ W1,W1=wr.iterAt w.heap.size s (pos+(Utf8.decode s pos).2):=⟨_,rfl⟩;rw [←Zvm] at fJ Cp Re;have Qg:w.heap.size<W1.heap.size:=lt_of_block Cp;clear Zvm C3 Zie;by_cases h0:pos=0
   ·subst h0;cases hr:Nr ((Utf8.decode s 0).1:Int) with
    | false =>
     go_wp2_with (go_at_call 81;refine (R0 _ _).mono ?_;rintro e W2 ⟨rfl,Sy⟩;simp only [hr])
     go_ret
     refine ⟨?_,Re.trans (H5 Sy (by first|omega|(simp;omega)|exact Qg|exact Nat.le_of_lt Qg))⟩
     have e0:Wr Nr s s.size 0=false:=by rw [←HS.out];simp [Wr,hp,hr]
     rw [e0,Bool.false_and];rfl
    | true =>
     go_wp2_with (go_at_call 81;refine (R0 _ _).mono ?_;rintro e W2 ⟨rfl,Sy⟩;simp only [hr])
     have A1:W2.heap[w.heap.size]?=some (.stringIter s (0+(Utf8.decode s 0).2)):=(Sy.block w.heap.size (by first|omega|(simp;omega)|exact Qg|exact Nat.le_of_lt Qg)).trans Cp
     refine ⟨⟨_,fuel,A1,Re.trans (H5 Sy (by first|omega|(simp;omega)|exact Qg|exact Nat.le_of_lt Qg)),?_,by omega⟩,?_⟩
     ·show _=_;rw [←HS.out];simp [Wr,hp,hr]
     ·rw [iterPos_of A1,Su];omega
   ·have Qct:((pos:Int)==0)=false:=by rw [Za];omega
    have Qho:(decide ((pos:Int) > 0))=true:=by rw [decide_eq_true_eq];omega
    have zX:(pos==0)=false:=by rw [Za];exact h0
    cases hr:M6 ((Utf8.decode s pos).1:Int) with
    | false =>
     go_wp2_with (go_at_call 101;refine (H3 _ _).mono ?_;rintro e W2 ⟨rfl,Sy⟩;simp only [hr])
     go_ret
     refine ⟨?_,Re.trans (H5 Sy (by first|omega|(simp;omega)|exact Qg|exact Nat.le_of_lt Qg))⟩
     have e0:Wr Nr s s.size 0=false:=by rw [←HS.out];simp [Wr,hp,hr,zX]
     rw [e0,Bool.false_and];rfl
    | true =>
     go_wp2_with (go_at_call 101;refine (H3 _ _).mono ?_;rintro e W2 ⟨rfl,Sy⟩;simp only [hr])
     have A1:W2.heap[w.heap.size]?=some (.stringIter s (pos+(Utf8.decode s pos).2)):=(Sy.block w.heap.size (by first|omega|(simp;omega)|exact Qg|exact Nat.le_of_lt Qg)).trans Cp
     refine ⟨⟨_,fuel,A1,Re.trans (H5 Sy (by first|omega|(simp;omega)|exact Qg|exact Nat.le_of_lt Qg)),?_,by omega⟩,?_⟩
     ·show _=_;rw [←HS.out];simp [Wr,hp,hr,zX]
     ·rw [iterPos_of A1,Su];omega
  ·have fJ:∀ ty,(Instr.next (.pointer (some ⟨w.heap.size,0,none⟩)) true ty).run Tryz.prog wr=_:=fun ty=>Lib.run_next_end_at wr w.heap.size s pos ty C3 hp
   go_wp2
   go_ret
   refine ⟨?_,Zie⟩;rw [←HS.out,Ap hp,Bool.true_and]
   congr 2
   rw [ByteArray.toList_mk];cases s.data.toList<;>rfl
theorem Zgp (s:ByteArray) (pos:Nat) (h:pos<s.size):s.get! (pos+0)=s.data.toList[pos]'(by simpa using h):=by
 show s.get! pos=_;simp [ByteArray.get!,getElem!_pos,h]
theorem jE {s:ByteArray} {pos:Nat} (h:pos<s.size) (hc:(s.data.toList[pos]'(by simpa using h)).toNat<128):Utf8.decode s pos=((s.data.toList[pos]'(by simpa using h)).toNat,1):=by
 simp only [Utf8.decode,Zgp s pos h,if_pos hc]
theorem dR {s:ByteArray} {pos:Nat} (h:pos<s.size) (hc:¬ (s.data.toList[pos]'(by simpa using h)).toNat<128):128≤(Utf8.decode s pos).1:=by
 simp only [Utf8.decode,Zgp s pos h,if_neg hc,Utf8.runeError];repeat' split
 all_goals simp_all
 all_goals omega
theorem uI {c:UInt8} (h:c.toNat<128):M6 (c.toNat:Int)=behind c:=by
 have:∀ c:Fin 256,M6 ((c.val:Nat):Int)=behind (UInt8.ofNat c.val):=by decide +kernel
 have:=this ⟨c.toNat,c.toNat_lt⟩;simpa using this
theorem qE {r:Nat} (h:128≤r):M6 (r:Int)=false:=by
 simp [M6,Nl,Nr,Xn];omega
theorem uH {c:UInt8} (h:¬ c.toNat<128):behind c=false:=by
 have:∀ c:Fin 256,128≤c.val→behind (UInt8.ofNat c.val)=false:=by decide +kernel
 have:=this ⟨c.toNat,c.toNat_lt⟩ (by simp;omega)
 simpa using this
theorem Rv {p:Int→Bool} {s:ByteArray}:∀ {n pos:Nat},0<pos→s.size≤pos+n→Wr p s n pos=Hf (s.data.toList.drop pos)
 | 0,pos,h0,h=>by
  rw [List.drop_eq_nil_of_le (by simpa using h)]
  rfl
 | n+1,pos,h0,h=>by
  by_cases hp:pos<s.size
  ·have hl:pos<s.data.toList.length:=by simpa using hp
   rw [Wr,if_pos hp,List.drop_eq_getElem_cons hl];have hz:(pos==0)=false:=by rw [Za];omega
   rw [hz,cond_false];unfold Hf;rw [List.all_cons];by_cases hc:(s.data.toList[pos]'hl).toNat<128
   ·rw [jE hp hc,uI hc];simp only;rw [Rv (by omega) (by omega)]
    rfl
   ·rw [qE (dR hp hc),uH hc,Bool.false_and,Bool.false_and]
  ·rw [Ap hp,List.drop_eq_nil_of_le (by simpa using hp)]
   rfl
theorem Zax {p:Int→Bool} {q:UInt8→Bool} (h1:∀ c:UInt8,c.toNat<128→p (c.toNat:Int)=q c) (h2:∀ r:Nat,128≤r→p (r:Int)=false) (h3:∀ c:UInt8,¬ c.toNat<128→q c=false) (s:ByteArray) :
  (Wr p s s.size 0&&!(s.data.toList==[]))=match s.data.toList with
  | []=>false
  | c::r=>q c&&Hf r:=by
 have K5:s.size=s.data.toList.length:=by simp
 obtain ⟨l,hl⟩:=exq (s.data.toList);cases l with
 | nil=>rw [hl];simp
 | cons c r =>
  have hn:s.size=r.length+1:=by rw [K5,hl];simp
  have h0:0<s.size:=by omega
  have hc:s.data.toList[0]'(by rw [←K5];exact h0)=c:=by simp [hl]
  have hd:s.data.toList.drop 1=r:=by rw [hl];rfl
  rw [show Wr p s s.size 0=Wr p s (r.length+1) 0 by rw [hn],Wr,if_pos h0,hl]
  simp only [beq_self_eq_true,cond_true];by_cases h:c.toNat<128
  ·rw [jE h0 (by rw [hc];exact h),hc,h1 c h]
   simp only [Nat.zero_add];rw [Rv (by omega) (by omega),hd]
   simp
  ·rw [h2 _ (dR h0 (by rw [hc];exact h)),h3 c h]
   simp
theorem Ru {f:FuncId} {con:Con} (he:Mm Tryz.prog f)
  (h:∀ J0,con.pre J0→∃ (xs:List D) (b:Bool),J0=xs.map .d∧con.fn J0=.d (.bool b)∧∀ (F:Fix) (vs:List Value) (w:World),Yk F (xs.map .d) vs→Calls Tryz.prog f vs.toArray w fun e w'=>e=.returned (.bool b)∧Below w.heap.size w w'):Jd Tryz.prog (f,con):=by
 refine ⟨he,?_⟩;intro m w J0 vs Zo aD F9 Vm Zia;obtain ⟨xs,b,rfl,Zib,hc⟩:=h J0 Zo;refine (hc _ vs w aD).mono ?_;rintro e w' ⟨rfl,hb⟩;refine ⟨_,m,rfl,⟨hb.os,hb.tape,hb.output,hb.size,fun k hk _=>hb.block k hk⟩,fun _ _ _=>rfl,fun k hk=>Vm k (by have:=hb.size;omega),?_⟩
 change rA _ _ _ (con.fn (xs.map .d)) _
 rw [Zib];simp only [rA,Yk,kD,R];refine ⟨⟨_,[],rfl,rfl,rfl⟩,fun k hk=>?_⟩;have:Qr ([D.bool b].map .d) [Value.bool b]=[]:=L7 _ _
 change k∈Qr ([D.bool b].map .d) [Value.bool b] at hk
 rw [this] at hk;cases hk
theorem A9 (a b c:UInt8):Vq c a b=(Xn (a.toNat:Int) (c.toNat:Int)&&Xn (c.toNat:Int) (b.toNat:Int)):=by rw [Mq,Mq];rfl
def oX:Con:=Vx (fun (_:List UInt8) (_:Fn0 82)=>True) (fun s _=>Xt s)
theorem xO:Jd Tryz.prog (80,oX):=by
 refine Ru (J6 Tryz.func80 (by kernel_rfl) rfl) fun J0 Zo=>?_
 obtain ⟨s,f,rfl,-⟩:=Jh Zo;refine ⟨[.str s,.clo 82 []],Xt s,rfl,rfl,fun F vs w aD=>?_⟩;simp only [List.map,Yk,kD,R,Rs] at aD;obtain ⟨v1,r1,rfl,rfl,v2,r2,rfl,⟨cs,rfl,rfl⟩,rfl⟩:=aD;have h:=Zax (p:=Nl) (q:=fun c=>Vq c 97 122) (fun c _=>(A9 97 122 c).symm) (fun r hr=>by simp [Nl,Xn];omega) (fun c hc=>by rw [A9];simp [Xn];omega) ⟨s.toArray⟩
 refine (yJ ⟨s.toArray⟩ w).mono ?_;rintro e w' ⟨rfl,hb⟩;refine ⟨?_,hb⟩;rw [h];cases s<;>rfl
def oZ:Con:=Vx (fun (_:List UInt8) (_:Fn0 81)=>True) (fun s _=>Ht s)
theorem xN:Jd Tryz.prog (80,oZ):=by
 refine Ru (J6 Tryz.func80 (by kernel_rfl) rfl) fun J0 Zo=>?_
 obtain ⟨s,f,rfl,-⟩:=Jh Zo;refine ⟨[.str s,.clo 81 []],Ht s,rfl,rfl,fun F vs w aD=>?_⟩;simp only [List.map,Yk,kD,R,Rs] at aD;obtain ⟨v1,r1,rfl,rfl,v2,r2,rfl,⟨cs,rfl,rfl⟩,rfl⟩:=aD;have h:=Zax (p:=Nr) (q:=fun c=>Vq c 65 90) (fun c _=>(A9 65 90 c).symm) (fun r hr=>by simp [Nr,Xn];omega) (fun c hc=>by rw [A9];simp [Xn];omega) ⟨s.toArray⟩
 refine (yY ⟨s.toArray⟩ w).mono ?_;rintro e w' ⟨rfl,hb⟩;refine ⟨?_,hb⟩;rw [h];cases s<;>rfl
def Kk:Con:=Xh (fun (_:List UInt8)=>True) (fun s=>Xt s)
theorem Mv:Jd Tryz.prog (54,Kk):=by
 obtain ⟨Kx,Kt,Kc,Kd,Kb,Ku,Kw,K,Y0,_⟩:=Yc Qp Z0 [] false (Xu xO oX.eq_def Yb);have Ko:=Kk.eq_def;refine Ve K Tryz.func54 [.tmp 2] rfl 5 rfl (fun c hc J0 Zo=>?_);unfold Kk at Zo;obtain ⟨s,rfl,-⟩:=Qs Zo;cases hc;have Qz:=@Ny;exact Zix
def Nw:Con:=Xh (fun (_:List UInt8)=>True) (fun s=>Ht s)
theorem Ec:Jd Tryz.prog (53,Nw):=by
 obtain ⟨Kx,Kt,Kc,Kd,Kb,Ku,Kw,K,Y0,_⟩:=Yc Qp Z0 [] false (Xu xN oZ.eq_def Yb);have Ko:=Nw.eq_def;refine Ve K Tryz.func53 [.tmp 2] rfl 5 rfl (fun c hc J0 Zo=>?_);unfold Nw at Zo;obtain ⟨s,rfl,-⟩:=Qs Zo;cases hc;have Qz:=@Ny;exact Zix
def B6:Con:=Xh (fun (_:Node)=>True) (fun n=>Va n)
class Kba:Prop
theorem Kba.k (_:Kba) (h:p:=by
 unfold Va;repeat' first|exact Cg|with_reducible apply Z9|intro _
 all_goals
  rw [Bool.eq_iff_iff];repeat' split
  all_goals first|(exfalso;omega)|(simp only [Xn,Jw,Zg,decide_eq_true_eq,Zi,Zn];omega)|(simp only [Xn,Jw,Zg,decide_eq_true_eq,Zi,Zn,false_iff];omega)|(simp only [Xn,Jw,Zg,decide_eq_true_eq,Zi,Zn];done)):p:=h
theorem good_isNodeT:Jd Tryz.prog (135,B6):=by
 obtain ⟨Kx,Kt,Kc,Kd,Kb,Ku,Kw,K,_⟩:=Yc Qp Z0 [] false Yb;have Ko:=B6.eq_def;refine Ve K Tryz.func135 [.tmp 2] rfl 45 rfl (fun c hc J0 Zo=>?_);unfold B6 at Zo;obtain ⟨n,rfl,-⟩:=Qs Zo;cases hc;refine Ym 2 ?_;have Qz:=@Zx;have Q2:=@Zv;have Qx:=@Zy;have Ql:=@Zu;have Q3:=@Y4;have Ji:=@Zw;have Kq:Kba:=⟨⟩;exact Pm
def xC (k:Int) (s:List UInt8):Bool:=if k=6 then Xt s else if k=7 then Ht s else s==[]
def M0:Con:=Vx (fun (_:Int) (_:List UInt8)=>True) xC
class Kbb:Prop
theorem Kbb.k (_:Kbb) (h:p:=by
 unfold xC;repeat' first|exact Cg|with_reducible apply Z9|intro _
 all_goals simp_all):p:=h
theorem good_isLabelT:Jd Tryz.prog (138,M0):=by
 obtain ⟨Kx,Kt,Kc,Kd,Kb,Ku,Kw,K,Y0,Xr,_⟩:=Yc Qp Z0 [] false (Xu Mv Kk.eq_def (Xu Ec Nw.eq_def Yb));have Ko:=M0.eq_def;refine Ve K Tryz.func138 [.tmp 4] rfl 16 rfl (fun c hc J0 Zo=>?_);unfold M0 at Zo;obtain ⟨k,s,rfl,-⟩:=Jh Zo;cases hc;have Qz:=@Zx;have Q2:=@Zv;have Qx:=@Zy;have Ql:=@Zu;have Q3:=@Y4;have Ji:=@Zw;have Kq:Kbb:=⟨⟩;exact Pm
end Go.Am.Ty
