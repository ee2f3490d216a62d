/- Contracts of functions that the law reaches, and plain laws. Conditions: those that each contract states. -/
import Derived.Test.YtilpfkjhahnfaaaGreatP4
import Derived.Test.YtilpfkjhahnfaaaGreatChecked
set_option maxHeartbeats 1000000
set_option linter.unusedVariables false
set_option linter.unusedSimpArgs false
variable {p:Prop}
set_option maxRecDepth 100000
namespace Go.Am
def Uo (n:Nat):Nat:=n
theorem Kt:Uo 0=0:=rfl
theorem Kc:Uo 0=0:=rfl
theorem Kd:Uo 0=0:=rfl
theorem Kb:Uo 0=0:=rfl
theorem Ku:Uo 0=0:=rfl
theorem Kw:Uo 0=0:=rfl
theorem Ko:Uo 0=0:=rfl
theorem X4:Uo 0=0:=rfl
theorem V2:Uo 0=0:=rfl
theorem Mo:Uo 0=0:=rfl
theorem Tx:Uo 0=0:=rfl
theorem jB:Uo 0=0:=rfl
theorem vK:Uo 0=0:=rfl
theorem Za6:Uo 0=0:=rfl
theorem Zmm:Uo 0=0:=rfl
theorem Zm7:Uo 0=0:=rfl
theorem Zm6:Uo 0=0:=rfl
theorem jC:Uo 0=0:=rfl
theorem Qk:Uo 0=0:=rfl
theorem Qo:Uo 0=0:=rfl
theorem Qi:Uo 0=0:=rfl
theorem Qn:Uo 0=0:=rfl
theorem Ql:Uo 0=0:=rfl
theorem Qp:Uo 0=0:=rfl
theorem Qv:Uo 0=0:=rfl
theorem Q3:Uo 0=0:=rfl
theorem Jh:Uo 0=0:=rfl
theorem Jb:Uo 0=0:=rfl
theorem Z3:Uo 0=0:=rfl
theorem Z6:Uo 0=0:=rfl
theorem Z7:Uo 0=0:=rfl
theorem Qq:Uo 0=0:=rfl
theorem Qj:Uo 0=0:=rfl
theorem Qx:Uo 0=0:=rfl
theorem Qm:Uo 0=0:=rfl
theorem Qg:Uo 0=0:=rfl
theorem Qr:Uo 0=0:=rfl
theorem Qw:Uo 0=0:=rfl
theorem Q4:Uo 0=0:=rfl
theorem Jf:Uo 0=0:=rfl
theorem Jk:Uo 0=0:=rfl
theorem Ju:Uo 0=0:=rfl
theorem Xf:Uo 0=0:=rfl
theorem Xe:Uo 0=0:=rfl
theorem Wm:Uo 0=0:=rfl
theorem Wz:Uo 0=0:=rfl
theorem Yj:Uo 0=0:=rfl
theorem Yr:Uo 0=0:=rfl
theorem Yq:Uo 0=0:=rfl
theorem Mf:Uo 0=0:=rfl
theorem Me:Uo 0=0:=rfl
theorem M6:Uo 0=0:=rfl
theorem M5:Uo 0=0:=rfl
theorem Mv:Uo 0=0:=rfl
theorem Mu:Uo 0=0:=rfl
theorem S5:Uo 0=0:=rfl
theorem S4:Uo 0=0:=rfl
theorem Bs:Uo 0=0:=rfl
theorem S3:Uo 0=0:=rfl
theorem S0:Uo 0=0:=rfl
theorem Le:Uo 0=0:=rfl
theorem Sy:Uo 0=0:=rfl
theorem Sx:Uo 0=0:=rfl
theorem Sw:Uo 0=0:=rfl
theorem Nh:Uo 0=0:=rfl
theorem Ng:Uo 0=0:=rfl
theorem Nf:Uo 0=0:=rfl
theorem Nd:Uo 0=0:=rfl
theorem Nc:Uo 0=0:=rfl
theorem Nb:Uo 0=0:=rfl
theorem Na:Uo 0=0:=rfl
theorem H9:Uo 0=0:=rfl
theorem H8:Uo 0=0:=rfl
theorem H7:Uo 0=0:=rfl
theorem H6:Uo 0=0:=rfl
theorem H5:Uo 0=0:=rfl
theorem H4:Uo 0=0:=rfl
theorem H3:Uo 0=0:=rfl
theorem H2:Uo 0=0:=rfl
theorem H1:Uo 0=0:=rfl
theorem H0:Uo 0=0:=rfl
theorem Hz:Uo 0=0:=rfl
theorem Hy:Uo 0=0:=rfl
theorem Hx:Uo 0=0:=rfl
theorem Hw:Uo 0=0:=rfl
theorem Hv:Uo 0=0:=rfl
theorem Vc:Uo 0=0:=rfl
theorem Cs:Uo 0=0:=rfl
theorem Zm3:Uo 0=0:=rfl
theorem Qlr:Uo 0=0:=rfl
theorem Qlq:Uo 0=0:=rfl
theorem Qm1:Uo 0=0:=rfl
theorem M7 {p:Prop} (h:p:=by first|with_reducible assumption|omega|(rw [Xt];omega)):p:=h
theorem Qt {p:Prop} (h:p:=by (try simp only [K6,Ho,U1,Lg,upd,Si,Hl,Sa,Nat.reduceDiv,Nat.reduceMod,Nat.reduceMul,Nat.reduceAdd,Nat.reduceEqDiff,Jr,J3,if_true,if_false,reduceIte]);(first|refine Wk.of_fl ?_|skip);simp only [Wk,Zh9,Zff,qA,Zci,AV.kept,keptAll,Zfe,lk,Vy,and_true,true_and,and_self,Nat.reduceEqDiff,Nat.reduceLeDiff,if_true,if_false,reduceIte,reduceCtorEq,Option.isSome,false_implies];try simp [Wk,Zh9,qA,Zci,AV.kept,keptAll,Zfe,lk,Vy,List.map_append,Ze,List.map_replicate,Nat.pow_zero,Nat.div_one,Vc,Cs,Zm3,Qlr,Qlq,Qm1]<;>rfl):p:=h
theorem Qvf {p q:Prop} (hq:q) (h:q→p:=by
 intro Kq
 (try simp only [K6,Ho,U1,Lg,upd,Si,Hl,Sa,Nat.reduceDiv,Nat.reduceMod,Nat.reduceMul,Nat.reduceAdd,Nat.reduceEqDiff,Jr,J3,if_true,if_false,reduceIte]);(first|refine Wk.of_fl ?_|skip);simp only [Wk,Zh9,Zff,qA,Zci,AV.kept,keptAll,Zfe,lk,Vy,and_true,true_and,and_self,Nat.reduceEqDiff,Nat.reduceLeDiff,if_true,if_false,reduceIte,reduceCtorEq,Option.isSome,false_implies];try simp [Wk,Zh9,qA,Zci,AV.kept,keptAll,Zfe,lk,Vy,List.map_append,Ze,List.map_replicate,Nat.pow_zero,Nat.div_one,Vc,Cs,Zm3,Qlr,Qlq,Qm1]
 exact Kq):p:=h hq
theorem Jcf {p:Prop} (h:p:=by (simp only [Qpk,oG,rR,Si,Hl,Sa,pur,lk,upd,List.getD_cons_zero,List.getD_cons_succ,Jr,J3,Nat.reduceDiv,Nat.reduceMod,Nat.reduceMul,Nat.reduceAdd,Nat.reduceEqDiff,if_true,if_false,reduceIte]);refine Zw (by simp) ?_;(try simp only [K6,Ho,U1,Lg,upd,Si,Hl,Sa,Nat.reduceDiv,Nat.reduceMod,Nat.reduceMul,Nat.reduceAdd,Nat.reduceEqDiff,Jr,J3,if_true,if_false,reduceIte]);(first|refine Wk.of_fl ?_|skip);simp only [Wk,Zh9,Zff,qA,Zci,AV.kept,keptAll,Zfe,lk,Vy,and_true,true_and,and_self,Nat.reduceEqDiff,Nat.reduceLeDiff,if_true,if_false,reduceIte,reduceCtorEq,Option.isSome,false_implies];try simp [Wk,Zh9,qA,Zci,AV.kept,keptAll,Zfe,lk,Vy,List.map_append,Ze,List.map_replicate,Nat.pow_zero,Nat.div_one,Vc,Cs,Zm3,Qlr,Qlq,Qm1]<;>rfl):p:=h
theorem Qp8 {p:Prop} (h:p:=by (try simp only [K6,Ho,U1,Lg,upd,Si,Hl,Sa,Nat.reduceDiv,Nat.reduceMod,Nat.reduceMul,Nat.reduceAdd,Nat.reduceEqDiff,Jr,J3,if_true,if_false,reduceIte]);simp only [Qsi,pur,lk,upd,D.setCell,Qni,List.set_set,Jr,J3,Nat.reduceDiv,Nat.reduceMod,Nat.reduceMul,Nat.reduceAdd,Nat.reduceEqDiff,if_true,if_false,reduceIte,Vc,Cs,Zm3,Qlr,Qlq,Qm1];refine Zw (by first|trivial|(simp;done)|omega) (Zw (by first|trivial|(simp;done)) (Zw (by first|trivial|omega|(simp;done)) (Zw (by first|trivial|omega|(simp;omega)) (Zw (by first|trivial|omega) ?_))));(try simp only [K6,Ho,U1,Lg,upd,Si,Hl,Sa,Nat.reduceDiv,Nat.reduceMod,Nat.reduceMul,Nat.reduceAdd,Nat.reduceEqDiff,Jr,J3,if_true,if_false,reduceIte]);(first|refine Wk.of_fl ?_|skip);simp only [Wk,Zh9,Zff,qA,Zci,AV.kept,keptAll,Zfe,lk,Vy,and_true,true_and,and_self,Nat.reduceEqDiff,Nat.reduceLeDiff,if_true,if_false,reduceIte,reduceCtorEq,Option.isSome,false_implies];try simp [Wk,Zh9,qA,Zci,AV.kept,keptAll,Zfe,lk,Vy,List.map_append,Ze,List.map_replicate,Nat.pow_zero,Nat.div_one,Vc,Cs,Zm3,Qlr,Qlq,Qm1]):p:=h
theorem Jcg {p:Prop} (h:p:=by (try simp only [K6,Ho,U1,Lg,upd,Si,Hl,Sa,Nat.reduceDiv,Nat.reduceMod,Nat.reduceMul,Nat.reduceAdd,Nat.reduceEqDiff,Jr,J3,if_true,if_false,reduceIte]);simp only [Qvs,ren,lk,upd,Nat.reduceAdd,Nat.reduceEqDiff,if_true,if_false,reduceIte];refine Zw (by first|trivial|rfl) (Zw ?_ (Zw (by first|trivial|rfl|simp) (Zw (by first|trivial|simp [Zds]) (Zw (by first|decide|omega) (Zw (by first|decide|omega) (Zw (by (first|refine lN ?_|skip);simp [keptAll,Zge,AV.kept,lk]) (by simp [B7,keptAll,AV.kept,lk])))))));(try simp only [K6,Ho,U1,Lg,upd,Si,Hl,Sa,Nat.reduceDiv,Nat.reduceMod,Nat.reduceMul,Nat.reduceAdd,Nat.reduceEqDiff,Jr,J3,if_true,if_false,reduceIte]);(first|refine Wk.of_fl ?_|skip);simp only [Wk,Zh9,Zff,qA,Zci,AV.kept,keptAll,Zfe,lk,Vy,and_true,true_and,and_self,Nat.reduceEqDiff,Nat.reduceLeDiff,if_true,if_false,reduceIte,reduceCtorEq,Option.isSome,false_implies];try simp [Wk,Zh9,qA,Zci,AV.kept,keptAll,Zfe,lk,Vy,List.map_append,Ze,List.map_replicate,Nat.pow_zero,Nat.div_one,Vc,Cs,Zm3,Qlr,Qlq,Qm1]):p:=h
theorem Qvg {p:Prop} (h:p:=by (try simp only [K6,Ho,U1,Lg,upd,Si,Hl,Sa,Nat.reduceDiv,Nat.reduceMod,Nat.reduceMul,Nat.reduceAdd,Nat.reduceEqDiff,Jr,J3,if_true,if_false,reduceIte]);simp only [Qsh,ren,oG,rR,Si,Hl,Sa,lk,upd,List.getD_cons_zero,List.getD_cons_succ,Jr,J3,Nat.reduceDiv,Nat.reduceMod,Nat.reduceMul,Nat.reduceAdd,Nat.reduceEqDiff,if_true,if_false,reduceIte];refine Zw (by first|trivial|rfl) (Zw ?_ (Zw (by first|trivial|rfl|simp) (Zw (by first|trivial|simp [Zds]) (Zw (by first|decide|omega) (Zw (by first|decide|omega) (Zw (by (first|refine lN ?_|skip);simp [keptAll,Zge,AV.kept,lk]) (by simp [B7,keptAll,AV.kept,lk])))))));(try simp only [K6,Ho,U1,Lg,upd,Si,Hl,Sa,Nat.reduceDiv,Nat.reduceMod,Nat.reduceMul,Nat.reduceAdd,Nat.reduceEqDiff,Jr,J3,if_true,if_false,reduceIte]);(first|refine Wk.of_fl ?_|skip);simp only [Wk,Zh9,Zff,qA,Zci,AV.kept,keptAll,Zfe,lk,Vy,and_true,true_and,and_self,Nat.reduceEqDiff,Nat.reduceLeDiff,if_true,if_false,reduceIte,reduceCtorEq,Option.isSome,false_implies];try simp [Wk,Zh9,qA,Zci,AV.kept,keptAll,Zfe,lk,Vy,List.map_append,Ze,List.map_replicate,Nat.pow_zero,Nat.div_one,Vc,Cs,Zm3,Qlr,Qlq,Qm1]):p:=h
theorem uL {ops:List Oper} {acc:List (Nat×List Nat×Bool)} (h:Qm7 ops acc=true:=by kernel_rfl):Qm7 ops acc=true:=h
def Gs (P:Program) (l:List (Nat×Con)) (m:List (Nat×BCon)) (E:Prop):Prop:=(∀ p∈l,Qc P p)∧(∀ p∈m,dA P p)∧E
theorem J5 {P:Program}:Gs P [] [] True:=⟨by simp,by simp,trivial⟩
theorem Q1 {P:Program} {n:Nat} {c d:Con} {l:List (Nat×Con)} {m:List (Nat×BCon)} {E:Prop} (h:Qc P (n,c)) (e:c=d) (r:Gs P l m E):Gs P ((n,c)::l) m (c=d∧E):=by
 refine ⟨fun p hp=>?_,r.2.1,e,r.2.2⟩;rcases (@List.mem_cons _ _ _ _).1 hp with h1|h1
 ·rw [h1];exact h
 ·exact r.1 p h1
theorem Qpj {P:Program} {n:Nat} {c d:BCon} {l:List (Nat×Con)} {m:List (Nat×BCon)} {E:Prop} (h:dA P (n,c)) (e:c=d) (r:Gs P l m E):Gs P l ((n,c)::m) (c=d∧E):=by
 refine ⟨r.1,fun p hp=>?_,e,r.2.2⟩;rcases (@List.mem_cons _ _ _ _).1 hp with h1|h1
 ·rw [h1];exact h
 ·exact r.2.1 p h1
theorem J7 {P:Program} {τ:Nat→TI} (hT:Yd P τ) (hm:P.follows .mixedOrders=true) (cu:List Nat) (wr:Bool) {l:List (Nat×Con)} {m:List (Nat×BCon)} {E:Prop} (h:Gs P l m E):∃ C:Ctx,C.τ=τ∧C.Γ=Qj2 l∧C.dp=60∧C.Δ=Qj3 m∧C.cuts=cu∧C.wr=wr∧Co P C∧E :=
 ⟨⟨τ,Qj2 l,60,Qj3 m,cu,wr⟩,rfl,rfl,rfl,rfl,rfl,rfl,Qhm hT hm h.1 h.2.1,h.2.2⟩
theorem W5 {C:Ctx} {c:Code} {Q:AExit→AS→Prop} {t:List AV} {o:Qh} (n:Nat) (h:Shut (Tw C c Q ⟨fl (Qep n t).1 (Qep n t).2,o⟩)) (hn:decide (16*n≤t.length)=true:=by kernel_rfl):Tw C c Q ⟨t,o⟩:=Qku n (of_decide_eq_true hn) h
theorem Qrr {F:Func} (h:F.body.isNone=false):∃ c,F.body=some c:=by
 cases hb:F.body with
 | none=>rw [hb] at h;cases h
 | some c=>exact ⟨c,rfl⟩
theorem J9 {P : Program} {C : Ctx} {f : FuncId} {fn : Func} {con : Con} (K : Co P C) (hf : P.funcs[f]? = some fn) (rs : List ResultVar) (Qe8 : fn.results.toList = rs) (nt : Nat) (hnt : fn.ntmps = nt)
    (h : ∀ c, fn.body = some c → ∀ Ji, con.pre Ji → Tw C c (Qk0 C rs con.outs (con.fn Ji)) (jQ nt Ji)) (h1 : (fn.name == "runtime.NumGoroutine") = false := by kernel_rfl) (h2 : fn.body.isNone = false := by rfl) : Qc P (f, con) := by
  obtain ⟨c, hc⟩ := Qrr h2
  exact ⟨Jv hf h1 h2, Qhc K hf hc rs Qe8 nt hnt (h c hc)⟩
theorem Qkf {P : Program} {C : Ctx} {f : FuncId} {fn : Func} {bc : BCon} (K : Co P C) (hf : P.funcs[f]? = some fn) (rs : List ResultVar) (Qe8 : fn.results.toList = rs) (nt : Nat) (hnt : fn.ntmps = nt)
    (h : ∀ c, fn.body = some c → ∀ x, bc.ok x → Ah (bc.args x) (bc.objs x) ∧ J4 (bc.objs x) ∧ Ah [] (bc.post x) ∧ (bc.objs x).length ≤ (bc.post x).length ∧
      Tw C c (uK C rs (bc.objs x).length (bc.res x) (bc.post x)) ⟨bc.args x ++ Dc (nt - (bc.args x).length), Jq (bc.objs x)⟩) (C5 : ∀ x, bc.out x = none := by intro _; rfl) (h1 : (fn.name == "runtime.NumGoroutine") = false := by kernel_rfl) (h2 : fn.body.isNone = false := by rfl) : dA P (f, bc) := by
  obtain ⟨c, hc⟩ := Qrr h2
  exact ⟨Jv hf h1 h2, Qd2 K hf hc rs Qe8 nt hnt (h c hc) C5⟩
end Go.Am
namespace Go.Am.Ty
open Go.Proofs
open Enc (enc dec)
def tt:List (Nat×TI):=[(1,⟨.func,1,8,.d .nilf,.nilf,[]⟩),(2,⟨.int .i64,1,8,.d (.int .i64 0),.int .i64 0,[]⟩),(3,⟨.int .i64,1,8,.d (.int .i64 0),.int .i64 0,[]⟩),(4,⟨.bool,1,1,.d (.bool false),.bool false,[]⟩),(5,⟨.int .u8,1,1,.d (.int .u8 0),.int .u8 0,[]⟩),(9,⟨.str,1,16,.d (.str []),.str [],[]⟩),(21,⟨.int .i32,1,4,.d (.int .i32 0),.int .i32 0,[]⟩),(22,⟨.slice 9,1,24,.nils 1,.list 1 [],[]⟩),(24,⟨.struct [(0,1),(1,1)],2,48,.agg [.nils 1,.nils 1],.agg [.list 1 [],.list 1 []],[]⟩),(25,⟨.array 2 3,2,16,.d (.agg [.int .i64 0,.int .i64 0]),.agg [.int .i64 0,.int .i64 0],[]⟩),(26,⟨.slice 43,1,24,.nils 4,.list 4 [],[]⟩),(30,⟨.int .i64,1,8,.d (.int .i64 0),.int .i64 0,[]⟩),(37,⟨.slice 51,1,24,.nils 2,.list 2 [],[]⟩),(40,⟨.slice 49,1,24,.nils 3,.list 3 [],[]⟩),(41,⟨.slice 166,1,24,.nils 3,.list 3 [],[]⟩),(43,⟨.struct [(0,1),(1,1),(2,1),(3,1)],4,88,.agg [.d (.str []),.nils 1,.nils 3,.nils 3],.agg [.str [],.list 1 [],.list 3 [],.list 3 []],[]⟩),(45,⟨.slice 82,1,24,.nils 3,.list 3 [],[]⟩),(47,⟨.slice 75,1,24,.nils 8,.list 8 [],[]⟩),(49,⟨.struct [(0,1),(1,1),(2,1)],3,64,.agg [.d (.str []),.nils 3,.nils 8],.agg [.str [],.list 3 [],.list 8 []],[]⟩),(51,⟨.struct [(0,1),(1,1)],2,40,.agg [.d (.str []),.nils 3],.agg [.str [],.list 3 []],[]⟩),(59,⟨.slice 72,1,24,.nils 2,.list 2 [],[]⟩),(65,⟨.slice 3,1,24,.nils 1,.list 1 [],[]⟩),(69,⟨.slice 45,1,24,.nils 1,.list 1 [],[]⟩),(70,⟨.slice 4,1,24,.nils 1,.list 1 [],[]⟩),(72,⟨.struct [(0,1),(1,1)],2,32,.agg [.d (.int .i64 0),.nils 3],.agg [.int .i64 0,.list 3 []],[]⟩),(75,⟨.struct [(0,1),(1,1),(2,1),(3,1),(4,1),(5,1),(6,1),(7,1)],8,120,.agg [.d (.int .i64 0),.d (.str []),.d (.str []),.d (.str []),.d (.int .i64 0),.d (.int .i64 0),.nils 3,.nils 3],.agg [.int .i64 0,.str [],.str [],.str [],.int .i64 0,.int .i64 0,.list 3 [],.list 3 []],[]⟩),(80,⟨.func,1,8,.d .nilf,.nilf,[]⟩),(82,⟨.struct [(0,1),(1,1),(2,1)],3,32,.d (.agg [.int .i64 0,.str [],.int .i64 0]),.agg [.int .i64 0,.str [],.int .i64 0],[.int .i64,.str,.int .i64]⟩),(86,⟨.func,1,8,.d .nilf,.nilf,[]⟩),(87,⟨.func,1,8,.d .nilf,.nilf,[]⟩),(88,⟨.map 9 43,1,8,.d .nilm,.nilm,[]⟩),(91,⟨.func,1,8,.d .nilf,.nilf,[]⟩),(92,⟨.func,1,8,.d .nilf,.nilf,[]⟩),(105,⟨.map 3 4,1,8,.d .nilm,.nilm,[]⟩),(109,⟨.func,1,8,.d .nilf,.nilf,[]⟩),(115,⟨.func,1,8,.d .nilf,.nilf,[]⟩),(124,⟨.map 9 4,1,8,.d .nilm,.nilm,[]⟩),(125,⟨.func,1,8,.d .nilf,.nilf,[]⟩),(130,⟨.func,1,8,.d .nilf,.nilf,[]⟩),(133,⟨.slice 141,1,24,.nils 4,.list 4 [],[]⟩),(137,⟨.struct [(0,1),(1,1),(2,1)],3,40,.agg [.d (.int .i64 0),.nils 3,.d (.int .i64 0)],.agg [.int .i64 0,.list 3 [],.int .i64 0],[]⟩),(141,⟨.struct [(0,1),(1,1),(2,1),(3,1)],4,40,.d (.agg [.int .i64 0,.str [],.int .i64 0,.int .i64 0]),.agg [.int .i64 0,.str [],.int .i64 0,.int .i64 0],[.int .i64,.str,.int .i64,.int .i64]⟩),(143,⟨.map 9 3,1,8,.d .nilm,.nilm,[]⟩),(152,⟨.map 3 45,1,8,.d .nilm,.nilm,[]⟩),(155,⟨.func,1,8,.d .nilf,.nilf,[]⟩),(157,⟨.func,1,8,.d .nilf,.nilf,[]⟩),(158,⟨.func,1,8,.d .nilf,.nilf,[]⟩),(160,⟨.struct [(0,1),(1,1),(2,1)],3,56,.agg [.nils 3,.nils 3,.d .nilf],.agg [.list 3 [],.list 3 [],.nilf],[]⟩),(166,⟨.struct [(0,1),(1,1),(2,1)],3,24,.d (.agg [.int .i64 0,.int .i64 0,.bool false]),.agg [.int .i64 0,.int .i64 0,.bool false],[.int .i64,.int .i64,.bool]⟩),(168,⟨.array 15 3,15,120,.d (.agg [.int .i64 0,.int .i64 0,.int .i64 0,.int .i64 0,.int .i64 0,.int .i64 0,.int .i64 0,.int .i64 0,.int .i64 0,.int .i64 0,.int .i64 0,.int .i64 0,.int .i64 0,.int .i64 0,.int .i64 0]),.agg [.int .i64 0,.int .i64 0,.int .i64 0,.int .i64 0,.int .i64 0,.int .i64 0,.int .i64 0,.int .i64 0,.int .i64 0,.int .i64 0,.int .i64 0,.int .i64 0,.int .i64 0,.int .i64 0,.int .i64 0],[]⟩),(185,⟨.func,1,8,.d .nilf,.nilf,[]⟩),(186,⟨.func,1,8,.d .nilf,.nilf,[]⟩),(196,⟨.int .u64,1,8,.d (.int .u64 0),.int .u64 0,[]⟩),(198,⟨.func,1,8,.d .nilf,.nilf,[]⟩),(213,⟨.int .i64,1,8,.d (.int .i64 0),.int .i64 0,[]⟩),(220,⟨.int .u32,1,4,.d (.int .u32 0),.int .u32 0,[]⟩),(222,⟨.int .u64,1,8,.d (.int .u64 0),.int .u64 0,[]⟩),(234,⟨.slice 5,1,24,.nils 1,.list 1 [],[]⟩),(236,⟨.func,1,8,.d .nilf,.nilf,[]⟩),(239,⟨.int .u64,1,8,.d (.int .u64 0),.int .u64 0,[]⟩),(243,⟨.ptr 3,1,8,.d .nilp,.nilp,[]⟩),(256,⟨.ptr 239,1,8,.d .nilp,.nilp,[]⟩),(261,⟨.struct [(0,1),(1,1),(2,1),(3,1)],4,48,.agg [.d (.int .i64 0),.d (.int .i64 0),.nils 3,.d (.int .i64 0)],.agg [.int .i64 0,.int .i64 0,.list 3 [],.int .i64 0],[]⟩),(264,⟨.slice 47,1,24,.nils 1,.list 1 [],[]⟩)]
def Mz:Nat→TI:=Ql1 tt
theorem kU:Mz 1=⟨.func,1,8,.d .nilf,.nilf,[]⟩:=rfl
theorem kT:Mz 2=⟨.int .i64,1,8,.d (.int .i64 0),.int .i64 0,[]⟩:=rfl
theorem kS:Mz 3=⟨.int .i64,1,8,.d (.int .i64 0),.int .i64 0,[]⟩:=rfl
theorem kR:Mz 4=⟨.bool,1,1,.d (.bool false),.bool false,[]⟩:=rfl
theorem kP:Mz 5=⟨.int .u8,1,1,.d (.int .u8 0),.int .u8 0,[]⟩:=rfl
theorem kO:Mz 9=⟨.str,1,16,.d (.str []),.str [],[]⟩:=rfl
theorem Fm:Mz 21=⟨.int .i32,1,4,.d (.int .i32 0),.int .i32 0,[]⟩:=rfl
theorem Fl:Mz 22=⟨.slice 9,1,24,.nils 1,.list 1 [],[]⟩:=rfl
theorem Fk:Mz 24=⟨.struct [(0,1),(1,1)],2,48,.agg [.nils 1,.nils 1],.agg [.list 1 [],.list 1 []],[]⟩:=rfl
theorem Fj:Mz 25=⟨.array 2 3,2,16,.d (.agg [.int .i64 0,.int .i64 0]),.agg [.int .i64 0,.int .i64 0],[]⟩:=rfl
theorem Fi:Mz 26=⟨.slice 43,1,24,.nils 4,.list 4 [],[]⟩:=rfl
theorem Fh:Mz 30=⟨.int .i64,1,8,.d (.int .i64 0),.int .i64 0,[]⟩:=rfl
theorem Fg:Mz 37=⟨.slice 51,1,24,.nils 2,.list 2 [],[]⟩:=rfl
theorem Ff:Mz 40=⟨.slice 49,1,24,.nils 3,.list 3 [],[]⟩:=rfl
theorem Fe:Mz 41=⟨.slice 166,1,24,.nils 3,.list 3 [],[]⟩:=rfl
theorem Fc:Mz 43=⟨.struct [(0,1),(1,1),(2,1),(3,1)],4,88,.agg [.d (.str []),.nils 1,.nils 3,.nils 3],.agg [.str [],.list 1 [],.list 3 [],.list 3 []],[]⟩:=rfl
theorem Fb:Mz 45=⟨.slice 82,1,24,.nils 3,.list 3 [],[]⟩:=rfl
theorem Fa:Mz 47=⟨.slice 75,1,24,.nils 8,.list 8 [],[]⟩:=rfl
theorem E9:Mz 49=⟨.struct [(0,1),(1,1),(2,1)],3,64,.agg [.d (.str []),.nils 3,.nils 8],.agg [.str [],.list 3 [],.list 8 []],[]⟩:=rfl
theorem E8:Mz 51=⟨.struct [(0,1),(1,1)],2,40,.agg [.d (.str []),.nils 3],.agg [.str [],.list 3 []],[]⟩:=rfl
theorem E7:Mz 59=⟨.slice 72,1,24,.nils 2,.list 2 [],[]⟩:=rfl
theorem E6:Mz 65=⟨.slice 3,1,24,.nils 1,.list 1 [],[]⟩:=rfl
theorem E5:Mz 69=⟨.slice 45,1,24,.nils 1,.list 1 [],[]⟩:=rfl
theorem E4:Mz 70=⟨.slice 4,1,24,.nils 1,.list 1 [],[]⟩:=rfl
theorem E3:Mz 72=⟨.struct [(0,1),(1,1)],2,32,.agg [.d (.int .i64 0),.nils 3],.agg [.int .i64 0,.list 3 []],[]⟩:=rfl
theorem E1:Mz 75=⟨.struct [(0,1),(1,1),(2,1),(3,1),(4,1),(5,1),(6,1),(7,1)],8,120,.agg [.d (.int .i64 0),.d (.str []),.d (.str []),.d (.str []),.d (.int .i64 0),.d (.int .i64 0),.nils 3,.nils 3],.agg [.int .i64 0,.str [],.str [],.str [],.int .i64 0,.int .i64 0,.list 3 [],.list 3 []],[]⟩:=rfl
theorem E0:Mz 80=⟨.func,1,8,.d .nilf,.nilf,[]⟩:=rfl
theorem Ez:Mz 82=⟨.struct [(0,1),(1,1),(2,1)],3,32,.d (.agg [.int .i64 0,.str [],.int .i64 0]),.agg [.int .i64 0,.str [],.int .i64 0],[.int .i64,.str,.int .i64]⟩:=rfl
theorem Ey:Mz 86=⟨.func,1,8,.d .nilf,.nilf,[]⟩:=rfl
theorem Ex:Mz 87=⟨.func,1,8,.d .nilf,.nilf,[]⟩:=rfl
theorem Ew:Mz 88=⟨.map 9 43,1,8,.d .nilm,.nilm,[]⟩:=rfl
theorem Ev:Mz 91=⟨.func,1,8,.d .nilf,.nilf,[]⟩:=rfl
theorem Eu:Mz 92=⟨.func,1,8,.d .nilf,.nilf,[]⟩:=rfl
theorem Bg:Mz 105=⟨.map 3 4,1,8,.d .nilm,.nilm,[]⟩:=rfl
theorem Bf:Mz 109=⟨.func,1,8,.d .nilf,.nilf,[]⟩:=rfl
theorem Be:Mz 115=⟨.func,1,8,.d .nilf,.nilf,[]⟩:=rfl
theorem Bc:Mz 124=⟨.map 9 4,1,8,.d .nilm,.nilm,[]⟩:=rfl
theorem Bb:Mz 125=⟨.func,1,8,.d .nilf,.nilf,[]⟩:=rfl
theorem Ba:Mz 130=⟨.func,1,8,.d .nilf,.nilf,[]⟩:=rfl
theorem P9:Mz 133=⟨.slice 141,1,24,.nils 4,.list 4 [],[]⟩:=rfl
theorem P8:Mz 137=⟨.struct [(0,1),(1,1),(2,1)],3,40,.agg [.d (.int .i64 0),.nils 3,.d (.int .i64 0)],.agg [.int .i64 0,.list 3 [],.int .i64 0],[]⟩:=rfl
theorem P7:Mz 141=⟨.struct [(0,1),(1,1),(2,1),(3,1)],4,40,.d (.agg [.int .i64 0,.str [],.int .i64 0,.int .i64 0]),.agg [.int .i64 0,.str [],.int .i64 0,.int .i64 0],[.int .i64,.str,.int .i64,.int .i64]⟩:=rfl
theorem P6:Mz 143=⟨.map 9 3,1,8,.d .nilm,.nilm,[]⟩:=rfl
theorem P5:Mz 152=⟨.map 3 45,1,8,.d .nilm,.nilm,[]⟩:=rfl
theorem P4:Mz 155=⟨.func,1,8,.d .nilf,.nilf,[]⟩:=rfl
theorem P3:Mz 157=⟨.func,1,8,.d .nilf,.nilf,[]⟩:=rfl
theorem P0:Mz 158=⟨.func,1,8,.d .nilf,.nilf,[]⟩:=rfl
theorem Pz:Mz 160=⟨.struct [(0,1),(1,1),(2,1)],3,56,.agg [.nils 3,.nils 3,.d .nilf],.agg [.list 3 [],.list 3 [],.nilf],[]⟩:=rfl
theorem Py:Mz 166=⟨.struct [(0,1),(1,1),(2,1)],3,24,.d (.agg [.int .i64 0,.int .i64 0,.bool false]),.agg [.int .i64 0,.int .i64 0,.bool false],[.int .i64,.int .i64,.bool]⟩:=rfl
theorem Px:Mz 168=⟨.array 15 3,15,120,.d (.agg [.int .i64 0,.int .i64 0,.int .i64 0,.int .i64 0,.int .i64 0,.int .i64 0,.int .i64 0,.int .i64 0,.int .i64 0,.int .i64 0,.int .i64 0,.int .i64 0,.int .i64 0,.int .i64 0,.int .i64 0]),.agg [.int .i64 0,.int .i64 0,.int .i64 0,.int .i64 0,.int .i64 0,.int .i64 0,.int .i64 0,.int .i64 0,.int .i64 0,.int .i64 0,.int .i64 0,.int .i64 0,.int .i64 0,.int .i64 0,.int .i64 0],[]⟩:=rfl
theorem Pw:Mz 185=⟨.func,1,8,.d .nilf,.nilf,[]⟩:=rfl
theorem Pv:Mz 186=⟨.func,1,8,.d .nilf,.nilf,[]⟩:=rfl
theorem Pu:Mz 196=⟨.int .u64,1,8,.d (.int .u64 0),.int .u64 0,[]⟩:=rfl
theorem Ps:Mz 198=⟨.func,1,8,.d .nilf,.nilf,[]⟩:=rfl
theorem Pr:Mz 213=⟨.int .i64,1,8,.d (.int .i64 0),.int .i64 0,[]⟩:=rfl
theorem Pq:Mz 220=⟨.int .u32,1,4,.d (.int .u32 0),.int .u32 0,[]⟩:=rfl
theorem Pp:Mz 222=⟨.int .u64,1,8,.d (.int .u64 0),.int .u64 0,[]⟩:=rfl
theorem Po:Mz 234=⟨.slice 5,1,24,.nils 1,.list 1 [],[]⟩:=rfl
theorem Pn:Mz 236=⟨.func,1,8,.d .nilf,.nilf,[]⟩:=rfl
theorem Pm:Mz 239=⟨.int .u64,1,8,.d (.int .u64 0),.int .u64 0,[]⟩:=rfl
theorem Pk:Mz 243=⟨.ptr 3,1,8,.d .nilp,.nilp,[]⟩:=rfl
theorem Pj:Mz 256=⟨.ptr 239,1,8,.d .nilp,.nilp,[]⟩:=rfl
theorem Ph:Mz 261=⟨.struct [(0,1),(1,1),(2,1),(3,1)],4,48,.agg [.d (.int .i64 0),.d (.int .i64 0),.nils 3,.d (.int .i64 0)],.agg [.int .i64 0,.int .i64 0,.list 3 [],.int .i64 0],[]⟩:=rfl
theorem Pg:Mz 264=⟨.slice 47,1,24,.nils 1,.list 1 [],[]⟩:=rfl
theorem Zx:Yd Tryz.prog Mz:=Qf4 (by kernel_rfl)
theorem Zo:Tryz.prog.follows .mixedOrders=true:=by kernel_rfl
instance encU8:Enc UInt8:=⟨fun b=>.int .u8 b.toNat,fun x=>UInt8.ofNat x.i.toNat,fun b=>by simp [D.i]⟩
instance szU8:Sz UInt8:=⟨1⟩
theorem Zyt {b:UInt8}:(enc b:D)=.int .u8 b.toNat:=rfl
theorem Zx4 {b:UInt8}:Ul UInt8 (.int .u8 b.toNat)=True:=eq_true (Wc b)
theorem Zyz {b:UInt8}:(dec (.int .u8 b.toNat):UInt8)=b:=Enc.dec_enc b
def X8 (c a b:UInt8):Bool:=decide (a≤c)&&decide (c≤b)
theorem Gz {a b:UInt8}:Xp (a.toNat:Int) (b.toNat:Int)=decide (a≤b):=by
 unfold Xp
 congr 1
 rw [UInt8.le_iff_toNat_le];exact propext (by omega)
def Gq:Con:=Um (fun (_ _ _:UInt8)=>True) (fun c a b=>X8 c a b)
theorem wJ:type_of% @Gq.eq_def:=@Gq.eq_def
theorem Qxs {p:Prop} (h:p:=by (sym=>simp [Kt,Kc,Kd,Kb,Ku,Kw,Ko,X4,V2,Mo,Tx,jB,vK,Za6,Zmm,Zm7,Zm6,jC,Qk,Qo,Qi,Qn,Ql,Qp,Qv,Q3,Jh,Jb,Z3,Z6,Z7,Qq,Qj,Qx,Qm,Qg,Qr,Qw,Q4,Jf,Jk,Ju,Xf,Xe,Wm,Wz,Yj,Yr,Yq,Mf,Me,M6,M5,Mv,Mu,S5,S4,Bs,S3,S0,Le,Sy,Sx,Sw,Nh,Ng,Nf,Nd,Nc,Nb,Na,H9,H8,H7,H6,H5,H4,H3,H2,H1,H0,Hz,Hy,Hx,Hw,Hv,D.setCell.eq_1,Zl,Xn,Xm,Xl,Xk,J2,J6,Xd,Gz,Zw0,Zwz,Zwy,Zwx,Zww,Zwv,Zwu,Zwt,Zws,Zwr,Zwq,Zwp,Zwo,Zwn,Zwm,Zwl,Zwk,Zwj,Zwi,Zwh,Zwg,Zwf,Zwe,Zwd,Zwc,Zwb,Zwa,Zv9,Zv8,Zv7,Zv6,Zv5,Zv4,Zv3,Zv2,Zv1,Zv0,Zvz,Zvy,Zvx,Zvw,Zvv,Zvu,Zvt,Zvs,Zvr,Zvq,Zvp,Zvo,Zvn,Zvm,Zvl,Zvk,Zvj,Zvi,Zvh,Zvg,Zvf,Zve,Zvd,Zvc,Zvb,Zva,Zu9,Zu8,Zu7,Zu6,Zu5,Zu4,Zu3,Zu2,Zu1,Zu0,Zuz,Zuy,Zux,Zuw,Zuv,Zuu,Zut,Zus,Zur,Zuq,Zup,Zuo,Zun,Zum,Zul,Zuk,Zuj,Zui,Zuh,Zug,Zuf,Zue,Zud,Zuc,Zub,Zua,Zt9,Zt8,Zt7,Zt6,Zt5,Zt4,Zt3,Zt2,Zt1,Zt0,Ztz,Zty,Ztx,Ztw,Ztv,Ztu,Ztt,Zts,Ztr,Ztq,Ztp,Zto,Ztn,Ztm,Ztl,Ztk,Ztj,Zti,Zth,Ztg,Ztf,Zte,Ztd,Ztc,Ztb,Zta,Zs9,Zs8,Zs7,Zs6,Zs5,Zs4,Zs3,Zs2,Zs1,Zs0,Zsz,Zsy,Zsx,Zsw,Zsv,Zsu,Zst,Zss,Zsr,Zsq,Zsp,Zso,Zsn,Zsm,Zsl,Zsk,Zsj,Zsi,Zsh,Zsg,Zsf,Zse,Zsd,Zsc,Zsb,Zsa,Zr9,Zr8,Zr7,Zr6,Zr5,Zr4,Zr3,Zr2,Zr1,Zr0,Zrz,Zry,Zrx,Zrw,Zrv,Zru,Zrt,Zrs,Zrr,Zrq,Zrp,Zro,Zrn,Zrm,Zrl,Zrk,Zrj,Zri,Zrh,Zrg,Zrf,Zre,Zrd,Zrc,Zrb,Zra,Zq9,Zq8,Zq7,Zq6,Zq5,Zq4,Zq3,Zq2,Zq1,Zq0,Zqz,Zqy,Zqx,Zqw,Zqv,Zqu,Zqt,Zqs,Zqr,Zqq,Zqp,Zqo,Zqn,Zqm,Zql,Zqk,Zqj,Zqi,Zqh,Zqg,Zqf,Zqe,Zqd,Zqc,Zqb,Zqa,Zp9,Zp8,Zp7,Zp6,Zp5,Zp4,Zp3,Zp2,Zp1,Zp0,Zpz,Zpy,Zpx,Zpw,Zpv,Zpu,Zpt,Zps,Zpr,Zpq,Zpp,Zpo,Zpn,Zpm,Zpl,Zpk,Zpj,Zpi,Zph,Zpg,Zpf,Zpe,Zpd,Zpc,Zpb,Zpa,Zo9,Zo8,Zo7,Zo6,Zo5,Zo4,Zo3,Zo2,Zo1,Zo0,Zoz,Zoy,Zox,Zow,Zov,Zou,Zot,Zos,Zor,Zoq,Zop,Zoo,Zon,Zom,Zol,Zok,Zoj,Zoi,Zoh,Zog,Zof,Zoe,Zod,Zoc,Zob,Zoa,Zn9,Zn8,Zn7,Zn6,Zn5,Zn4,Zn3,Zn2,Zn1,Zn0,Znz,Zny,Znx,Znw,Znv,Znu,Znt,Zns,Znr,Znq,Znp,Zno,Znn,Znm,Znl,Znk,Znj,Zni,Znh,Zng,Znf,Zne,Znd,kU,kT,kS,kR,kP,kO,Fm,Fl,Fk,Fj,Fi,Fh,Fg,Ff,Fe,Fc,Fb,Fa,E9,E8,E7,E6,E5,E4,E3,E1,E0,Ez,Ey,Ex,Ew,Ev,Eu,Bg,Bf,Be,Bc,Bb,Ba,P9,P8,P7,P6,P5,P4,P3,P0,Pz,Py,Px,Pw,Pv,Pu,Ps,Pr,Pq,Pp,Po,Pn,Pm,Pk,Pj,Ph,Pg])):p:=h
theorem C7 {p:Prop} (h:p:=by
 (sym=>simp [Kt,Kc,Kd,Kb,Ku,Kw,Ko,X4,V2,Mo,Tx,jB,vK,Za6,Zmm,Zm7,Zm6,jC,Qk,Qo,Qi,Qn,Ql,Qp,Qv,Q3,Jh,Jb,Z3,Z6,Z7,Qq,Qj,Qx,Qm,Qg,Qr,Qw,Q4,Jf,Jk,Ju,Xf,Xe,Wm,Wz,Yj,Yr,Yq,Mf,Me,M6,M5,Mv,Mu,S5,S4,Bs,S3,S0,Le,Sy,Sx,Sw,Nh,Ng,Nf,Nd,Nc,Nb,Na,H9,H8,H7,H6,H5,H4,H3,H2,H1,H0,Hz,Hy,Hx,Hw,Hv,D.setCell.eq_1,Zl,Xn,Xm,Xl,Xk,J2,J6,Xd,Gz,Zw0,Zwz,Zwy,Zwx,Zww,Zwv,Zwu,Zwt,Zws,Zwr,Zwq,Zwp,Zwo,Zwn,Zwm,Zwl,Zwk,Zwj,Zwi,Zwh,Zwg,Zwf,Zwe,Zwd,Zwc,Zwb,Zwa,Zv9,Zv8,Zv7,Zv6,Zv5,Zv4,Zv3,Zv2,Zv1,Zv0,Zvz,Zvy,Zvx,Zvw,Zvv,Zvu,Zvt,Zvs,Zvr,Zvq,Zvp,Zvo,Zvn,Zvm,Zvl,Zvk,Zvj,Zvi,Zvh,Zvg,Zvf,Zve,Zvd,Zvc,Zvb,Zva,Zu9,Zu8,Zu7,Zu6,Zu5,Zu4,Zu3,Zu2,Zu1,Zu0,Zuz,Zuy,Zux,Zuw,Zuv,Zuu,Zut,Zus,Zur,Zuq,Zup,Zuo,Zun,Zum,Zul,Zuk,Zuj,Zui,Zuh,Zug,Zuf,Zue,Zud,Zuc,Zub,Zua,Zt9,Zt8,Zt7,Zt6,Zt5,Zt4,Zt3,Zt2,Zt1,Zt0,Ztz,Zty,Ztx,Ztw,Ztv,Ztu,Ztt,Zts,Ztr,Ztq,Ztp,Zto,Ztn,Ztm,Ztl,Ztk,Ztj,Zti,Zth,Ztg,Ztf,Zte,Ztd,Ztc,Ztb,Zta,Zs9,Zs8,Zs7,Zs6,Zs5,Zs4,Zs3,Zs2,Zs1,Zs0,Zsz,Zsy,Zsx,Zsw,Zsv,Zsu,Zst,Zss,Zsr,Zsq,Zsp,Zso,Zsn,Zsm,Zsl,Zsk,Zsj,Zsi,Zsh,Zsg,Zsf,Zse,Zsd,Zsc,Zsb,Zsa,Zr9,Zr8,Zr7,Zr6,Zr5,Zr4,Zr3,Zr2,Zr1,Zr0,Zrz,Zry,Zrx,Zrw,Zrv,Zru,Zrt,Zrs,Zrr,Zrq,Zrp,Zro,Zrn,Zrm,Zrl,Zrk,Zrj,Zri,Zrh,Zrg,Zrf,Zre,Zrd,Zrc,Zrb,Zra,Zq9,Zq8,Zq7,Zq6,Zq5,Zq4,Zq3,Zq2,Zq1,Zq0,Zqz,Zqy,Zqx,Zqw,Zqv,Zqu,Zqt,Zqs,Zqr,Zqq,Zqp,Zqo,Zqn,Zqm,Zql,Zqk,Zqj,Zqi,Zqh,Zqg,Zqf,Zqe,Zqd,Zqc,Zqb,Zqa,Zp9,Zp8,Zp7,Zp6,Zp5,Zp4,Zp3,Zp2,Zp1,Zp0,Zpz,Zpy,Zpx,Zpw,Zpv,Zpu,Zpt,Zps,Zpr,Zpq,Zpp,Zpo,Zpn,Zpm,Zpl,Zpk,Zpj,Zpi,Zph,Zpg,Zpf,Zpe,Zpd,Zpc,Zpb,Zpa,Zo9,Zo8,Zo7,Zo6,Zo5,Zo4,Zo3,Zo2,Zo1,Zo0,Zoz,Zoy,Zox,Zow,Zov,Zou,Zot,Zos,Zor,Zoq,Zop,Zoo,Zon,Zom,Zol,Zok,Zoj,Zoi,Zoh,Zog,Zof,Zoe,Zod,Zoc,Zob,Zoa,Zn9,Zn8,Zn7,Zn6,Zn5,Zn4,Zn3,Zn2,Zn1,Zn0,Znz,Zny,Znx,Znw,Znv,Znu,Znt,Zns,Znr,Znq,Znp,Zno,Znn,Znm,Znl,Znk,Znj,Zni,Znh,Zng,Znf,Zne,Znd,kU,kT,kS,kR,kP,kO,Fm,Fl,Fk,Fj,Fi,Fh,Fg,Ff,Fe,Fc,Fb,Fa,E9,E8,E7,E6,E5,E4,E3,E1,E0,Ez,Ey,Ex,Ew,Ev,Eu,Bg,Bf,Be,Bc,Bb,Ba,P9,P8,P7,P6,P5,P4,P3,P0,Pz,Py,Px,Pw,Pv,Pu,Ps,Pr,Pq,Pp,Po,Pn,Pm,Pk,Pj,Ph,Pg];tactic =>
   try simp only [eK] at *
   try simp only [Qgv] at *
   try simp (maxSteps:=4000000) only [Qk,Qo,Qi,Qn,Ql,Qp,Qv,Q3,Jh,Jb,Z3,Z6,Z7,Qq,Qj,Qx,Qm,Qg,Qr,Qw,Q4,Jf,Jk,Ju,Xf,Xe,Wm,Wz,Yj,Yr,Yq,Mf,Me,M6,M5,Mv,Mu,S5,S4,Bs,S3,S0,Le,Sy,Sx,Sw,Nh,Ng,Nf,Nd,Nc,Nb,Na,H9,H8,H7,H6,H5,H4,H3,H2,H1,H0,Hz,Hy,Hx,Hw,Hv,D.setCell.eq_1,Zl,Xn,Xm,Xl,Xk,J2,J6,Xd,Gz,wI]
   first|done|exact Kq.k)):p:=h
theorem Zh1 {p:Prop} (h:p:=by
 (sym=>simp [Kt,Kc,Kd,Kb,Ku,Kw,Ko,X4,V2,Mo,Tx,jB,vK,Za6,Zmm,Zm7,Zm6,jC,Qk,Qo,Qi,Qn,Ql,Qp,Qv,Q3,Jh,Jb,Z3,Z6,Z7,Qq,Qj,Qx,Qm,Qg,Qr,Qw,Q4,Jf,Jk,Ju,Xf,Xe,Wm,Wz,Yj,Yr,Yq,Mf,Me,M6,M5,Mv,Mu,S5,S4,Bs,S3,S0,Le,Sy,Sx,Sw,Nh,Ng,Nf,Nd,Nc,Nb,Na,H9,H8,H7,H6,H5,H4,H3,H2,H1,H0,Hz,Hy,Hx,Hw,Hv,D.setCell.eq_1,Zl,Xn,Xm,Xl,Xk,J2,J6,Xd,Gz,Zw0,Zwz,Zwy,Zwx,Zww,Zwv,Zwu,Zwt,Zws,Zwr,Zwq,Zwp,Zwo,Zwn,Zwm,Zwl,Zwk,Zwj,Zwi,Zwh,Zwg,Zwf,Zwe,Zwd,Zwc,Zwb,Zwa,Zv9,Zv8,Zv7,Zv6,Zv5,Zv4,Zv3,Zv2,Zv1,Zv0,Zvz,Zvy,Zvx,Zvw,Zvv,Zvu,Zvt,Zvs,Zvr,Zvq,Zvp,Zvo,Zvn,Zvm,Zvl,Zvk,Zvj,Zvi,Zvh,Zvg,Zvf,Zve,Zvd,Zvc,Zvb,Zva,Zu9,Zu8,Zu7,Zu6,Zu5,Zu4,Zu3,Zu2,Zu1,Zu0,Zuz,Zuy,Zux,Zuw,Zuv,Zuu,Zut,Zus,Zur,Zuq,Zup,Zuo,Zun,Zum,Zul,Zuk,Zuj,Zui,Zuh,Zug,Zuf,Zue,Zud,Zuc,Zub,Zua,Zt9,Zt8,Zt7,Zt6,Zt5,Zt4,Zt3,Zt2,Zt1,Zt0,Ztz,Zty,Ztx,Ztw,Ztv,Ztu,Ztt,Zts,Ztr,Ztq,Ztp,Zto,Ztn,Ztm,Ztl,Ztk,Ztj,Zti,Zth,Ztg,Ztf,Zte,Ztd,Ztc,Ztb,Zta,Zs9,Zs8,Zs7,Zs6,Zs5,Zs4,Zs3,Zs2,Zs1,Zs0,Zsz,Zsy,Zsx,Zsw,Zsv,Zsu,Zst,Zss,Zsr,Zsq,Zsp,Zso,Zsn,Zsm,Zsl,Zsk,Zsj,Zsi,Zsh,Zsg,Zsf,Zse,Zsd,Zsc,Zsb,Zsa,Zr9,Zr8,Zr7,Zr6,Zr5,Zr4,Zr3,Zr2,Zr1,Zr0,Zrz,Zry,Zrx,Zrw,Zrv,Zru,Zrt,Zrs,Zrr,Zrq,Zrp,Zro,Zrn,Zrm,Zrl,Zrk,Zrj,Zri,Zrh,Zrg,Zrf,Zre,Zrd,Zrc,Zrb,Zra,Zq9,Zq8,Zq7,Zq6,Zq5,Zq4,Zq3,Zq2,Zq1,Zq0,Zqz,Zqy,Zqx,Zqw,Zqv,Zqu,Zqt,Zqs,Zqr,Zqq,Zqp,Zqo,Zqn,Zqm,Zql,Zqk,Zqj,Zqi,Zqh,Zqg,Zqf,Zqe,Zqd,Zqc,Zqb,Zqa,Zp9,Zp8,Zp7,Zp6,Zp5,Zp4,Zp3,Zp2,Zp1,Zp0,Zpz,Zpy,Zpx,Zpw,Zpv,Zpu,Zpt,Zps,Zpr,Zpq,Zpp,Zpo,Zpn,Zpm,Zpl,Zpk,Zpj,Zpi,Zph,Zpg,Zpf,Zpe,Zpd,Zpc,Zpb,Zpa,Zo9,Zo8,Zo7,Zo6,Zo5,Zo4,Zo3,Zo2,Zo1,Zo0,Zoz,Zoy,Zox,Zow,Zov,Zou,Zot,Zos,Zor,Zoq,Zop,Zoo,Zon,Zom,Zol,Zok,Zoj,Zoi,Zoh,Zog,Zof,Zoe,Zod,Zoc,Zob,Zoa,Zn9,Zn8,Zn7,Zn6,Zn5,Zn4,Zn3,Zn2,Zn1,Zn0,Znz,Zny,Znx,Znw,Znv,Znu,Znt,Zns,Znr,Znq,Znp,Zno,Znn,Znm,Znl,Znk,Znj,Zni,Znh,Zng,Znf,Zne,Znd,kU,kT,kS,kR,kP,kO,Fm,Fl,Fk,Fj,Fi,Fh,Fg,Ff,Fe,Fc,Fb,Fa,E9,E8,E7,E6,E5,E4,E3,E1,E0,Ez,Ey,Ex,Ew,Ev,Eu,Bg,Bf,Be,Bc,Bb,Ba,P9,P8,P7,P6,P5,P4,P3,P0,Pz,Py,Px,Pw,Pv,Pu,Ps,Pr,Pq,Pp,Po,Pn,Pm,Pk,Pj,Ph,Pg];tactic =>
   try simp only [eK] at *
   try simp only [Qgv] at *
   try simp (maxSteps:=4000000) only [Qk,Qo,Qi,Qn,Ql,Qp,Qv,Q3,Jh,Jb,Z3,Z6,Z7,Qq,Qj,Qx,Qm,Qg,Qr,Qw,Q4,Jf,Jk,Ju,Xf,Xe,Wm,Wz,Yj,Yr,Yq,Mf,Me,M6,M5,Mv,Mu,S5,S4,Bs,S3,S0,Le,Sy,Sx,Sw,Nh,Ng,Nf,Nd,Nc,Nb,Na,H9,H8,H7,H6,H5,H4,H3,H2,H1,H0,Hz,Hy,Hx,Hw,Hv,D.setCell.eq_1,Zl,Xn,Xm,Xl,Xk,J2,J6,Xd,Gz,wI]
   repeat' first|with_reducible assumption|with_reducible apply Zw|intro _|omega|(rw [Xt];omega)
   all_goals first|with_reducible exact uL|omega|exact Kq.k)):p:=h
theorem Qqb {p:Prop} (h:p:=by
 first|(sym=>simp [Kt,Kc,Kd,Kb,Ku,Kw,Ko,X4,V2,Mo,Tx,jB,vK,Za6,Zmm,Zm7,Zm6,jC,Qk,Qo,Qi,Qn,Ql,Qp,Qv,Q3,Jh,Jb,Z3,Z6,Z7,Qq,Qj,Qx,Qm,Qg,Qr,Qw,Q4,Jf,Jk,Ju,Xf,Xe,Wm,Wz,Yj,Yr,Yq,Mf,Me,M6,M5,Mv,Mu,S5,S4,Bs,S3,S0,Le,Sy,Sx,Sw,Nh,Ng,Nf,Nd,Nc,Nb,Na,H9,H8,H7,H6,H5,H4,H3,H2,H1,H0,Hz,Hy,Hx,Hw,Hv,D.setCell.eq_1,Zl,Xn,Xm,Xl,Xk,J2,J6,Xd,Gz,Zw0,Zwz,Zwy,Zwx,Zww,Zwv,Zwu,Zwt,Zws,Zwr,Zwq,Zwp,Zwo,Zwn,Zwm,Zwl,Zwk,Zwj,Zwi,Zwh,Zwg,Zwf,Zwe,Zwd,Zwc,Zwb,Zwa,Zv9,Zv8,Zv7,Zv6,Zv5,Zv4,Zv3,Zv2,Zv1,Zv0,Zvz,Zvy,Zvx,Zvw,Zvv,Zvu,Zvt,Zvs,Zvr,Zvq,Zvp,Zvo,Zvn,Zvm,Zvl,Zvk,Zvj,Zvi,Zvh,Zvg,Zvf,Zve,Zvd,Zvc,Zvb,Zva,Zu9,Zu8,Zu7,Zu6,Zu5,Zu4,Zu3,Zu2,Zu1,Zu0,Zuz,Zuy,Zux,Zuw,Zuv,Zuu,Zut,Zus,Zur,Zuq,Zup,Zuo,Zun,Zum,Zul,Zuk,Zuj,Zui,Zuh,Zug,Zuf,Zue,Zud,Zuc,Zub,Zua,Zt9,Zt8,Zt7,Zt6,Zt5,Zt4,Zt3,Zt2,Zt1,Zt0,Ztz,Zty,Ztx,Ztw,Ztv,Ztu,Ztt,Zts,Ztr,Ztq,Ztp,Zto,Ztn,Ztm,Ztl,Ztk,Ztj,Zti,Zth,Ztg,Ztf,Zte,Ztd,Ztc,Ztb,Zta,Zs9,Zs8,Zs7,Zs6,Zs5,Zs4,Zs3,Zs2,Zs1,Zs0,Zsz,Zsy,Zsx,Zsw,Zsv,Zsu,Zst,Zss,Zsr,Zsq,Zsp,Zso,Zsn,Zsm,Zsl,Zsk,Zsj,Zsi,Zsh,Zsg,Zsf,Zse,Zsd,Zsc,Zsb,Zsa,Zr9,Zr8,Zr7,Zr6,Zr5,Zr4,Zr3,Zr2,Zr1,Zr0,Zrz,Zry,Zrx,Zrw,Zrv,Zru,Zrt,Zrs,Zrr,Zrq,Zrp,Zro,Zrn,Zrm,Zrl,Zrk,Zrj,Zri,Zrh,Zrg,Zrf,Zre,Zrd,Zrc,Zrb,Zra,Zq9,Zq8,Zq7,Zq6,Zq5,Zq4,Zq3,Zq2,Zq1,Zq0,Zqz,Zqy,Zqx,Zqw,Zqv,Zqu,Zqt,Zqs,Zqr,Zqq,Zqp,Zqo,Zqn,Zqm,Zql,Zqk,Zqj,Zqi,Zqh,Zqg,Zqf,Zqe,Zqd,Zqc,Zqb,Zqa,Zp9,Zp8,Zp7,Zp6,Zp5,Zp4,Zp3,Zp2,Zp1,Zp0,Zpz,Zpy,Zpx,Zpw,Zpv,Zpu,Zpt,Zps,Zpr,Zpq,Zpp,Zpo,Zpn,Zpm,Zpl,Zpk,Zpj,Zpi,Zph,Zpg,Zpf,Zpe,Zpd,Zpc,Zpb,Zpa,Zo9,Zo8,Zo7,Zo6,Zo5,Zo4,Zo3,Zo2,Zo1,Zo0,Zoz,Zoy,Zox,Zow,Zov,Zou,Zot,Zos,Zor,Zoq,Zop,Zoo,Zon,Zom,Zol,Zok,Zoj,Zoi,Zoh,Zog,Zof,Zoe,Zod,Zoc,Zob,Zoa,Zn9,Zn8,Zn7,Zn6,Zn5,Zn4,Zn3,Zn2,Zn1,Zn0,Znz,Zny,Znx,Znw,Znv,Znu,Znt,Zns,Znr,Znq,Znp,Zno,Znn,Znm,Znl,Znk,Znj,Zni,Znh,Zng,Znf,Zne,Znd,kU,kT,kS,kR,kP,kO,Fm,Fl,Fk,Fj,Fi,Fh,Fg,Ff,Fe,Fc,Fb,Fa,E9,E8,E7,E6,E5,E4,E3,E1,E0,Ez,Ey,Ex,Ew,Ev,Eu,Bg,Bf,Be,Bc,Bb,Ba,P9,P8,P7,P6,P5,P4,P3,P0,Pz,Py,Px,Pw,Pv,Pu,Ps,Pr,Pq,Pp,Po,Pn,Pm,Pk,Pj,Ph,Pg];tactic =>
   try simp only [eK] at *
   try simp only [Qgv] at *
   try simp (maxSteps:=4000000) only [Qk,Qo,Qi,Qn,Ql,Qp,Qv,Q3,Jh,Jb,Z3,Z6,Z7,Qq,Qj,Qx,Qm,Qg,Qr,Qw,Q4,Jf,Jk,Ju,Xf,Xe,Wm,Wz,Yj,Yr,Yq,Mf,Me,M6,M5,Mv,Mu,S5,S4,Bs,S3,S0,Le,Sy,Sx,Sw,Nh,Ng,Nf,Nd,Nc,Nb,Na,H9,H8,H7,H6,H5,H4,H3,H2,H1,H0,Hz,Hy,Hx,Hw,Hv,D.setCell.eq_1,Zl,Xn,Xm,Xl,Xk,J2,J6,Xd,Gz,wI]
   repeat' first|with_reducible assumption|with_reducible apply Zw|intro _|omega|(rw [Xt];omega)
   all_goals first|with_reducible exact uL|omega|rfl|trivial|exact Or.inr trivial|assumption|contradiction|exact Qt)|exact Qxs):p:=h
class Kab:Prop
theorem Kab.k (_:Kab) (h:p:=by
 repeat' first|exact M7|with_reducible apply Zw|intro _
 ·rename_i h;unfold X8;simp [h]
 ·rename_i h;unfold X8;rw [decide_eq_false h];rfl):p:=h
theorem good_within:Qc Tryz.prog (220,Gq):=by
 obtain ⟨Kx,Kt,Kc,Kd,Kb,Ku,Kw,K,_⟩:=J7 Zx Zo [] false J5;have Ko:=wJ;refine J9 K Tryz.func220 [.tmp 6] rfl 15 rfl (fun c hc Ji Zh=>?_);unfold Gq at Zh;obtain ⟨x,y,z,rfl,-⟩:=Vb Zh;cases hc;have Gi:=Kt;have Qk:=@Zyt;have Qo:=@Zx4;have Qi:=@Zyz;have Kq:Kab:=⟨⟩;exact C7
def behind (c:UInt8):Bool:=X8 c 97 122||X8 c 65 90||X8 c 48 57||c==95
theorem Nw {a b:UInt8}:((a.toNat:Int)==(b.toNat:Int))=(a==b):=by
 rw [Bool.eq_iff_iff,Zj,Zj];constructor
 ·intro h;exact UInt8.toNat_inj.1 (by omega)
 ·intro h;rw [h]
theorem Quh:D.int .u8 97=enc (97:UInt8):=rfl
theorem Qse:D.int .u8 122=enc (122:UInt8):=rfl
theorem Qyn:D.int .u8 65=enc (65:UInt8):=rfl
theorem Qym:D.int .u8 90=enc (90:UInt8):=rfl
theorem Quj:D.int .u8 48=enc (48:UInt8):=rfl
theorem Qui:D.int .u8 57=enc (57:UInt8):=rfl
theorem Gi {b:UInt8}:(.int .u8 b.toNat:D)=enc b:=rfl
theorem Yw {k:IntKind} {x:UInt8}:D.isInt k (enc x)=(.u8=k):=rfl
theorem dG {x:UInt8}:D.i (enc x)=x.toNat:=rfl
theorem Uh {s:Nat} {x:UInt8}:D.fits s (enc x)=(s=1):=rfl
theorem Uk {f:Nat} {x:UInt8}:D.cell (enc x) f=enc x:=rfl
theorem Qvk {x:UInt8}:((x.toNat:Int)==95)=(x==95):=Nw (b:=95)
def bT:Con:=Xj (fun (_:UInt8)=>True) (fun c=>behind c)
class Kac:Prop
theorem Kac.k (_:Kac) (h:p:=by
 unfold behind;refine ⟨fun h1=>⟨fun h2=>⟨fun h3=>?_,fun h3=>?_⟩,fun h2=>?_⟩,fun h1=>?_⟩;all_goals simp only [*,Bool.false_or,Bool.true_or,Bool.or_true]):p:=h
theorem good_behind:Qc Tryz.prog (248,bT):=by
 obtain ⟨Kx,Kt,Kc,Kd,Kb,Ku,Kw,K,X4,_⟩:=J7 Zx Zo [] false (Q1 good_within wJ J5);have Ko:=bT.eq_def;refine J9 K Tryz.func248 [.tmp 2] rfl 17 rfl (fun c hc Ji Zh=>?_);unfold bT at Zh;obtain ⟨x,rfl,-⟩:=Q8 Zh;cases hc;have Qk:=@Quh;have Qo:=@Qse;have Qi:=@Qyn;have Qn:=@Qym;have Ql:=@Quj;have Qp:=@Qui;have Qv:=@Gi;have Q3:=@Yw;have Jh:=@dG;have Jb:=@Uh;have Z3:=@Uk;have Z6:=@Qvk;have Kq:Kac:=⟨⟩;exact C7
def B8 (s:List UInt8):Bool:=s.all behind
theorem zB {s:List UInt8} {j:Nat}:(s.drop 1).getD j 0=s.getD (j+1) 0:=by
 simp [Zd,Nat.add_comm]
def fX:Con:=Xj (fun (s:List UInt8)=>s.length≤9223372036854775807) (fun s=>B8 (s.drop 1))
class Kae:Prop
theorem Kae.k (_:Kae) (h:p:=by
 repeat' first|exact M7|with_reducible apply Zw|intro _
 ·rename_i hb;unfold B8;rw [Ec (p:=behind) 0 (k-1) (by rw [List.length_drop];omega) (by rw [zB,show k-1+1=k by omega];exact hb)]
 ·rename_i hb;refine ⟨k+1,by exact Qt,by omega,by omega,fun j h1 hj=>?_,by omega⟩
  by_cases Oe:j=k
  ·subst Oe;exact hb
  ·exact Jl j h1 (by omega)):p:=h
class Kaf:Prop
theorem Kaf.k (_:Kaf) (h:p:=by
 unfold B8;rw [Mk (p:=behind) 0 fun j hj=>?_];rw [zB];rw [List.length_drop] at hj;exact Jl (j+1) (by omega) (by omega)):p:=h
class Kad:Prop
theorem Kad.k (_:Kad) (h:p:=by
 refine Zm [2,4,5,6,7,8,9,10,11,12,13,14] (fun k:Nat=>[(3,.d (.int .i64 k))]) (fun k:Nat=>[]) (fun k:Nat=>1≤k∧(k=1∨k≤s.length)∧∀ j,1≤j→j<k→behind (s.getD j 0)=true) (fun k:Nat=>s.length-k) 1 ?_ ?_ ?_
 ·simp;omega
 ·exact Qt
 rintro k ⟨Ze7,hk,Jl⟩;rcases Zn k s.length with ⟨Zv,Qk⟩|⟨Zv,Qk⟩
 ·have Qo:=@Gi;have Qi:=@Yw;have Qn:=@dG;have Ql:=@Uh;have Qp:=@Uk;have Kq:Kae:=⟨⟩;exact C7
 ·have Kq:Kaf:=⟨⟩;exact C7):p:=h
theorem good_all1:Qc Tryz.prog (221,fX):=by
 obtain ⟨Kx,Kt,Kc,Kd,Kb,Ku,Kw,K,X4,_⟩:=J7 Zx Zo [] false (Q1 good_behind bT.eq_def J5);have Ko:=fX.eq_def;refine J9 K Tryz.func221 [.tmp 2] rfl 15 rfl (fun c hc Ji Zh=>?_);unfold fX at Zh;obtain ⟨s,rfl,hs⟩:=Q8 Zh;cases hc;have Kq:Kad:=⟨⟩;exact C7
def Wr (s:List UInt8):Bool:=match s with
 | []=>false
 | c::r=>X8 c 97 122&&B8 r
def Mm (s:List UInt8):Bool:=match s with
 | []=>false
 | c::r=>X8 c 65 90&&B8 r
def V1:Con:=Xj (fun (s:List UInt8)=>s.length≤9223372036854775807) (fun s=>Wr s)
theorem Aj:type_of% @V1.eq_def:=@V1.eq_def
class Kag:Prop
theorem Kag.k (_:Kag) (h:p:=by
 cases s with
 | nil=>simp [Wr]
 | cons c r =>
  simp only [Zi] at hs;simp only [Zi,Wr,Int.toNat_zero,List.getD_cons_zero,List.drop_succ_cons,List.drop_zero];repeat' first|exact M7|with_reducible apply Zw|intro _
  all_goals simp_all):p:=h
theorem good_IsWord1:Qc Tryz.prog (181,V1):=by
 obtain ⟨Kx,Kt,Kc,Kd,Kb,Ku,Kw,K,X4,V2,_⟩:=J7 Zx Zo [] false (Q1 good_within wJ (Q1 good_all1 fX.eq_def J5));have Ko:=Aj;refine J9 K Tryz.func181 [.tmp 2] rfl 15 rfl (fun c hc Ji Zh=>?_);unfold V1 at Zh;obtain ⟨s,rfl,hs⟩:=Q8 Zh;cases hc;have Qk:=@Gi;have Qo:=@Yw;have Qi:=@dG;have Qn:=@Uh;have Ql:=@Uk;have Qp:=@Quh;have Qv:=@Qse;have Kq:Kag:=⟨⟩;exact C7
def Gu:Con:=Xj (fun (s:List UInt8)=>s.length≤9223372036854775807) (fun s=>Mm s)
theorem wY:type_of% @Gu.eq_def:=@Gu.eq_def
class Kah:Prop
theorem Kah.k (_:Kah) (h:p:=by
 cases s with
 | nil=>simp [Mm]
 | cons c r =>
  simp only [Zi] at hs;simp only [Zi,Mm,Int.toNat_zero,List.getD_cons_zero,List.drop_succ_cons,List.drop_zero];repeat' first|exact M7|with_reducible apply Zw|intro _
  all_goals simp_all):p:=h
theorem good_IsTag1:Qc Tryz.prog (179,Gu):=by
 obtain ⟨Kx,Kt,Kc,Kd,Kb,Ku,Kw,K,X4,V2,_⟩:=J7 Zx Zo [] false (Q1 good_within wJ (Q1 good_all1 fX.eq_def J5));have Ko:=wY;refine J9 K Tryz.func179 [.tmp 2] rfl 15 rfl (fun c hc Ji Zh=>?_);unfold Gu at Zh;obtain ⟨s,rfl,hs⟩:=Q8 Zh;cases hc;have Qk:=@Gi;have Qo:=@Yw;have Qi:=@dG;have Qn:=@Uh;have Ql:=@Uk;have Qp:=@Qyn;have Qv:=@Qym;have Kq:Kah:=⟨⟩;exact C7
structure Node where
 kind:Int
 name:List UInt8
 n:Int
 deriving DecidableEq
instance encNode:Enc Node:=⟨fun a=>.agg [.int .i64 a.kind,.str a.name,.int .i64 a.n],fun x=>match x with
 | .agg [a,b,c]=>⟨a.i,b.s,c.i⟩
 | _=>⟨0,[],0⟩,fun a=>rfl⟩
instance szNode:Sz Node:=⟨3⟩
theorem Kg:Sz.sz Node=3:=rfl
theorem Zz {n:Node}:(enc n:D)=.agg [.int .i64 n.kind,.str n.name,.int .i64 n.n]:=rfl
theorem Z4 {a:Int} {b:List UInt8} {c:Int}:(dec (.agg [.int .i64 a,.str b,.int .i64 c]):Node)=⟨a,b,c⟩:=rfl
theorem Z1 {a:Int} {b:List UInt8} {c:Int}:Ul Node (.agg [.int .i64 a,.str b,.int .i64 c])=True:=eq_true rfl
theorem Z2 {a b:Node}:((a.kind==b.kind)&&((a.name==b.name)&&(a.n==b.n)))=(a==b):=by
 rw [Bool.eq_iff_iff];cases a;cases b;simp
theorem Z0 {n:Node}:Node.mk n.kind n.name n.n=n:=rfl
def Yc (n:Node):Int:=if n.kind=5 then 2 else if n.kind=6∨n.kind=7 then n.n else 0
def Ta:Con:=Xj (fun (_:Node)=>True) (fun n=>Yc n)
class Kai:Prop
theorem Kai.k (_:Kai) (h:p:=by
 unfold Yc;refine ⟨fun h=>by rw [if_pos h],fun h=>⟨fun h6=>⟨fun h7=>by rw [if_neg h,if_pos (.inr h7)],fun h7=>by rw [if_neg h,if_neg (by omega)]⟩,fun h6=>by rw [if_neg h,if_pos (.inl h6)]⟩⟩):p:=h
theorem good_many3:Qc Tryz.prog (191,Ta):=by
 obtain ⟨Kx,Kt,Kc,Kd,Kb,Ku,Kw,K,_⟩:=J7 Zx Zo [] false J5;have Ko:=Ta.eq_def;refine J9 K Tryz.func191 [.tmp 2] rfl 16 rfl (fun c hc Ji Zh=>?_);unfold Ta at Zh;obtain ⟨n,rfl,-⟩:=Q8 Zh;cases hc;have Qk:=@Zz;have Qo:=@Z1;have Qi:=@Z4;have Qn:=@Z0;have Ql:=@Kg;have Qp:=@Z2;have Kq:Kai:=⟨⟩;exact C7
def V0 (n:Node):Bool :=
 if n.kind=0∨n.kind=8∨n.kind=9 then decide (0≤n.n)
 else if 1≤n.kind∧n.kind≤5 then decide (n.n=0)
 else if n.kind=6 then decide (0≤n.n)&&decide (n.n≤50)
 else if n.kind=7 then decide (1≤n.n)&&decide (n.n≤50)
 else false
def Tn:Con:=Xj (fun (_:Node)=>True) (fun n=>V0 n)
class Kaj:Prop
theorem Kaj.k (_:Kaj) (h:p:=by
 unfold V0;repeat' first|exact M7|with_reducible apply Zw|intro _
 all_goals repeat (first|rw [if_pos (by omega)]|rw [if_neg (by omega)])
 all_goals try unfold Xp
 all_goals try unfold Wd
 all_goals rw [Bool.eq_iff_iff]
 all_goals simp only [Zg,Bool.or_eq_true,decide_eq_true_eq,Zj,Zu,iff_self,false_iff,iff_false,true_iff,iff_true]
 all_goals omega):p:=h
theorem good_numbered3:Qc Tryz.prog (155,Tn):=by
 obtain ⟨Kx,Kt,Kc,Kd,Kb,Ku,Kw,K,_⟩:=J7 Zx Zo [] false J5;have Ko:=Tn.eq_def;refine J9 K Tryz.func155 [.tmp 2] rfl 41 rfl (fun c hc Ji Zh=>?_);unfold Tn at Zh;obtain ⟨n,rfl,-⟩:=Q8 Zh;cases hc;refine W5 2 ?_;have Qk:=@Zz;have Qo:=@Z1;have Qi:=@Z4;have Qn:=@Z0;have Ql:=@Kg;have Qp:=@Z2;have Kq:Kaj:=⟨⟩;exact C7
def Za5:List Node→Int→Nat
 | [],_=>0
 | n::l,o=>if o-1+Yc n=0 then 1 else 1+Za5 l (o-1+Yc n)
def mX (t:List Node) (i:Int):Int:=if i<0∨(t.length:Int)≤i then -1 else i+Za5 (t.drop i.toNat) 1
def Zap (t:List Node):Prop:=t.length≤20000000∧∀ n∈t,0≤Yc n∧Yc n≤50
def O6:Con:=Jy (fun (t:Sl Node) (i:Int)=>Zap t.l∧Za4 .i64 i) (fun t i=>mX t.l i)
class Kal:Prop
theorem Kal.k (_:Kal) (h:p:=by
 repeat' first|exact M7|with_reducible apply Zw|intro _
 ·rename_i hz;rw [if_pos hz] at he;rw [e0];omega
 ·rename_i hz;rw [if_neg hz] at he;exact ⟨(k+1,o-1+Yc (t.getD k ⟨0,[],0⟩)),by exact Qt,by simp only;omega,by simp only;omega,by simp only;omega,by simp only;omega,by simp only;omega,by simp only;omega⟩):p:=h
class Kam:Prop
theorem Kam.k (_:Kam) (h:p:=by
 rw [e0];omega):p:=h
class Kak:Prop
theorem Kak.k (_:Kak) (h:p:=by
 repeat' first|exact M7|with_reducible apply Zw|intro _
 ·unfold mX;rw [if_pos (.inr ‹_›)]
 ·obtain ⟨i,rfl⟩:∃ n:Nat,i=n:=⟨i.toNat,by omega⟩
  have Ai:i<t.length:=by omega
  have e0:mX t i=i+Za5 (t.drop i) 1:=by
   unfold mX;rw [if_neg (by omega)]
   rfl
  refine Zm [4,16,17,18,19,20,21,22,23,24,25,26,27,28,29,30,31,32,33] (fun p:Nat×Int=>[(5,.d (.int .i64 p.2)),(6,.d (.int .i64 p.1))]) (fun p:Nat×Int=>[]) (fun p:Nat×Int=>i≤p.1∧p.1≤t.length∧1≤p.2∧p.2≤1+50*p.1∧i+Za5 (t.drop i) 1=p.1+Za5 (t.drop p.1) p.2) (fun p:Nat×Int=>t.length-p.1) (i,1) ?_ ?_ ?_
  ·exact ⟨Zr _,by simp only;omega,by simp,by simp only;omega,rfl⟩
  ·exact Qt
  rintro ⟨k,o⟩ ⟨h1,h2,h3,h4,h5⟩;simp only at h1 h2 h3 h4 h5;rcases Zn k t.length with ⟨Zv,Qk⟩|⟨Zv,Qk⟩
  ·have Qis:=hm (t.getD k ⟨0,[],0⟩) (by simp [Zv])
   have he:Za5 (t.drop k) o=if o-1+Yc (t.getD k ⟨0,[],0⟩)=0 then 1 else 1+Za5 (t.drop (k+1)) (o-1+Yc (t.getD k ⟨0,[],0⟩)):=by
    rw [List.drop_eq_getElem_cons Zv,Za5];simp [Zv]
   have Qo:=Zp (⟨0,[],0⟩:Node) Zv;have Qi:=@Zz;have Qn:=@Z1;have Ql:=@Z4;have Qp:=@Z0;have Qv:=@Kg;have Q3:=@Z2;have Kq:Kal:=⟨⟩;exact C7
  ·have hd:t.drop k=[]:=List.drop_eq_nil_of_le Zv;rw [hd,Za5] at h5;have Qi:=@Zz;have Qn:=@Z1;have Ql:=@Z4;have Qp:=@Z0;have Qv:=@Kg;have Q3:=@Z2;have Kq:Kam:=⟨⟩;exact C7
 ·unfold mX;rw [if_pos (.inl ‹_›)]):p:=h
theorem good_End3:Qc Tryz.prog (156,O6):=by
 obtain ⟨Kx,Kt,Kc,Kd,Kb,Ku,Kw,K,X4,_⟩:=J7 Zx Zo [] false (Q1 good_many3 Ta.eq_def J5);have Ko:=O6.eq_def;refine J9 K Tryz.func156 [.tmp 4] rfl 36 rfl (fun c hc Ji Zh=>?_);unfold O6 at Zh;obtain ⟨⟨t⟩,i,rfl,⟨ht,hm⟩,hi⟩:=Qf Zh;simp only at ht hm;rw [Xt] at hi;cases hc;refine W5 2 ?_;have Qi:=@Zz;have Qn:=@Z1;have Ql:=@Z4;have Qp:=@Z0;have Qv:=@Kg;have Q3:=@Z2;have Kq:Kak:=⟨⟩;exact C7
theorem Y0 {α:Type} {l:List α} {k:Nat} (d:α) (h:k<l.length):l.take (k+1)=l.take k++[l.getD k d]:=by
 rw [List.take_succ_eq_append_getElem h];simp [h]
def Ya (t:List Node):Bool:=t.all fun n=>n.kind != 8&&n.kind != 9
def Tf:Con:=Xj (fun (t:Sl Node)=>t.l.length≤9223372036854775807) (fun t=>Ya t.l)
class Kao:Prop
theorem Kao.k (_:Kao) (h:p:=by
 have Qs:((t.getD k ⟨0,[],0⟩).kind != 8&&(t.getD k ⟨0,[],0⟩).kind != 9)=false→false=Ya t:=by
  intro h;unfold Ya;rw [Ec (p:=fun n:Node=>n.kind != 8&&n.kind != 9) ⟨0,[],0⟩ k Zv h]
 repeat' first|exact M7|with_reducible apply Zw|intro _
 ·rename_i h8 h9;exact Qs (by rw [h9];simp)
 ·rename_i h8 h9;refine ⟨k+1,by exact Qt,by omega,fun j hj=>?_,by omega⟩
  by_cases Oe:j=k
  ·subst Oe;simp only [bne_iff_ne,ne_eq,Zg];exact ⟨h8,h9⟩
  ·exact Jl j (by omega)
 ·rename_i h8;exact Qs (by rw [h8];simp)):p:=h
class Kap:Prop
theorem Kap.k (_:Kap) (h:p:=by
 unfold Ya;rw [Mk (p:=fun n:Node=>n.kind != 8&&n.kind != 9) ⟨0,[],0⟩ fun j hj=>Jl j (by omega)]):p:=h
class Kan:Prop
theorem Kan.k (_:Kan) (h:p:=by
 refine Zm [2,4,5,6,7,8,9,10,11,12,13,14,15,16,17,18,19,20,21,22,23] (fun k:Nat=>[(3,.d (.int .i64 k))]) (fun k:Nat=>[]) (fun k:Nat=>k≤t.length∧∀ j,j<k→((t.getD j ⟨0,[],0⟩).kind != 8&&(t.getD j ⟨0,[],0⟩).kind != 9)=true) (fun k:Nat=>t.length-k) 0 ?_ ?_ ?_
 ·simp
 ·exact Qt
 rintro k ⟨hk,Jl⟩;rcases Zn k t.length with ⟨Zv,Qk⟩|⟨Zv,Qk⟩
 ·have Qo:=Zp (⟨0,[],0⟩:Node) Zv;have Qi:=@Zz;have Qn:=@Z1;have Ql:=@Z4;have Qp:=@Z0;have Qv:=@Kg;have Q3:=@Z2;have Kq:Kao:=⟨⟩;exact C7
 ·have Qi:=@Zz;have Qn:=@Z1;have Ql:=@Z4;have Qp:=@Z0;have Qv:=@Kg;have Q3:=@Z2;have Kq:Kap:=⟨⟩;exact C7):p:=h
theorem good_Plain3:Qc Tryz.prog (114,Tf):=by
 obtain ⟨Kx,Kt,Kc,Kd,Kb,Ku,Kw,K,_⟩:=J7 Zx Zo [] false J5;have Ko:=Tf.eq_def;refine J9 K Tryz.func114 [.tmp 2] rfl 24 rfl (fun c hc Ji Zh=>?_);unfold Tf at Zh;obtain ⟨⟨t⟩,rfl,ht⟩:=Q8 Zh;simp only at ht;cases hc;have Qi:=@Zz;have Qn:=@Z1;have Ql:=@Z4;have Qp:=@Z0;have Qv:=@Kg;have Q3:=@Z2;have Kq:Kan:=⟨⟩;exact C7
def fJ:Con:=Jy (fun (a b:Sl Node)=>a.l.length≤9223372036854775807∧b.l.length≤9223372036854775807) (fun a b=>a.l==b.l)
class Kar:Prop
theorem Kar.k (_:Kar) (h:p:=by
 repeat' first|exact M7|with_reducible apply Zw|intro _
 ·kernel_rfl
 ·rename_i h;symm;rw [Za];intro e;exact h (by rw [e])
 ·rename_i h;refine ⟨k+1,by exact Qt,by omega,fun j hj=>?_,by omega⟩
  by_cases Oe:j=k
  ·subst Oe;exact h
  ·exact Jl j (by omega)):p:=h
class Kas:Prop
theorem Kas.k (_:Kas) (h:p:=by
 symm;rw [Zj];refine List.ext_getElem Q5 fun j h1 h2=>?_;have:=Jl j (by omega)
 simpa [h1,h2] using this):p:=h
class Kaq:Prop
theorem Kaq.k (_:Kaq) (h:p:=by
 refine ⟨fun Tz=>?_,fun Zh7=>?_⟩
 ·symm;rw [Za];intro h;exact Tz (by rw [h])
 have Q5:a.length=b.length:=by omega
 refine Zm [4,11,12,13,14,15,16,17,18,19,20,21,22,23,24,25] (fun k:Nat=>[(5,.d (.int .i64 k))]) (fun k:Nat=>[]) (fun k:Nat=>k≤a.length∧∀ j,j<k→a.getD j ⟨0,[],0⟩=b.getD j ⟨0,[],0⟩) (fun k:Nat=>a.length-k) 0 ?_ ?_ ?_
 ·simp
 ·exact Qt
 rintro k ⟨hk,Jl⟩;rcases Zn k a.length with ⟨Zv,Qk⟩|⟨Zv,Qk⟩
 ·have Qo:=Zp (⟨0,[],0⟩:Node) Zv;have Qi:=Zp (⟨0,[],0⟩:Node) (show k<b.length by omega)
  have Qn:=@Zz;have Ql:=@Z1;have Qp:=@Z4;have Qv:=@Z0;have Q3:=@Kg;have Jh:=@Z2;have Kq:Kar:=⟨⟩;exact C7
 ·have Qn:=@Zz;have Ql:=@Z1;have Qp:=@Z4;have Qv:=@Z0;have Q3:=@Kg;have Jh:=@Z2;have Kq:Kas:=⟨⟩;exact C7):p:=h
theorem good_One3:Qc Tryz.prog (49,fJ):=by
 obtain ⟨Kx,Kt,Kc,Kd,Kb,Ku,Kw,K,_⟩:=J7 Zx Zo [] false J5;have Ko:=fJ.eq_def;refine J9 K Tryz.func49 [.tmp 4] rfl 26 rfl (fun c hc Ji Zh=>?_);unfold fJ at Zh;obtain ⟨⟨a⟩,⟨b⟩,rfl,ha,hb⟩:=Qf Zh;simp only at ha hb;cases hc;have Qn:=@Zz;have Ql:=@Z1;have Qp:=@Z4;have Qv:=@Z0;have Q3:=@Kg;have Jh:=@Z2;have Kq:Kaq:=⟨⟩;exact C7
def Cy (n:Node):Node:=if n.kind=0 then { n with n:=0 } else n
def Lk (a b:List Node):Bool:=a.map Cy==b.map Cy
def O4:Con:=Jy (fun (a b:Sl Node)=>a.l.length≤9223372036854775807∧b.l.length≤9223372036854775807) (fun a b=>Lk a.l b.l)
class Kau:Prop
theorem Kau.k (_:Kau) (h:p:=by
 revert Vx Qs;generalize a.getD k ⟨0,[],0⟩=x;generalize b.getD k ⟨0,[],0⟩=y;intro Vx Qs;repeat' first|exact M7|with_reducible apply Zw|intro _
 ·kernel_rfl
 all_goals first|(refine Qs (fun e=>?_);revert e;clear Vx Qs Jl;cases x;cases y;simp_all [Cy];done)|exact ⟨k+1,by exact Qt,by omega,Vx (by clear Vx Qs Jl;cases x;cases y;simp_all [Cy]),by omega⟩):p:=h
class Kav:Prop
theorem Kav.k (_:Kav) (h:p:=by
 symm;unfold Lk;rw [Zj];refine List.ext_getElem (by simp [Q5]) fun j h1 h2=>?_
 rw [Zf] at h1 h2;have:=Jl j (by omega)
 simpa [h1,h2] using this):p:=h
class Kat:Prop
theorem Kat.k (_:Kat) (h:p:=by
 refine ⟨fun Tz=>?_,fun Zh7=>?_⟩
 ·symm;unfold Lk;rw [Za];intro h;have:=congrArg List.length h;rw [Zf,Zf] at this;exact Tz (by rw [this])
 have Q5:a.length=b.length:=by omega
 refine Zm [4,6,7,13,14,15,16,17,18,19,20,21,22,23,24,25,26,27,28,29,30,31,32,33,34,35,36,37] (fun k:Nat=>[(5,.d (.int .i64 k))]) (fun k:Nat=>[]) (fun k:Nat=>k≤a.length∧∀ j,j<k→Cy (a.getD j ⟨0,[],0⟩)=Cy (b.getD j ⟨0,[],0⟩)) (fun k:Nat=>a.length-k) 0 ?_ ?_ ?_
 ·simp
 ·exact Qt
 rintro k ⟨hk,Jl⟩;rcases Zn k a.length with ⟨Zv,Qk⟩|⟨Zv,Qk⟩
 ·have Vx:Cy (a.getD k ⟨0,[],0⟩)=Cy (b.getD k ⟨0,[],0⟩)→∀ j,j<k+1→Cy (a.getD j ⟨0,[],0⟩)=Cy (b.getD j ⟨0,[],0⟩):=by
   intro h j hj;by_cases Oe:j=k
   ·subst Oe;exact h
   ·exact Jl j (by omega)
  have Qs:Cy (a.getD k ⟨0,[],0⟩)≠Cy (b.getD k ⟨0,[],0⟩)→false=Lk a b:=by
   intro h;symm;unfold Lk;rw [Za];intro e;apply h;have h1:(a.map Cy).getD k ⟨0,[],0⟩=(b.map Cy).getD k ⟨0,[],0⟩:=by rw [e]
   simpa [Zv,show k<b.length by omega] using h1
  have Qo:=Zp (⟨0,[],0⟩:Node) Zv;have Qi:=Zp (⟨0,[],0⟩:Node) (show k<b.length by omega)
  have Qn:=@Zz;have Ql:=@Z1;have Qp:=@Z4;have Qv:=@Z0;have Q3:=@Kg;have Jh:=@Z2;have Kq:Kau:=⟨⟩;exact C7
 ·have Qn:=@Zz;have Ql:=@Z1;have Qp:=@Z4;have Qv:=@Z0;have Q3:=@Kg;have Jh:=@Z2;have Kq:Kav:=⟨⟩;exact C7):p:=h
theorem good_Same3:Qc Tryz.prog (134,O4):=by
 obtain ⟨Kx,Kt,Kc,Kd,Kb,Ku,Kw,K,_⟩:=J7 Zx Zo [] false J5;have Ko:=O4.eq_def;refine J9 K Tryz.func134 [.tmp 4] rfl 38 rfl (fun c hc Ji Zh=>?_);unfold O4 at Zh;obtain ⟨⟨a⟩,⟨b⟩,rfl,ha,hb⟩:=Qf Zh;simp only at ha hb;cases hc;refine W5 2 ?_;have Qn:=@Zz;have Ql:=@Z1;have Qp:=@Z4;have Qv:=@Z0;have Q3:=@Kg;have Jh:=@Z2;have Kq:Kat:=⟨⟩;exact C7
def I8 (a b:List Node):List Node:=⟨5,[],0⟩::(a++b)
def cN:Con:=Jy (fun (a b:Sl Node)=>a.l.length≤1048576∧b.l.length≤1048576) (fun a b=>Sl.mk (I8 a.l b.l))
class Kaw:Prop
theorem Kaw.k (_:Kaw) (h:p:=by
 rfl):p:=h
theorem good_Arrow3:Qc Tryz.prog (265,cN):=by
 obtain ⟨Kx,Kt,Kc,Kd,Kb,Ku,Kw,K,_⟩:=J7 Zx Zo [] false J5;have Ko:=cN.eq_def;refine J9 K Tryz.func265 [.tmp 4] rfl 15 rfl (fun c hc Ji Zh=>?_);unfold cN at Zh;obtain ⟨⟨a⟩,⟨b⟩,rfl,ha,hb⟩:=Qf Zh;simp only at ha hb;cases hc;have Qk:=@Zz;have Qo:=@Z1;have Qi:=@Z4;have Qn:=@Z0;have Ql:=@Kg;have Qp:=@Z2;have Kq:Kaw:=⟨⟩;exact Zh1
theorem Qhi:∀ (l:List Node) (o:Int),Za5 l o≤l.length
 | [],o=>by simp [Za5]
 | n::l,o=>by
  simp only [Za5];split
  ·simp
  ·have:=Qhi l (o-1+Yc n);simp only [Zi];omega
def Xx (t:List Node):Nat→Nat→List Int
 | 0,_=>[]
 | m+1,at_=>if at_<t.length then (at_:Int)::Xx t m (at_+Za5 (t.drop at_) 1) else []
def G3 (t:List Node) (i:Int):List Int:=if i<0∨(t.length:Int)≤i then [] else Xx t (Yc (t.getD i.toNat ⟨0,[],0⟩)).toNat (i.toNat+1)
def En:Con:=Jy (fun (t:Sl Node) (i:Int)=>Zap t.l∧Za4 .i64 i) (fun t i=>Sl.mk (G3 t.l i))
class Kay:Prop
theorem Kay.k (_:Kay) (h:p:=by
 refine ⟨(k+1,q+Za5 (t.drop q) 1,out++[(q:Int)]),by exact Qt,by simp only;omega,by simp only;omega,by simp [h3],?_,by simp only;omega⟩
 simp only;rw [←h4,show M-(k+1)=M-k-1 by omega]
 simp):p:=h
class Kaz:Prop
theorem Kaz.k (_:Kaz) (h:p:=by
 rw [e0,h4]):p:=h
class KaA:Prop
theorem KaA.k (_:KaA) (h:p:=by
 rw [e0,h4]):p:=h
class Kax:Prop
theorem Kax.k (_:Kax) (h:p:=by
 repeat' first|exact M7|with_reducible apply Zw|intro _
 ·unfold G3;rw [if_pos (.inr ‹_›)];rfl
 ·obtain ⟨i,rfl⟩:∃ n:Nat,i=n:=⟨i.toNat,by omega⟩
  have Ai:i<t.length:=by omega
  have Qta:=hm (t.getD i ⟨0,[],0⟩) (by simp [Ai])
  obtain ⟨M,Qi⟩:∃ M:Nat,Yc (t.getD i ⟨0,[],0⟩)=M:=⟨(Yc (t.getD i ⟨0,[],0⟩)).toNat,by omega⟩
  have e0:G3 t i=Xx t M (i+1):=by
   unfold G3;rw [if_neg (by omega)]
   simp only [Zl,Qi]
  refine Zm [20,21,22,23,24,25,26,27,28,29,30,31,32,33,34,35,36,37,38,39,40,41] (fun p:Nat×Nat×List Int=>[(5,.sl 8 (p.2.2.map enc).length),(6,.d (.int .i64 p.2.1)),(7,.d (.int .i64 p.1))]) (fun p:Nat×Nat×List Int=>[(8,.row 1 (p.2.2.map enc) 0)]) (fun p:Nat×Nat×List Int=>p.1≤M∧p.2.1≤t.length∧p.2.2.length=p.1∧p.2.2++Xx t (M-p.1) p.2.1=Xx t M (i+1)) (fun p:Nat×Nat×List Int=>M-p.1) (0,i+1,[]) ?_ ?_ ?_
  ·exact ⟨Nat.zero_le _,Ai,rfl,rfl⟩
  ·exact Qt
  rintro ⟨k,q,out⟩ ⟨h1,h2,h3,h4⟩;simp only at h1 h2 h3 h4;rcases Zn k M with ⟨hk,Qk⟩|⟨hk,Qk⟩
  ·rcases Zn q t.length with ⟨hq,Qo⟩|⟨hq,Qo⟩
   ·have e1:M-k=(M-k-1)+1:=by omega
    rw [e1,Xx,if_pos hq] at h4;have Er:=Qhi (t.drop q) 1;rw [List.length_drop] at Er;have Qn:mX t q=((q+Za5 (t.drop q) 1:Nat):Int):=by
     unfold mX;rw [if_neg (by omega)]
     simp
    have hT:Zap t:=⟨ht,hm⟩;have Ql:=Zp (⟨0,[],0⟩:Node) Ai;have Q3:=@Zz;have Jh:=@Z1;have Jb:=@Z4;have Z3:=@Z0;have Z6:=@Kg;have Z7:=@Z2;have Kq:Kay:=⟨⟩;exact Zh1
   ·have hz:Xx t (M-k) q=[]:=by
     cases hc:M-k with
     | zero=>rfl
     | succ c=>rw [Xx,if_neg (by omega)]
    rw [hz,List.append_nil] at h4;have Qp:=Zp (⟨0,[],0⟩:Node) Ai;have Q3:=@Zz;have Jh:=@Z1;have Jb:=@Z4;have Z3:=@Z0;have Z6:=@Kg;have Z7:=@Z2;have Kq:Kaz:=⟨⟩;exact Zh1
  ·have hz:Xx t (M-k) q=[]:=by
    rw [show M-k=0 by omega]
    rfl
   rw [hz,List.append_nil] at h4;have Qv:=Zp (⟨0,[],0⟩:Node) Ai;have Q3:=@Zz;have Jh:=@Z1;have Jb:=@Z4;have Z3:=@Z0;have Z6:=@Kg;have Z7:=@Z2;have Kq:KaA:=⟨⟩;exact Zh1
 ·unfold G3;rw [if_pos (.inl ‹_›)];rfl):p:=h
theorem good_Kids3:Qc Tryz.prog (159,En):=by
 obtain ⟨Kx,Kt,Kc,Kd,Kb,Ku,Kw,K,X4,V2,_⟩:=J7 Zx Zo [] false (Q1 good_End3 O6.eq_def (Q1 good_many3 Ta.eq_def J5));have Ko:=En.eq_def;refine J9 K Tryz.func159 [.tmp 4] rfl 43 rfl (fun c hc Ji Zh=>?_);unfold En at Zh;obtain ⟨⟨t⟩,i,rfl,⟨ht,hm⟩,hi⟩:=Qf Zh;simp only at ht hm;rw [Xt] at hi;cases hc;refine W5 2 ?_;have Q3:=@Zz;have Jh:=@Z1;have Jb:=@Z4;have Z3:=@Z0;have Z6:=@Kg;have Z7:=@Z2;have Kq:Kax:=⟨⟩;exact C7
def dF:Int→List Int→List Int
 | x,[]=>if x=0 then [] else [x]
 | x,y::r=>if x=0 then dF (y-1) r else x::y::r
def Qc0:List Int→List Int
 | []=>[]
 | x::r=>dF x r
def uI:List Node→List Int→Bool
 | [],_=>true
 | n::l,rs=>if 100≤rs.length then false else uI l (dF (Yc n) rs)
def Fr (t:List Node):Bool:=uI t []
def Qnu (rs:List Int):Prop:=(∀ x∈rs,0≤x∧x≤50)∧∀ x∈rs.tail,1≤x
theorem nV {x:Int} {r:List Int}:el ((x::r).reverse.map enc) r.length=.int .i64 x:=by
 simp [el]
theorem Zja {x:Int} {r:List Int}:((x::r).reverse.map (enc:Int→D)).take r.length=r.reverse.map enc:=by
 rw [List.reverse_cons,List.map_append,List.take_left' (by simp)]
theorem Ap {x y:Int} {r:List Int}:((x::r).reverse.map (enc:Int→D)).set r.length (.int .i64 y)=(y::r).reverse.map enc:=by
 rw [List.reverse_cons,List.map_append,List.set_append];simp
theorem gQ {x:Int} {r:List Int} (h:x≠0):dF x r=x::r:=by
 cases r<;>simp [dF,h]
def Dr:Con:=Xj (fun (t:Sl Node)=>Zap t.l) (fun t=>Fr t.l)
class KaD:Prop
theorem KaD.k (_:KaD) (h:p:=by
 simp only [Qc0] at g4;exact ⟨(k+1,[]),by exact Qt,by simp only;omega,by simp,by simp,by simp only;rw [←h4,e1,g4],by simp only;omega⟩):p:=h
class KaE:Prop
theorem KaE.k (_:KaE) (h:p:=by
 exact ⟨[],by exact Qt,⟨by simp,by simp⟩,by simp,by rw [←g4];rfl,by simp⟩):p:=h
class KaF:Prop
theorem KaF.k (_:KaF) (h:p:=by
 refine ⟨(y-1)::r,by exact Qt,⟨fun z Qi=>?_,fun z Qi=>g2 z (List.mem_cons_of_mem _ Qi)⟩,by simp only [Zi];omega,by rw [←g4];simp only [Qc0,dF,if_true],by simp only [Zi];omega⟩
 rcases Zs.1 Qi with rfl|Qi
 ·omega
 ·exact g1 z (List.mem_cons_of_mem _ (List.mem_cons_of_mem _ Qi))):p:=h
class KaG:Prop
theorem KaG.k (_:KaG) (h:p:=by
 have e3:dF M rs=x::r:=by rw [←g4];exact gQ sI
 refine ⟨(k+1,x::r),by exact Qt,by simp only;omega,by simp only [Zi];omega,fun z Qi=>?_,by simp only;rw [←h4,e1,e3],by simp only;omega⟩
 rcases Zs.1 Qi with rfl|Qi
 ·omega
 ·exact ⟨g2 z Qi,(g1 z (List.mem_cons_of_mem _ Qi)).2⟩):p:=h
class KaC:Prop
theorem KaC.k (_:KaC) (h:p:=by
 revert e1 Qis;generalize Yc (t.getD k ⟨0,[],0⟩)=M;intro Qis e1;repeat' first|exact M7|with_reducible apply Zw|intro _
 ·rw [if_pos (by omega)] at e1
  rw [←h4,e1]
 ·rw [if_neg (by omega)] at e1
  have e2:rs.reverse++[M]=(M::rs).reverse:=by simp
  have hS:∀ (q:List Int),q≠[]→((q.length:Nat):Int)-1=((q.length-1:Nat):Int):=by
   intro q hq;have:=List.length_pos_iff.2 hq;omega
  refine Zm [23,24,25,26,27,28,29,30,31,32,33,34,35,36,37,38,39,40,41,42,43,44,45,46,47,48,49,50] (fun q:List Int=>[(3,.sl 5 (q.reverse.map enc).length),(5,.dead),(12,.dead),(15,.dead),(22,.dead)]) (fun q:List Int=>[(5,.row 1 (q.reverse.map enc) 0)]) (fun q:List Int=>Qnu q∧q.length≤101∧Qc0 q=dF M rs) (fun q:List Int=>q.length) (M::rs) ?_ ?_ ?_
  ·refine ⟨⟨fun x hx=>?_,fun x hx=>(h3 x hx).1⟩,by simp only [Zi];omega,rfl⟩
   rcases Zs.1 hx with rfl|hx
   ·exact Qis
   ·have:=h3 x hx;omega
  ·exact Qt
  rintro q ⟨⟨g1,g2⟩,g3,g4⟩;cases q with
  | nil =>
   have Qi:Wd 0 ((0:Nat):Int)=false:=rfl;have Z6:=@List.length_reverse.{0};have Z7:=@List.reverse_nil.{0};have Qq:=@Zz;have Qj:=@Z1;have Qx:=@Z4;have Qm:=@Z0;have Qg:=@Kg;have Qr:=@Z2;have Kq:KaD:=⟨⟩;exact Zh1
  | cons x r =>
   have Qi:Wd 0 ((r.length+1:Nat):Int)=true:=by rw [Jj];omega
   have Qn:((r.length+1:Nat):Int)-1=(r.length:Int):=by omega
   have Zb4:=g1 x (by simp)
   have Ql:el (List.map enc (x::r).reverse) r.length=.int .i64 x:=nV;have Qp:List.take r.length (List.map (enc:Int→D) (x::r).reverse)=List.map enc r.reverse:=Zja;simp only [Zi] at g3;by_cases sI:x=0
   ·subst sI;cases r with
    | nil =>
     have Qv:Wd 0 ((0:Nat):Int)=false:=rfl;simp only [List.length_nil] at Qi Qn Ql Qp;have Z6:=@List.length_reverse.{0};have Z7:=@List.reverse_nil.{0};have Qq:=@Zz;have Qj:=@Z1;have Qx:=@Z4;have Qm:=@Z0;have Qg:=@Kg;have Qr:=@Z2;have Kq:KaE:=⟨⟩;exact Zh1
    | cons y r =>
     have Jak:=g2 y (by simp)
     have Jaj:=g1 y (by simp)
     have Q3:Wd 0 ((r.length+1:Nat):Int)=true:=by rw [Jj];omega
     have Jh:((r.length+1:Nat):Int)-1=(r.length:Int):=by omega
     have Jb:el (List.map enc (y::r).reverse) r.length=.int .i64 y:=nV;simp only [Zi] at Qi Qn Ql Qp g3;have Z6:=@List.length_reverse.{0};have Z7:=@Ap;have Qq:=@Zz;have Qj:=@Z1;have Qx:=@Z4;have Qm:=@Z0;have Qg:=@Kg;have Qr:=@Z2;have Kq:KaF:=⟨⟩;exact Zh1
   ·have Z3:(x==(0:Int))=false:=by simpa using sI
    have Z6:=@List.length_reverse.{0};have Z7:=@Zz;have Qq:=@Z1;have Qj:=@Z4;have Qx:=@Z0;have Qm:=@Kg;have Qg:=@Z2;have Kq:KaG:=⟨⟩;exact Zh1):p:=h
class KaH:Prop
theorem KaH.k (_:KaH) (h:p:=by
 rw [←h4,List.drop_eq_nil_of_le Zv];rfl):p:=h
class KaB:Prop
theorem KaB.k (_:KaB) (h:p:=by
 refine Zm [2,6,7,8,9,10,11,12,13,14,15,16,17,18,19,20,21,22,23,24,25,26,27,28,29,30,31,32,33,34,35,36,37,38,39,40,41,42,43,44,45,46,47,48,49,50] (fun p:Nat×List Int=>[(3,.sl 5 (p.2.reverse.map enc).length),(4,.d (.int .i64 p.1)),(5,.dead)]) (fun p:Nat×List Int=>[(5,.row 1 (p.2.reverse.map enc) 0)]) (fun p:Nat×List Int=>p.1≤t.length∧p.2.length≤101∧(∀ x∈p.2,1≤x∧x≤50)∧uI (t.drop p.1) p.2=Fr t) (fun p:Nat×List Int=>t.length-p.1) (0,[]) ?_ ?_ ?_
 ·exact ⟨Nat.zero_le _,by simp,by simp,rfl⟩
 ·exact Qt
 rintro ⟨k,rs⟩ ⟨h1,h2,h3,h4⟩;simp only at h1 h2 h3 h4;rcases Zn k t.length with ⟨Zv,Qk⟩|⟨Zv,Qk⟩
 ·have Qis:=hm (t.getD k ⟨0,[],0⟩) (by simp [Zv])
  have e1:uI (t.drop k) rs=if 100≤rs.length then false else uI (t.drop (k+1)) (dF (Yc (t.getD k ⟨0,[],0⟩)) rs):=by
   rw [List.drop_eq_getElem_cons Zv,uI];simp [Zv]
  have Qo:=Zp (⟨0,[],0⟩:Node) Zv;have Z6:=@List.length_reverse.{0};have Z7:=@Zz;have Qq:=@Z1;have Qj:=@Z4;have Qx:=@Z0;have Qm:=@Kg;have Qg:=@Z2;have Kq:KaC:=⟨⟩;exact C7
 ·have Z6:=@Zz;have Z7:=@Z1;have Qq:=@Z4;have Qj:=@Z0;have Qx:=@Kg;have Qm:=@Z2;have Kq:KaH:=⟨⟩;exact C7):p:=h
theorem good_shallow3:Qc Tryz.prog (157,Dr):=by
 obtain ⟨Kx,Kt,Kc,Kd,Kb,Ku,Kw,K,X4,_⟩:=J7 Zx Zo [39] false (Q1 good_many3 Ta.eq_def J5);have Ko:=Dr.eq_def;refine J9 K Tryz.func157 [.tmp 2] rfl 51 rfl (fun c hc Ji Zh=>?_);unfold Dr at Zh;obtain ⟨⟨t⟩,rfl,⟨ht,hm⟩⟩:=Q8 Zh;simp only at ht hm;cases hc;refine W5 3 ?_;have Z6:=@Zz;have Z7:=@Z1;have Qq:=@Z4;have Qj:=@Z0;have Qx:=@Kg;have Qm:=@Z2;have Kq:KaB:=⟨⟩;exact C7
abbrev n0:Node:=⟨0,[],0⟩
def rL (n:Node):Bool:=n.kind==6||n.kind==7
def Zgb (p x prev:Node) (pos last:Bool):Bool :=
 cond (x.kind==9) (rL p&&(last&&x.name==[]))
  (!((p.kind==6&&!Wr x.name)||(p.kind==7&&!Mm x.name))&&(!(!rL p&&!(x.name==[]))&&!(rL p&&(pos&&!Op.bytesLess prev.name x.name))))
def Ow (t:List Node) (l:List Int) (k:Nat):Node:=t.getD (l.getD k 0).toNat n0
def jU (t:List Node) (i:Nat) (l:List Int) (k:Nat):Bool:=Zgb (t.getD i n0) (Ow t l k) (Ow t l (k-1)) (Wd 0 k) ((k:Int)==(l.length:Int)-1)
def eE (t:List Node) (i:Nat):Bool:=(((G3 t i).length:Int)==Yc (t.getD i n0))&&(List.range (G3 t i).length).all fun k=>jU t i (G3 t i) k
def Ym (t:List Node):Prop:=∀ n∈t,n.name.length≤9223372036854775807
theorem tG (t:List Node):∀ (m q:Nat),∀ x∈Xx t m q,(q:Int)≤x∧x<t.length
 | 0,q,x,hx=>by simp [Xx] at hx
 | m+1,q,x,hx=>by
  unfold Xx at hx;split at hx
  ·rcases Zs.1 hx with rfl|hx
   ·omega
   ·have:=tG t m _ x hx;omega
  ·cases hx
theorem Qg3 {t:List Node} {i:Nat}:∀ x∈G3 t i,(i:Int)<x∧x<t.length:=by
 intro x hx;unfold G3 at hx;split at hx
 ·cases hx
 ·have:=tG t _ _ x hx;omega
theorem nU (t:List Node):∀ (m q:Nat),(Xx t m q).length≤m
 | 0,q=>by simp [Xx]
 | m+1,q=>by
  unfold Xx;split
  ·simp only [Zi];have:=nU t m (q+Za5 (t.drop q) 1);omega
  ·simp
def Tp:Con:=Jy (fun (t:Sl Node) (i:Int)=>Zap t.l∧Ym t.l∧0≤i∧i<t.l.length) (fun t i=>eE t.l i.toNat)
class KaJ:Prop
theorem KaJ.k (_:KaJ) (h:p:=by
 first|exact Qs (by clear Vx Qs Zh7 Zb9 hlab' Jl;simp_all [Zgb,rL,Wd])|exact ⟨k+1,by exact Qt,by omega,Vx (by clear Vx Qs Zh7 Zb9 hlab' Jl;simp_all [Zgb,rL,Wd]),by omega⟩):p:=h
class KaK:Prop
theorem KaK.k (_:KaK) (h:p:=by
 rw [hlab',eq_comm,List.all_eq_true];intro j hj;exact Jl j (by have:=List.mem_range.1 hj;omega)):p:=h
class KaI:Prop
theorem KaI.k (_:KaI) (h:p:=by
 repeat' first|exact M7|with_reducible apply Zw|intro _
 ·rename_i Tz;rw [Zb9];rw [show ((l.length:Int)==Yc (t.getD i n0))=false by simpa using Tz]
  rfl
 ·rename_i Zh7;have hlab':eE t i=(List.range l.length).all fun k=>jU t i l k:=by
   rw [Zb9,show ((l.length:Int)==Yc (t.getD i n0))=true by simpa using Zh7]
   rfl
  refine Zm [4,7,8,9,21,22,23,24,25,26,27,28,29,30,31,32,33,34,35,36,37,38,39,40,41,42,43,44,45,46,47,48,49,50,51,52,53,54,55,56,57,58,59,60,61,62,63,64,65,66,67,68,69,70,71,72,73,74,75,76,77,78,79,80,81,82,83,84,85,86,87,88,89,90,91,92,93,94,95,96,97,98,99,100,101,102,103,104,105,106,107,108,109,110,111,112,113,114,115,116,117,118,119,120,121,122] (fun k:Nat=>[(6,.d (.int .i64 k))]) (fun k:Nat=>[]) (fun k:Nat=>k≤l.length∧∀ j,j<k→jU t i l j=true) (fun k:Nat=>l.length-k) 0 ?_ ?_ ?_
  ·simp
  ·exact Qt
  rintro k ⟨hk,Jl⟩;rcases Zn k l.length with ⟨Zv,Qi⟩|⟨Zv,Qi⟩
  ·have Qb6:=fN (l.getD k 0) (by simp [Zv])
   have Zh5:(l.getD k 0).toNat<t.length:=by omega
   have Qfl:=hN (Ow t l k) (by
    show t.getD _ n0∈t;rw [Zd,Zk Zh5];exact List.getElem_mem Zh5)
   have Vx:jU t i l k=true→∀ j,j<k+1→jU t i l j=true:=by
    intro h j hj;by_cases Oe:j=k
    ·subst Oe;exact h
    ·exact Jl j (by omega)
   have Qs:jU t i l k=false→false=eE t i:=by
    intro h;rw [hlab',eq_comm,Bool.eq_false_iff];intro hc;rw [List.all_eq_true] at hc;have:=hc k (List.mem_range.2 Zv);rw [h] at this;cases this
   have Jb:t.getD (l.getD k 0).toNat ⟨0,[],0⟩=Ow t l k:=rfl;have Vx:Zgb (t.getD i n0) (Ow t l k) (Ow t l (k-1)) (Wd 0 k) ((k:Int)==(l.length:Int)-1)=true→∀ j,j<k+1→jU t i l j=true:=Vx;have Qs:Zgb (t.getD i n0) (Ow t l k) (Ow t l (k-1)) (Wd 0 k) ((k:Int)==(l.length:Int)-1)=false→false=eE t i:=Qs;have Qq:t.getD (l.getD (k-1) 0).toNat ⟨0,[],0⟩=Ow t l (k-1):=rfl;obtain ⟨x,hx⟩:=exq (Ow t l k);obtain ⟨prev,Zzq⟩:=exq (Ow t l (k-1));obtain ⟨p,hp⟩:=exq (t.getD i n0);rw [hx,Zzq,hp] at Vx Qs;rw [hx] at Qfl Jb;rw [Zzq] at Qq;have Qn:t.getD i ⟨0,[],0⟩=p:=hp;have Ze7:k-1<l.length:=by omega
   have Qus:=fN (l.getD (k-1) 0) (by simp [Ze7])
   have Jav:(l.getD (k-1) 0).toNat<t.length:=by omega
   have Z3:((k:Int)-1).toNat=k-1:=by omega
   have hc:((p.kind==6)=true∧(p.kind==7)=false)∨((p.kind==6)=false∧(p.kind==7)=true)∨((p.kind==6)=false∧(p.kind==7)=false):=by
    simp only [Zj,Za,ne_eq];omega
   rcases hc with ⟨Ql,Qp⟩|⟨Ql,Qp⟩|⟨Ql,Qp⟩
   all_goals
    have Qv:=Zp (0:Int) Zv;have Q3:=Zp n0 Zh5;have Jh:=Zp n0 Ai;have Z6:=Zp (0:Int) Ze7;have Z7:=Zp n0 Jav;have Qj:=@Zz;have Qx:=@Z1;have Qm:=@Z4;have Qg:=@Z0;have Qr:=@Kg;have Qw:=@Z2;have Kq:KaJ:=⟨⟩;exact Zh1
  ·have Qj:=@Zz;have Qx:=@Z1;have Qm:=@Z4;have Qg:=@Z0;have Qr:=@Kg;have Qw:=@Z2;have Kq:KaK:=⟨⟩;exact C7):p:=h
theorem good_labelled3:Qc Tryz.prog (158,Tp):=by
 obtain ⟨Kx,Kt,Kc,Kd,Kb,Ku,Kw,K,X4,V2,Mo,Tx,_⟩:=J7 Zx Zo [] false (Q1 good_Kids3 En.eq_def (Q1 good_IsTag1 wY (Q1 good_IsWord1 Aj (Q1 good_many3 Ta.eq_def J5))));have Ko:=Tp.eq_def;refine J9 K Tryz.func158 [.tmp 4] rfl 123 rfl (fun c hc Ji Zh=>?_);unfold Tp at Zh;obtain ⟨⟨t⟩,i,rfl,hT,hN,Znb,Zbb⟩:=Qf Zh;simp only at hT hN Znb Zbb;obtain ⟨i,rfl⟩:∃ n:Nat,i=n:=⟨i.toNat,by omega⟩
 have Ai:i<t.length:=by omega
 have Q5:=hT.1;obtain ⟨l,Qk⟩:=exq (G3 t i);have fN:∀ x∈l,(i:Int)<x∧x<t.length:=by rw [←Qk];exact Qg3
 have Is:l.length≤100000:=by
  rw [←Qk];unfold G3;split
  ·simp
  ·have h1:=nU t (Yc (t.getD (Int.toNat i) ⟨0,[],0⟩)).toNat ((Int.toNat i)+1);have h2:=(hT.2 (t.getD i ⟨0,[],0⟩) (by simp [Ai])).2
   simp only [Zl] at h1 ⊢;omega
 have Zb9:eE t i=(((l.length:Int)==Yc (t.getD i n0))&&(List.range l.length).all fun k=>jU t i l k):=by
  unfold eE;rw [Qk]
 cases hc;refine W5 7 ?_;have Qo:=Zp n0 Ai;have Qj:=@Zz;have Qx:=@Z1;have Qm:=@Z4;have Qg:=@Z0;have Qr:=@Kg;have Qw:=@Z2;have Kq:KaI:=⟨⟩;exact C7
end Go.Am.Ty
namespace Go.Rose
inductive Rose (α:Type) where
 | mk (n:α) (ks:List (Rose α))
namespace Rose
variable {α:Type}
def root:Rose α→α
 | mk n _=>n
def kids:Rose α→List (Rose α)
 | mk _ ks=>ks
mutual
def nds:Rose α→List α
 | mk n ks=>n::ndss ks
def ndss:List (Rose α)→List α
 | []=>[]
 | x::xs=>nds x++ndss xs
end
mutual
def wf (ar:α→Nat):Rose α→Prop
 | mk n ks=>ks.length=ar n∧wfs ar ks
def wfs (ar:α→Nat):List (Rose α)→Prop
 | []=>True
 | x::xs=>wf ar x∧wfs ar xs
end
mutual
def depth:Rose α→Nat
 | mk _ ks=>1+depths ks
def depths:List (Rose α)→Nat
 | []=>0
 | x::xs=>max (depth x) (depths xs)
end
end Rose
open Rose
variable {α:Type} {ar:α→Nat}
theorem T8:∀ (a b:List (Rose α)),ndss (a++b)=ndss a++ndss b
 | [],b=>by simp [ndss]
 | x::a,b=>by simp [ndss,T8 a b]
theorem kI:∀ {a b:List (Rose α)},wfs ar (a++b)↔wfs ar a∧wfs ar b
 | [],b=>by simp [wfs]
 | x::a,b=>by simp only [List.cons_append,wfs,kI (a:=a),and_assoc]
theorem Y2 (n:α) (ks:List (Rose α)):nds (mk n ks)=n::ndss ks:=by simp [nds]
theorem Di (x:Rose α):1≤(nds x).length:=by cases x;simp [nds]
theorem nI (x:Rose α):nds x=x.root::ndss x.kids:=by cases x;simp [nds,root,kids]
theorem Qm0 {x:Rose α}:wf ar x↔x.kids.length=ar x.root∧wfs ar x.kids:=by cases x;simp [wf,root,kids]
def Sv (ar:α→Nat):List α→Nat→Option Nat
 | _,0=>some 0
 | [],_+1=>none
 | n::l,o+1=>(Sv ar l (o+ar n)).map (·+1)
theorem sZ (ar:α→Nat):∀ (m:Nat) (ts:List (Rose α)) (r:List α),(ndss ts).length≤m→wfs ar ts→∀ o,Sv ar (ndss ts++r) (ts.length+o)=(Sv ar r o).map (·+(ndss ts).length)
 | m,[],r,_,_,o=>by simp [ndss,Sv]
 | 0,mk n ks::ts,r,hm,_,o=>by simp [ndss,nds] at hm
 | m+1,mk n ks::ts,r,hm,hw,o=>by
  obtain ⟨⟨h1,h2⟩,h3⟩:=hw;simp only [ndss,nds,List.cons_append,Zi,Ze] at hm ⊢;rw [show ts.length+1+o=(ts.length+o)+1 by omega,Sv,List.append_assoc]
  rw [show ts.length+o+ar n=ks.length+(ts.length+o) by omega,sZ ar m ks (ndss ts++r) (by omega) h2 (ts.length+o),sZ ar m ts r (by omega) h3 o]
  cases Sv ar r o with
  | none=>rfl
  | some k=>simp only [Option.map_some];congr 1;omega
theorem Qhj {x:Rose α} (h:wf ar x) (r:List α):Sv ar (nds x++r) 1=some (nds x).length:=by
 have:=sZ ar _ [x] r (Zr _) ⟨h,trivial⟩ 0;simpa [ndss,Sv] using this
theorem Zjx:∀ (m:Nat) {ts us:List (Rose α)} {r s:List α},(ndss ts).length≤m→wfs ar ts→wfs ar us→ts.length=us.length→ndss ts++r=ndss us++s→ts=us∧r=s
 | m,[],us,r,s,_,_,_,hl,h=>by
  have:us=[]:=List.length_eq_zero_iff.1 hl.symm;subst this;exact ⟨rfl,by simpa [ndss] using h⟩
 | m,_::_,[],_,_,_,_,_,hl,_=>by simp at hl
 | 0,mk n ks::ts,_,_,_,hm,_,_,_,_=>by simp [ndss,nds] at hm
 | m+1,mk n ks::ts,mk p qs::us,r,s,hm,ht,hu,hl,h=>by
  obtain ⟨⟨h1,h2⟩,h3⟩:=ht;obtain ⟨⟨g1,g2⟩,g3⟩:=hu;simp only [ndss,nds,List.cons_append,List.cons.injEq,Zi,Ze] at h hm hl;obtain ⟨rfl,h⟩:=h;rw [←T8,←T8] at h;obtain ⟨e1,e2⟩:=Zjx m (ts:=ks++ts) (us:=qs++us) (by rw [T8,Ze];omega) (kI.2 ⟨h2,h3⟩) (kI.2 ⟨g2,g3⟩) (by simp only [Ze];omega) h
  obtain ⟨e3,e4⟩:=List.append_inj e1 (by rw [h1,g1])
  exact ⟨by rw [e3,e4],e2⟩
theorem Qjz {x y:Rose α} {r s:List α} (hx:wf ar x) (hy:wf ar y) (h:nds x++r=nds y++s):x=y∧r=s:=by
 obtain ⟨h1,h2⟩:=Zjx (ar:=ar) _ (ts:=[x]) (us:=[y]) (Zr _) ⟨hx,trivial⟩ ⟨hy,trivial⟩ rfl (by simpa [ndss] using h)
 injection h1 with h1
 exact ⟨h1,h2⟩
def At (ar:α→Nat) (l:List α) (i:Nat) (x:Rose α):Prop:=wf ar x∧∃ r,l.drop i=nds x++r
theorem At.inj {l:List α} {i:Nat} {x y:Rose α} (hx:At ar l i x) (hy:At ar l i y):x=y:=by
 obtain ⟨h1,r,h2⟩:=hx;obtain ⟨g1,s,g2⟩:=hy;exact (Qjz h1 g1 (h2.symm.trans g2)).1
theorem At.le {l:List α} {i:Nat} {x:Rose α} (h:At ar l i x):i+(nds x).length≤l.length:=by
 obtain ⟨_,r,h2⟩:=h;have h3:=congrArg List.length h2;rw [List.length_drop,Ze] at h3;have:=Di x;omega
theorem At.lt {l:List α} {i:Nat} {x:Rose α} (h:At ar l i x):i<l.length:=by
 have:=h.le;have:=Di x;omega
theorem At.root {l:List α} {i:Nat} {x:Rose α} (h:At ar l i x) (d:α):l.getD i d=x.root:=by
 obtain ⟨_,r,h2⟩:=h;have h3:(l.drop i).getD 0 d=x.root:=by rw [h2,nI];rfl
 simpa [Zd] using h3
def Zhi (ar:α→Nat) (l:List α) (i:Nat) (xs:List (Rose α)):Prop:=wfs ar xs∧∃ r,l.drop i=ndss xs++r
theorem At.kids {l:List α} {i:Nat} {x:Rose α} (h:At ar l i x):Zhi ar l (i+1) x.kids∧x.kids.length=ar x.root:=by
 obtain ⟨h1,r,h2⟩:=h;rw [Qm0] at h1;refine ⟨⟨h1.2,r,?_⟩,h1.1⟩;rw [nI] at h2;have h3:(l.drop i).drop 1=(ndss x.kids++r):=by rw [h2];rfl
 rwa [List.drop_drop] at h3
theorem Zhi.head {l:List α} {i:Nat} {x:Rose α} {xs:List (Rose α)} (h:Zhi ar l i (x::xs)):At ar l i x∧Zhi ar l (i+(nds x).length) xs:=by
 obtain ⟨⟨h1,h2⟩,r,h3⟩:=h;refine ⟨⟨h1,ndss xs++r,by rw [h3];simp [ndss]⟩,h2,r,?_⟩
 rw [←List.drop_drop,h3];simp [ndss]
theorem G7 {x:Rose α} (h:wf ar x):At ar (nds x) 0 x:=⟨h,[],by simp⟩
theorem vS {l:List α} {i:Nat} {x:Rose α} (h:At ar l i x):Sv ar (l.drop i) 1=some (nds x).length:=by
 obtain ⟨h1,r,h2⟩:=h;rw [h2];exact Qhj h1 r
open Classical in
noncomputable def Xa [Inhabited α] (ar:α→Nat) (l:List α) (i:Nat):Rose α:=if h:∃ x,At ar l i x then Classical.choose h else mk default []
theorem Xz [Inhabited α] {l:List α} {i:Nat} {x:Rose α} (h:At ar l i x):Xa ar l i=x:=by
 unfold Xa;rw [dif_pos ⟨x,h⟩];exact At.inj (Classical.choose_spec (⟨x,h⟩:∃ x,At ar l i x)) h
end Go.Rose
namespace Go.Am.Ty
open Go.Proofs
open Enc (enc dec)
theorem bQ {n:Node} (h:V0 n=true):0≤Yc n∧Yc n≤50:=by
 unfold V0 at h;unfold Yc;by_cases h5:n.kind=5
 ·rw [if_pos h5];omega
 ·rw [if_neg h5];by_cases Jad:n.kind=6∨n.kind=7
  ·rw [if_pos Jad];rw [if_neg (by omega),if_neg (by omega)] at h
   by_cases h6:n.kind=6
   ·rw [if_pos h6] at h;simpa using h
   ·rw [if_neg h6,if_pos (by omega)] at h
    simp only [Zg,decide_eq_true_eq] at h;omega
  ·rw [if_neg Jad];omega
def Wl (t:List Node):Bool:=t.length==0||Wd 10000 t.length||!((t.getD 0 n0).name==[])||(t.getD 0 n0).kind==9
def Wg (t:List Node):Bool:=!Wl t&&(t.all V0&&((mX t 0==(t.length:Int)&&Fr t)&&(List.range t.length).all fun i=>eE t i))
theorem U4 {p:Nat→Bool} {n:Nat} (h:∀ j,j<n→p j=true):(List.range n).all p=true:=by
 rw [List.all_eq_true];intro j hj;exact h j (List.mem_range.1 hj)
theorem Hc {p:Nat→Bool} {n:Nat} (j:Nat) (hj:j<n) (h:p j=false):(List.range n).all p=false:=by
 rw [Bool.eq_false_iff];intro hc;rw [List.all_eq_true] at hc;have:=hc j (List.mem_range.2 hj);rw [h] at this;cases this
def Bx:Con:=Xj (fun (t:Sl Node)=>t.l.length≤9223372036854775807∧Ym t.l) (fun t=>Wg t.l)
class KaL:Prop
theorem KaL.k (_:KaL) (h:p:=by
 unfold Wg Wl;simp [h0]):p:=h
class KaN:Prop
theorem KaN.k (_:KaN) (h:p:=by
 repeat' first|exact M7|with_reducible apply Zw|intro _
 ·rename_i hb;rw [hr,Ec (p:=V0) n0 k Zv hb];rfl
 ·rename_i hb;refine ⟨k+1,by exact Qt,by omega,fun j hj=>?_,by omega⟩
  by_cases Oe:j=k
  ·subst Oe;exact hb
  ·exact Jl j (by omega)):p:=h
class KaP:Prop
theorem KaP.k (_:KaP) (h:p:=by
 repeat' first|exact M7|with_reducible apply Zw|intro _
 ·rename_i hb;rw [jJ,Hc k Mx hb]
 ·rename_i hb;refine ⟨k+1,by exact Qt,by omega,fun j hj=>?_,by omega⟩
  by_cases Oe:j=k
  ·subst Oe;exact hb
  ·exact Zzs j (by omega)):p:=h
class KaQ:Prop
theorem KaQ.k (_:KaQ) (h:p:=by
 rw [jJ,U4 fun j hj=>Zzs j (by omega)]):p:=h
class KaO:Prop
theorem KaO.k (_:KaO) (h:p:=by
 repeat' first|exact M7|with_reducible apply Zw|intro _
 ·rename_i he hs;rw [hr,hs];simp
 ·rename_i he hs;have jJ:Wg t=(List.range t.length).all fun i=>eE t i:=by
   rw [hr,hs,show (mX t 0==(t.length:Int))=true by simpa using he]
   rfl
  refine Zm [2,49,50,51,52,53,54,55,56,57,58] (fun k:Nat=>[(4,.d (.int .i64 k))]) (fun k:Nat=>[]) (fun k:Nat=>k≤t.length∧∀ j,j<k→eE t j=true) (fun k:Nat=>t.length-k) 0 ?_ ?_ ?_
  ·simp
  ·exact Qt
  rintro k ⟨Qol,Zzs⟩;rcases Zn k t.length with ⟨Mx,Qp⟩|⟨Mx,Qp⟩
  ·have Qv:=@Zz;have Q3:=@Z1;have Jh:=@Z4;have Jb:=@Z0;have Z3:=@Kg;have Z6:=@Z2;have Kq:KaP:=⟨⟩;exact C7
  ·have Qv:=@Zz;have Q3:=@Z1;have Jh:=@Z4;have Jb:=@Z0;have Z3:=@Kg;have Z6:=@Z2;have Kq:KaQ:=⟨⟩;exact C7
 ·rename_i he;rw [hr,show (mX t 0==(t.length:Int))=false by simpa using he]
  rfl):p:=h
class KaM:Prop
theorem KaM.k (_:KaM) (h:p:=by
 repeat' first|exact M7|with_reducible apply Zw|intro _
 ·rename_i h1 h2 h9;exact Qos (by unfold Wl;rw [show ((t.getD 0 n0).kind==9)=true by rw [Zj];exact h9];simp only [Bool.or_true])
 ·rename_i h1 h3 h9;have Er:t.length≤10000:=by omega
  have uB:Wl t=false:=by
   unfold Wl;simp only [Bool.or_eq_false_iff,Q7,Za];refine ⟨⟨⟨by omega,by omega⟩,?_⟩,h9⟩
   simpa using h3
  have hr:Wg t=(t.all V0&&((mX t 0==(t.length:Int)&&Fr t)&&(List.range t.length).all fun i=>eE t i)):=by
   unfold Wg;rw [uB];rfl
  refine Zm [2,27,28,29,30,31,32,33,34,35,36,37,38] (fun k:Nat=>[(3,.d (.int .i64 k))]) (fun k:Nat=>[]) (fun k:Nat=>k≤t.length∧∀ j,j<k→V0 (t.getD j n0)=true) (fun k:Nat=>t.length-k) 0 ?_ ?_ ?_
  ·simp
  ·exact Qt
  rintro k ⟨hk,Jl⟩;rcases Zn k t.length with ⟨Zv,Qi⟩|⟨Zv,Qi⟩
  ·have Qn:=Zp n0 Zv;have Qv:=@Zz;have Q3:=@Z1;have Jh:=@Z4;have Jb:=@Z0;have Z3:=@Kg;have Z6:=@Z2;have Kq:KaN:=⟨⟩;exact C7
  ·have Od:t.all V0=true:=Mk (p:=V0) n0 fun j hj=>Jl j (by omega)
   have Ql:Zap t:=⟨by omega,fun n hn=>bQ (List.all_eq_true.1 Od n hn)⟩
   rw [Od,Bool.true_and] at hr;have Qu5:Zap t∧Za4 .i64 0:=⟨Ql,by rw [Xt];omega⟩
   have Qv:=@Zz;have Q3:=@Z1;have Jh:=@Z4;have Jb:=@Z0;have Z3:=@Kg;have Z6:=@Z2;have Kq:KaO:=⟨⟩;exact C7
 ·rename_i h1 h3;exact Qos (by unfold Wl;rw [show ((t.getD 0 n0).name==[])=false by rw [Za];exact h3];simp only [Bool.not_false,Bool.or_true,Bool.true_or])
 ·rename_i h1;exact Qos (by unfold Wl;rw [show Wd 10000 (t.length:Int)=true by rw [Jj];exact h1];simp only [Bool.or_true,Bool.true_or])):p:=h
theorem good_Right3:Qc Tryz.prog (113,Bx):=by
 obtain ⟨Kx,Kt,Kc,Kd,Kb,Ku,Kw,K,X4,V2,Mo,Tx,_⟩:=J7 Zx Zo [] false (Q1 good_numbered3 Tn.eq_def (Q1 good_End3 O6.eq_def (Q1 good_shallow3 Dr.eq_def (Q1 good_labelled3 Tp.eq_def J5))));have Ko:=Bx.eq_def;refine J9 K Tryz.func113 [.tmp 2] rfl 59 rfl (fun c hc Ji Zh=>?_);unfold Bx at Zh;obtain ⟨⟨t⟩,rfl,ht,hN⟩:=Q8 Zh;simp only at ht hN;cases hc;refine W5 3 ?_;by_cases h0:t.length=0
 ·have Qk:((t.length:Int)==0)=true:=by simp [h0]
  have Qv:=@Zz;have Q3:=@Z1;have Jh:=@Z4;have Jb:=@Z0;have Z3:=@Kg;have Z6:=@Z2;have Kq:KaL:=⟨⟩;exact C7
 have Qk:((t.length:Int)==0)=false:=by rw [Za];omega
 have Zzu:0<t.length:=by omega
 have Qos:Wl t=true→false=Wg t:=by
  intro h;unfold Wg;rw [h];rfl
 have Qo:=Zp n0 Zzu;have Qv:=@Zz;have Q3:=@Z1;have Jh:=@Z4;have Jb:=@Z0;have Z3:=@Kg;have Z6:=@Z2;have Kq:KaM:=⟨⟩;exact C7
open Go.Proofs Go.Rose Go.Rose.Rose
def Sm (t:List Node) (most:Int):Bool:=!Wd most t.length&&(t.all (fun n=>!Wd 100 n.name.length)&&(Wg t&&Ya t))
def cA:Con:=Jy (fun (t:Sl Node) (_:Int)=>t.l.length≤9223372036854775807∧Ym t.l) (fun t m=>Sm t.l m)
class KaR:Prop
theorem KaR.k (_:KaR) (h:p:=by
 clear Qk Qo Qi Qn Ql Qp Qv;unfold Sm;rw [Zmx];rfl):p:=h
class KaT:Prop
theorem KaT.k (_:KaT) (h:p:=by
 clear Qk Qo Qi Qn Ql Qp Qv Q3;repeat' first|exact M7|with_reducible apply Zw|intro _
 ·rename_i hb;rw [hp,Ec (p:=fun n:Node=>!Wd 100 n.name.length) n0 k Zv (by rw [show Wd 100 ((t.getD k n0).name.length:Int)=true by rw [Jj];exact hb];rfl)]
  rfl
 ·rename_i hb;refine ⟨k+1,by exact Qt,by omega,fun j hj=>?_,by omega⟩
  by_cases Oe:j=k
  ·subst Oe;exact hb
  ·have:=Jl j (by omega)
   rw [Bool.not_eq_true',Q7] at this;exact this):p:=h
class KaU:Prop
theorem KaU.k (_:KaU) (h:p:=by
 clear Qk Qo Qi Qn Ql Qp Qv Q3;repeat' first|exact M7|with_reducible apply Zw|intro _
 all_goals rename_i hr
 all_goals rw [hr]
 all_goals rfl):p:=h
class KaS:Prop
theorem KaS.k (_:KaS) (h:p:=by
 clear Qk Qo Qi Qn Ql Qp Qv;refine Zm [4,10,11,12,13,14,15,16,17,18,19,20,21,22] (fun k:Nat=>[(5,.d (.int .i64 k))]) (fun k:Nat=>[]) (fun k:Nat=>k≤t.length∧∀ j,j<k→(!Wd 100 (t.getD j n0).name.length)=true) (fun k:Nat=>t.length-k) 0 ?_ ?_ ?_
 ·simp
 ·exact Qt
 rintro k ⟨hk,Jl⟩;rcases Zn k t.length with ⟨Zv,Qte⟩|⟨Zv,Qte⟩
 ·have zz1:=Zp n0 Zv;have Qk:=Qte;have Qo:=zz1;have Qi:=@Zz;have Qn:=@Z1;have Ql:=@Z4;have Qp:=@Z0;have Qv:=@Kg;have Q3:=@Z2;have Kq:KaT:=⟨⟩;exact C7
 ·have Od:t.all (fun n=>!Wd 100 n.name.length)=true:=Mk (p:=fun n:Node=>!Wd 100 n.name.length) n0 fun j hj=>Jl j (by omega)
  rw [Od,Bool.true_and] at hp;have Qk:=Qte;have Qo:=hp;have Qi:=@Zz;have Qn:=@Z1;have Ql:=@Z4;have Qp:=@Z0;have Qv:=@Kg;have Q3:=@Z2;have Kq:KaU:=⟨⟩;exact C7):p:=h
theorem good_Plain7:Qc Tryz.prog (60,cA):=by
 obtain ⟨Kx,Kt,Kc,Kd,Kb,Ku,Kw,K,X4,V2,_⟩:=J7 Zx Zo [] false (Q1 good_Right3 Bx.eq_def (Q1 good_Plain3 Tf.eq_def J5));have Ko:=cA.eq_def;refine J9 K Tryz.func60 [.tmp 4] rfl 29 rfl (fun c hc Ji Zh=>?_);unfold cA at Zh;obtain ⟨⟨t⟩,m,rfl,ht,hN⟩:=Qf Zh;simp only at ht hN;cases hc;rcases Y3 m t.length with ⟨hm,Zmx⟩|⟨hm,Zmx⟩
 ·have Qk:=Zmx;have Qo:=@Zz;have Qi:=@Z1;have Qn:=@Z4;have Ql:=@Z0;have Qp:=@Kg;have Qv:=@Z2;have Kq:KaR:=⟨⟩;exact C7
 ·have hp:Sm t m=(t.all (fun n=>!Wd 100 n.name.length)&&(Wg t&&Ya t)):=by
   unfold Sm;rw [Zmx];rfl
  have Qk:=Zmx;have Qo:=@Zz;have Qi:=@Z1;have Qn:=@Z4;have Ql:=@Z0;have Qp:=@Kg;have Qv:=@Z2;have Kq:KaS:=⟨⟩;exact C7
instance inhSl {α:Type}:Inhabited (Sl α):=⟨⟨[]⟩⟩
instance inhNode:Inhabited Node:=⟨n0⟩
def Gl (n:Node):Bool:=n.kind==6||n.kind==7
def Rq:Con:=Xj (fun (_:Node)=>True) (fun n=>Gl n)
class KaV:Prop
theorem KaV.k (_:KaV) (h:p:=by
 unfold Gl;repeat' first|exact M7|with_reducible apply Zw|intro _
 all_goals simp_all):p:=h
theorem good_isRowT:Qc Tryz.prog (164,Rq):=by
 obtain ⟨Kx,Kt,Kc,Kd,Kb,Ku,Kw,K,_⟩:=J7 Zx Zo [] false J5;have Ko:=Rq.eq_def;refine J9 K Tryz.func164 [.tmp 2] rfl 11 rfl (fun c hc Ji Zh=>?_);unfold Rq at Zh;obtain ⟨n,rfl,-⟩:=Q8 Zh;cases hc;have Qk:=@Zz;have Qo:=@Z1;have Qi:=@Z4;have Qn:=@Z0;have Ql:=@Kg;have Qp:=@Z2;have Kq:KaV:=⟨⟩;exact C7
def ar (n:Node):Nat:=if n.kind=5 then 2 else if n.kind=6∨n.kind=7 then n.n.toNat else 0
def Ek:Con:=Xj (fun (_:Node)=>True) (fun n=>(ar n:Int))
class KaW:Prop
theorem KaW.k (_:KaW) (h:p:=by
 unfold ar;repeat' first|exact M7|with_reducible apply Zw|intro _
 ·rename_i h5;rw [if_pos h5];rfl
 ·rename_i h5 h6;rw [if_neg h5,if_pos (by simpa [Gl] using h6)]
  unfold Zj9;split<;>omega
 ·rename_i h5 h6;rw [if_neg h5,if_neg (by simpa [Gl] using h6)];rfl):p:=h
theorem good_manyT:Qc Tryz.prog (163,Ek):=by
 obtain ⟨Kx,Kt,Kc,Kd,Kb,Ku,Kw,K,X4,_⟩:=J7 Zx Zo [] false (Q1 good_isRowT Rq.eq_def J5);have Ko:=Ek.eq_def;refine J9 K Tryz.func163 [.tmp 2] rfl 13 rfl (fun c hc Ji Zh=>?_);unfold Ek at Zh;obtain ⟨n,rfl,-⟩:=Q8 Zh;cases hc;have Qk:=@Zz;have Qo:=@Z1;have Qi:=@Z4;have Qn:=@Z0;have Ql:=@Kg;have Qp:=@Z2;have Kq:KaW:=⟨⟩;exact C7
theorem Qh8 {n:Node} (h:0≤Yc n):(ar n:Int)=Yc n:=by
 unfold ar Yc at *;split
 ·rfl
 ·rename_i h5;rw [if_neg h5] at h;split
  ·rename_i h6;rw [if_pos h6] at h;omega
  ·rfl
def Zgu (t:List Node) (i:Int):Int:=if i<0∨(t.length:Int)≤i then -1 else i+((Sv ar (t.drop i.toNat) 1).getD 0:Nat)
def Whole (t:List Node) (i:Int):Prop:=0≤i→i<t.length→(Sv ar (t.drop i.toNat) 1).isSome=true
theorem Qbi:∀ {l:List Node} {o k:Nat},Sv ar l o=some k→o≤k∧k≤l.length
 | l,0,k,h=>by
  cases l<;>(simp only [Sv,Zb] at h;omega)
 | [],o+1,k,h=>by simp [Sv] at h
 | n::l,o+1,k,h=>by
  rw [Sv,Option.map_eq_some_iff] at h;obtain ⟨k',h1,rfl⟩:=h;have:=Qbi h1;simp only [Zi];omega
def fV:Con:=Jy (fun (t:Sl Node) (i:Int)=>t.l.length≤1000000000∧Za4 .i64 i∧Whole t.l i) (fun t i=>Zgu t.l i)
class KaY:Prop
theorem KaY.k (_:KaY) (h:p:=by
 rw [e0];cases hd:t.drop k<;>(rw [hd] at g2;simp only [Sv,Zb] at g2;omega)):p:=h
class KaZ:Prop
theorem KaZ.k (_:KaZ) (h:p:=by
 refine ⟨(k+1,o+ar (t.getD k n0)),by exact Qt,by simp only;omega,⟨r',g4,by simp only;omega⟩,by simp only;omega⟩):p:=h
class KaX:Prop
theorem KaX.k (_:KaX) (h:p:=by
 repeat' first|exact M7|with_reducible apply Zw|intro _
 ·rename_i h1 h2;unfold Zgu;rw [if_pos (.inr h2)]
 ·rename_i h1 h2;obtain ⟨i,rfl⟩:∃ n:Nat,i=n:=⟨i.toNat,by omega⟩
  obtain ⟨m,hm⟩:=Option.isSome_iff_exists.1 (hw h1 h2);simp only [Zl] at hm;have e0:Zgu t i=i+(m:Int):=by
   unfold Zgu;rw [if_neg (by omega),Zl,hm]
   rfl
  refine Zm [14,15,16,17,18,19,20,21,22,23,24,25] (fun p:Nat×Nat=>[(1,.d (.int .i64 p.1)),(5,.d (.int .i64 p.2))]) (fun p:Nat×Nat=>[]) (fun p:Nat×Nat=>p.1≤t.length∧∃ r,Sv ar (t.drop p.1) p.2=some r∧p.1+r=i+m) (fun p:Nat×Nat=>t.length-p.1) (i,1) ?_ ?_ ?_
  ·exact ⟨by simp only;omega,m,hm,rfl⟩
  ·exact Qt
  rintro ⟨k,o⟩ ⟨g1,r,g2,g3⟩;simp only at g1 g2 g3;cases o with
  | zero =>
   have Qk:Wd 0 ((0:Nat):Int)=false:=rfl;have Qn:=@Zz;have Ql:=@Z1;have Qp:=@Z4;have Qv:=@Z0;have Q3:=@Kg;have Jh:=@Z2;have Kq:KaY:=⟨⟩;exact C7
  | succ o =>
   have Qk:Wd 0 ((o+1:Nat):Int)=true:=by rw [Jj];omega
   have Zv:k<t.length:=by
    rcases Nat.lt_or_ge k t.length with h|h
    ·exact h
    ·rw [List.drop_eq_nil_of_le h] at g2;simp [Sv] at g2
   rw [List.drop_eq_getElem_cons Zv,Sv,Option.map_eq_some_iff] at g2;obtain ⟨r',g4,rfl⟩:=g2;have Qfk:t.getD k n0=t[k]:=by simp [Zv]
   rw [←Qfk] at g4;have aY:=Qbi g4;rw [List.length_drop] at aY;have Qo:((o+1:Nat):Int)+((ar (t.getD k n0):Int)-1)=((o+ar (t.getD k n0):Nat):Int):=by omega
   have Qi:=Zp n0 Zv;have Qn:=@Zz;have Ql:=@Z1;have Qp:=@Z4;have Qv:=@Z0;have Q3:=@Kg;have Jh:=@Z2;have Kq:KaZ:=⟨⟩;exact Zh1
 ·rename_i h1;unfold Zgu;rw [if_pos (.inl h1)]):p:=h
theorem good_EndT:Qc Tryz.prog (172,fV):=by
 obtain ⟨Kx,Kt,Kc,Kd,Kb,Ku,Kw,K,X4,_⟩:=J7 Zx Zo [] false (Q1 good_manyT Ek.eq_def J5);have Ko:=fV.eq_def;refine J9 K Tryz.func172 [.tmp 4] rfl 27 rfl (fun c hc Ji Zh=>?_);unfold fV at Zh;obtain ⟨⟨t⟩,i,rfl,ht,hi,hw⟩:=Qf Zh;simp only at ht hw;rw [Xt] at hi;cases hc;have Qn:=@Zz;have Ql:=@Z1;have Qp:=@Z4;have Qv:=@Z0;have Q3:=@Kg;have Jh:=@Z2;have Kq:KaX:=⟨⟩;exact C7
def Mt:Nat→List (Rose Node)→List Int
 | _,[]=>[]
 | q,x::xs=>(q:Int)::Mt (q+(nds x).length) xs
theorem Bn:∀ (q:Nat) (xs:List (Rose Node)),(Mt q xs).length=xs.length
 | _,[]=>rfl
 | q,x::xs=>by simp [Mt,Bn _ xs]
theorem gV:∀ (q:Nat) (xs:List (Rose Node)) (j:Nat),j<xs.length→(Mt q xs).getD j 0=((q+(ndss (xs.take j)).length:Nat):Int)
 | _,[],j,h=>by simp at h
 | q,x::xs,0,_=>by simp [Mt,ndss]
 | q,x::xs,j+1,h=>by
  simp only [Mt,List.getD_cons_succ,List.take_succ_cons,ndss,Ze];rw [gV _ xs j (by simpa using h)]
  congr 1
  omega
theorem sD {t:List Node}:∀ {xs:List (Rose Node)} {i j:Nat},Zhi ar t i xs→∀ h:j<xs.length,At ar t (i+(ndss (xs.take j)).length) xs[j]
 | [],_,_,_,h=>by simp at h
 | x::xs,i,0,ha,_=>by simpa [ndss] using ha.head.1
 | x::xs,i,j+1,ha,h=>by
  have:=sD ha.head.2 (j:=j) (by simpa using h)
  simpa [ndss,Nat.add_assoc] using this
theorem Fv {xs:List (Rose Node)} {j:Nat} (h:j<xs.length):(ndss (xs.take (j+1))).length=(ndss (xs.take j)).length+(nds xs[j]).length:=by
 rw [List.take_succ_eq_append_getElem h,T8,Ze];simp [ndss]
theorem Zg6 {t:List Node} {i:Nat} {xs:List (Rose Node)} (h:Zhi ar t i xs) (hi:i≤t.length):i+(ndss xs).length≤t.length:=by
 obtain ⟨_,r,h2⟩:=h;have:=congrArg List.length h2;rw [List.length_drop,Ze] at this;omega
theorem Zy9 {t:List Node} {i:Nat} {x:Rose Node} (h:At ar t i x):Whole t i:=fun _ _=>by
 simp only [Zl];rw [vS h];rfl
theorem Zgt {t:List Node} {i:Nat} {x:Rose Node} (h:At ar t i x):Zgu t i=((i+(nds x).length:Nat):Int):=by
 unfold Zgu;have:=h.lt;rw [if_neg (by omega),Zl,vS h]
 simp
def lW (l:List Int) (j:Nat):List Int:=l.take j++List.replicate (l.length-j) 0
theorem nX {l:List Int} {j:Nat} (h:j≤l.length):(lW l j).length=l.length:=by
 unfold lW;rw [Ze,List.length_take,List.length_replicate];omega
theorem Qgd {l:List Int} {j:Nat} {q:Int} (h:j<l.length) (hq:l.getD j 0=q):((lW l j).map (enc:Int→D)).set j (.int .i64 q)=(lW l (j+1)).map enc:=by
 have e:(enc q:D)=.int .i64 q:=rfl;rw [←e,←List.map_set]
 congr 1
 unfold lW;rw [List.set_append_right _ _ (by rw [List.length_take];omega),List.length_take,show l.length-j=(l.length-(j+1))+1 by omega,List.replicate_succ,
  show j-min j l.length=0 by omega,Jr,List.take_succ_eq_append_getElem h]
 simp only [List.append_assoc,List.singleton_append]
 congr 2
 rw [←hq];simp [h]
theorem Qjl {l:List Int} {j:Nat} (h:j<l.length):el ((lW l j).map (enc:Int→D)) j=.int .i64 0:=by
 rw [Zp (0:Int) (by rw [nX (by omega)];exact h)]
 unfold lW;rw [Zd,List.getElem?_append_right (by rw [List.length_take];omega),List.length_take,show j-min j l.length=0 by omega,show l.length-j=(l.length-(j+1))+1 by omega,List.replicate_succ]
 rfl
theorem Qct {l:List Int} {n:Nat} (h:l.length=n):List.replicate n (D.int .i64 0)=(lW l 0).map enc:=by
 unfold lW;simp [h]
theorem Qge {l:List Int}:lW l l.length=l:=by
 unfold lW;simp
noncomputable def tF (t:List Node) (i:Int):List Int:=if i<0∨(t.length:Int)≤i then [] else Mt (i.toNat+1) (Xa ar t i.toNat).kids
def Qsj (t:List Node) (i:Int):Prop:=0≤i→i<t.length→∃ x,At ar t i.toNat x
noncomputable def iM:Con:=Jy (fun (t:Sl Node) (i:Int)=>t.l.length≤1000000000∧Za4 .i64 i∧Qsj t.l i) (fun t i=>Sl.mk (tF t.l i))
class Kba:Prop
theorem Kba.k (_:Kba) (h:p:=by
 unfold tF;rw [if_pos (.inl h)];rfl):p:=h
class Kbb:Prop
theorem Kbb.k (_:Kbb) (h:p:=by
 unfold tF;rw [if_pos (.inr h)];rfl):p:=h
class Kbd:Prop
theorem Kbd.k (_:Kbd) (h:p:=by
 refine ⟨j+1,by (have Vc:=Qv4;have Cs:=My;have Zm3:=Int.add_assoc;exact Qt),by omega,by omega⟩):p:=h
class Kbe:Prop
theorem Kbe.k (_:Kbe) (h:p:=by
 rw [e0,Oe,Qge]):p:=h
class Kbc:Prop
theorem Kbc.k (_:Kbc) (h:p:=by
 refine Zm [7,27,28,29,30,31,32,33,34,35,36] (fun j:Nat=>[(5,.sl 21 ((lW l j).map (enc:Int→D)).length),(6,.d (.int .i64 (i+1+(ndss (ks.take j)).length:Nat))),(21,.dead),(26,.d (.int .i64 j))]) (fun j:Nat=>[(21,.row 1 ((lW l j).map enc) 0)]) (fun j:Nat=>j≤ks.length) (fun j:Nat=>ks.length-j) 0 ?_ ?_ ?_
 ·omega
 ·have Vc:=Qct Is;have Cs:=@ndss.eq_1;have Zm3:=@ndss.eq_2;have Qlr:=Is;have Qlq:=@nX;exact Qt
 rintro j hj;have Qp:(lW l j).length=ks.length:=by rw [nX (by omega),Is]
 rcases Zn j ks.length with ⟨Zv,Ql⟩|⟨Zv,Ql⟩
 ·have Iu:=sD jV Zv;have hq:l.getD j 0=((i+1+(ndss (ks.take j)).length:Nat):Int):=by rw [←hl];exact gV _ _ j Zv
  have Q3:=Qgd (by omega) hq
  have Qv:=Qjl (l:=l) (j:=j) (by omega)
  have Qv4:(lW l (j+1)).length=ks.length:=by rw [nX (by omega),Is]
  have Jh:=Zgt Iu;have Jci:=Zy9 Iu;have Mx:=Iu.le;have My:=Fv Zv;have Jb:=@Zz;have Z3:=@Z1;have Z6:=@Z4;have Z7:=@Z0;have Qq:=@Kg;have Qj:=@Z2;have Kq:Kbd:=⟨⟩;exact Zh1
 ·have Oe:j=l.length:=by omega
  have Jb:=@Zz;have Z3:=@Z1;have Z6:=@Z4;have Z7:=@Z0;have Qq:=@Kg;have Qj:=@Z2;have Kq:Kbe:=⟨⟩;exact Zh1):p:=h
theorem good_KidsT:Qc Tryz.prog (173,iM):=by
 obtain ⟨Kx,Kt,Kc,Kd,Kb,Ku,Kw,K,X4,V2,_⟩:=J7 Zx Zo [] false (Q1 good_manyT Ek.eq_def (Q1 good_EndT fV.eq_def J5));have Ko:=iM.eq_def;refine J9 K Tryz.func173 [.tmp 4] rfl 38 rfl (fun c hc Ji Zh=>?_);unfold iM at Zh;obtain ⟨⟨t⟩,i,rfl,ht,hi,hw⟩:=Qf Zh;simp only at ht hw;rw [Xt] at hi;cases hc;refine W5 2 ?_;rcases (by omega:i<0∨(t.length:Int)≤i∨(0≤i∧i<t.length)) with h|h|⟨h1,h2⟩
 ·have Qk:Wd i 0=true:=by rw [Jj];exact h
  have Jb:=@Zz;have Z3:=@Z1;have Z6:=@Z4;have Z7:=@Z0;have Qq:=@Kg;have Qj:=@Z2;have Kq:Kba:=⟨⟩;exact C7
 ·have Qk:Wd i 0=false:=by rw [Q7];omega
  have Qo:Xp (t.length:Int) i=true:=by rw [Q9];omega
  have Jb:=@Zz;have Z3:=@Z1;have Z6:=@Z4;have Z7:=@Z0;have Qq:=@Kg;have Qj:=@Z2;have Kq:Kbb:=⟨⟩;exact C7
 ·obtain ⟨x,hx⟩:=hw h1 h2;obtain ⟨i,rfl⟩:∃ n:Nat,i=n:=⟨i.toNat,by omega⟩
  simp only [Zl] at hx;have Ai:i<t.length:=by omega
  have Qk:Wd (i:Int) 0=false:=by rw [Q7];omega
  have Qo:Xp (t.length:Int) (i:Int)=false:=by rw [St];omega
  have Zav:t.getD i n0=x.root:=hx.root n0;obtain ⟨jV,aK⟩:=hx.kids;obtain ⟨ks,hk⟩:=exq (x.kids);rw [hk] at jV aK;have Er:=Zg6 jV (by omega)
  have Qn:ar (t.getD i n0)=ks.length:=by rw [Zav,aK]
  obtain ⟨l,hl⟩:=exq (Mt (i+1) ks);have Is:l.length=ks.length:=by rw [←hl,Bn]
  have Qfl:ks.length≤(ndss ks).length:=by
   clear jV aK Er Qn hl Is hk
   induction ks with
   | nil=>simp
   | cons y ys ih=>simp only [Zi,ndss,Ze];have:=Di y;omega
  have e0:tF t i=l:=by
   unfold tF;rw [if_neg (by omega)]
   simp only [Zl];rw [Xz hx,hk,hl]
  have Qi:=Zp n0 Ai;have Jb:=@Zz;have Z3:=@Z1;have Z6:=@Z4;have Z7:=@Z0;have Qq:=@Kg;have Qj:=@Z2;have Kq:Kbc:=⟨⟩;exact Zh1
structure Pair where
 a:List Node
 b:List Node
 bel:Bool
def zW (b:List Node):Bool→D
 | true=>.clo 128 [.ptr 1 (.list 3 (b.map enc))]
 | false=>.clo 999999 []
def Ql4:D→Bool
 | .clo f _=>f==128
 | _=>false
instance encPair:Enc Pair:=⟨fun p=>.agg [.list 3 (p.a.map enc),.list 3 (p.b.map enc),zW p.b p.bel],fun x=>match x with
 | .agg [a,b,c]=>⟨a.l.map dec,b.l.map dec,Ql4 c⟩
 | _=>⟨[],[],false⟩,fun p=>by
  have h:∀ l:List Node,(l.map (enc:Node→D)).map dec=l:=fun l=>Jx;cases p with
  | mk a b bel=>cases bel<;>simp [D.l,h,zW,Ql4]⟩
theorem Nx {a b:List Node} {bel:Bool}:(enc (Pair.mk a b bel):D)=.agg [.list 3 (a.map enc),.list 3 (b.map enc),zW b bel]:=rfl
theorem Lq {b:List Node}:zW b true=.clo 128 [.ptr 1 (.list 3 (b.map enc))]:=rfl
theorem Lr {b:List Node}:zW b false=.clo 999999 []:=rfl
theorem K3 {a b:List Node}:(dec (.agg [.list 3 (a.map enc),.list 3 (b.map enc),.clo 128 [.ptr 1 (.list 3 (b.map enc))]]):Pair)=⟨a,b,true⟩:=Enc.dec_enc (Pair.mk a b true)
theorem K4 {a b:List Node}:(dec (.agg [.list 3 (a.map enc),.list 3 (b.map enc),.clo 999999 []]):Pair)=⟨a,b,false⟩:=Enc.dec_enc (Pair.mk a b false)
theorem K0 {a b:List Node}:Ul Pair (.agg [.list 3 (a.map enc),.list 3 (b.map enc),.clo 128 [.ptr 1 (.list 3 (b.map enc))]])=True:=eq_true (Wc (Pair.mk a b true))
theorem K1 {a b:List Node}:Ul Pair (.agg [.list 3 (a.map enc),.list 3 (b.map enc),.clo 999999 []])=True:=eq_true (Wc (Pair.mk a b false))
theorem K5 {a b:List Node} {bel:Bool}:(dec (.agg [.list 3 (a.map enc),.list 3 (b.map enc),zW b bel]):Pair)=⟨a,b,bel⟩:=Enc.dec_enc (Pair.mk a b bel)
theorem K2 {a b:List Node} {bel:Bool}:Ul Pair (.agg [.list 3 (a.map enc),.list 3 (b.map enc),zW b bel])=True:=eq_true (Wc (Pair.mk a b bel))
section
variable {a b:List Node} {c:Bool}
theorem R7:(Pair.mk a b c).a=a:=rfl
theorem R6:(Pair.mk a b c).b=b:=rfl
theorem R0:(Pair.mk a b c).bel=c:=rfl
end
def Zme (bel:Bool) (m:Node):Bool:=!bel||m.kind==0
mutual
def ov (bel:Bool):Rose Node→Rose Node→Bool
 | mk n ks,y=>cond (n.kind==0||y.root.kind==0) (Zme bel y.root) ((n.kind==y.root.kind&&(n.name==y.root.name&&n.n==y.root.n))&&ovs bel ks y.kids)
def ovs (bel:Bool):List (Rose Node)→List (Rose Node)→Bool
 | [],_=>true
 | _::_,[]=>false
 | x::xs,y::ys=>x.root.name==y.root.name&&(ov bel x y&&ovs bel xs ys)
end
def Qbm {A B C R S T:Type} [Enc A] [Enc B] [Enc C] [Enc R] [Enc S] [Enc T] (p:A→B→C→Prop) (f:A→B→C→R×S×T):Con:=⟨[false,false,false],[false,false,false],fun c=>match c with
 | [.d x,.d y,.d z]=>Ul A x∧Ul B y∧Ul C z∧p (dec x) (dec y) (dec z)
 | _=>False,fun c=>match c with
 | [.d x,.d y,.d z]=>.tup [.d (enc (f (dec x) (dec y) (dec z)).1),.d (enc (f (dec x) (dec y) (dec z)).2.1),.d (enc (f (dec x) (dec y) (dec z)).2.2)]
 | _=>.d .nilp⟩
theorem Zek {A B C R S T:Type} [Enc A] [Enc B] [Enc C] [Enc R] [Enc S] [Enc T] {p:A→B→C→Prop} {f:A→B→C→R×S×T} {c:List CV} (h:(Qbm p f).pre c):∃ a b d,c=[.d (enc a),.d (enc b),.d (enc d)]∧p a b d:=by
 unfold Qbm at h;simp only at h;split at h
 ·next x y z=>exact ⟨dec x,dec y,dec z,by rw [←h.1,←h.2.1,←h.2.2.1],h.2.2.2⟩
 ·exact h.elim
def dY (bel:Bool) (x y:Rose Node) (i k:Int):Int×Int×Bool :=
 cond (x.root.kind==0||y.root.kind==0) (i+(nds x).length,k+(nds y).length,Zme bel y.root)
  (cond (ov bel x y) (i+(nds x).length,k+(nds y).length,true) (0,0,false))
noncomputable def Nz (n:Nat):Con:=Qbm (fun (p:Pair) (i k:Int)=>p.a.length≤1000000000∧p.b.length≤1000000000∧0≤i∧0≤k∧∃ x y,At ar p.a i.toNat x∧At ar p.b k.toNat y∧(nds x).length<n∧p.bel=true)
 (fun p i k=>dY p.bel (Xa ar p.a i.toNat) (Xa ar p.b k.toNat) i k)
theorem Zbt:∀ c,¬ (Nz 0).pre c:=by
 intro c h;unfold Nz at h;obtain ⟨_,_,_,_,_,_,_,_,_,_,_,_,h,_⟩:=Zek h;omega
structure PL where
 l:List Node
instance encPL:Enc PL:=⟨fun p=>.ptr 1 (.list 3 (p.l.map enc)),fun x=>match x with
 | .ptr _ z=>⟨z.l.map dec⟩
 | _=>⟨[]⟩,fun p=>by
  have h:∀ l:List Node,(l.map (enc:Node→D)).map dec=l:=fun l=>Jx;cases p;simp [D.l,h]⟩
theorem Qng {l:List Node}:(enc (PL.mk l):D)=.ptr 1 (.list 3 (l.map enc)):=rfl
theorem C2 {l:List Node}:(dec (.ptr 1 (.list 3 (l.map enc))):PL)=⟨l⟩:=Enc.dec_enc (PL.mk l)
theorem Cz {l:List Node}:Ul PL (.ptr 1 (.list 3 (l.map enc)))=True:=eq_true (Wc (PL.mk l))
theorem vW {l:List Node}:(PL.mk l).l=l:=rfl
def D6:Con:=Um (fun (_ k:Int) (p:PL)=>0≤k∧k<p.l.length) (fun _ k p=>(p.l.getD k.toNat n0).kind==0)
theorem Zbn:Qc Tryz.prog (128,D6):=by
 obtain ⟨Kx,Kt,Kc,Kd,Kb,Ku,Kw,K,_⟩:=J7 Zx Zo [] false J5;have Ko:=D6.eq_def;refine J9 K Tryz.func128 [.tmp 5] rfl 12 rfl (fun c hc Ji Zh=>?_);unfold D6 at Zh;obtain ⟨i,k,⟨l⟩,rfl,h1,h2⟩:=Vb Zh;simp only at h1 h2;obtain ⟨k,rfl⟩:∃ n:Nat,k=n:=⟨k.toNat,by omega⟩
 have Zv:k<l.length:=by omega
 cases hc;have Qk:=Zp n0 Zv;have Qo:=@Qng;have Qi:=@C2;have Qn:=@Cz;have Ql:=@vW;have Qp:=@Zz;have Qv:=@Z1;have Q3:=@Z4;have Jh:=@Z0;have Jb:=@Kg;have Z3:=@Z2;exact Qqb
theorem Ly {A B C R S T:Type} [Enc A] [Enc B] [Enc C] [Enc R] [Enc S] [Enc T] (p:A→B→C→Prop) (f:A→B→C→R×S×T):Qbm p f=⟨[false,false,false],[false,false,false],fun c=>match c with
 | [.d x,.d y,.d z]=>Ul A x∧Ul B y∧Ul C z∧p (dec x) (dec y) (dec z)
 | _=>False,fun c=>match c with
 | [.d x,.d y,.d z]=>.tup [.d (enc (f (dec x) (dec y) (dec z)).1),.d (enc (f (dec x) (dec y) (dec z)).2.1),.d (enc (f (dec x) (dec y) (dec z)).2.2)]
 | _=>.d .nilp⟩:=rfl
theorem Zf2 {bel:Bool}:∀ {xs ys:List (Rose Node)},xs.length=ys.length→(ovs bel xs ys=true↔∀ j,j<xs.length→∀ (h:j<xs.length) (g:j<ys.length),xs[j].root.name=ys[j].root.name∧ov bel xs[j] ys[j]=true)
 | [],[],_=>by simp [ovs]
 | [],_::_,h=>by simp at h
 | _::_,[],h=>by simp at h
 | x::xs,y::ys,h=>by
  simp only [ovs,Zg,Zj];rw [Zf2 (by simpa using h)]
  constructor
  ·rintro ⟨h1,h2,h3⟩ j hj;cases j with
   | zero=>exact fun _ _=>⟨h1,h2⟩
   | succ j=>exact fun g1 g2=>h3 j (by simpa using g1) (by simpa using g1) (by simpa using g2)
  ·intro h4;have h5:=h4 0 (by simp) (by simp) (by simp)
   exact ⟨h5.1,h5.2,fun j hj g1 g2=>h4 (j+1) (by simpa using hj) (by simpa using g1) (by simpa using g2)⟩
theorem xD {bel:Bool} {x y:Rose Node} {i k:Int}:(dY bel x y i k).2.2=ov bel x y:=by
 obtain ⟨n,ks⟩:=x;unfold dY;cases hd:((mk n ks).root.kind==0||y.root.kind==0) with
 | true =>
  simp only [cond_true];rw [ov];rw [show (mk n ks).root=n from rfl] at hd;rw [hd];rfl
 | false =>
  cases ho:ov bel (mk n ks) y<;>simp
theorem Qai {bel:Bool} {x y:Rose Node} {i k:Nat} (h:ov bel x y=true):dY bel x y i k=(((i+(nds x).length:Nat):Int),((k+(nds y).length:Nat):Int),true):=by
 have h2:=xD (bel:=bel) (x:=x) (y:=y) (i:=i) (k:=k);rw [h] at h2;unfold dY at h2 ⊢;cases hd:(x.root.kind==0||y.root.kind==0) with
 | true =>
  rw [hd] at h2;simp only [cond_true] at h2 ⊢;rw [h2];simp
 | false=>rw [h];simp
theorem Ql8 {m n:Node} (h1:m.kind=n.kind) (h2:m.n=n.n):ar m=ar n:=by unfold ar;rw [h1,h2]
theorem Qdc {xs:List (Rose Node)} {j:Nat} (h:j<xs.length):(nds xs[j]).length≤(ndss xs).length:=by
 induction xs generalizing j with
 | nil=>simp at h
 | cons x xs ih =>
  simp only [ndss,Ze];cases j with
  | zero=>simp
  | succ j=>have:=ih (j:=j) (by simpa using h);simp only [List.getElem_cons_succ];omega
class Kbf:Prop
theorem Kbf.k (_:Kbf) (h:p:=by
 first|(unfold Zme;simp_all)):p:=h
class Kbh:Prop
theorem Kbh.k (_:Kbh) (h:p:=by
 repeat' first|exact M7|with_reducible apply Zw|intro _
 all_goals with_reducible exact uL):p:=h
class Kbi:Prop
theorem Kbi.k (_:Kbi) (h:p:=by
 repeat' first|exact M7|with_reducible apply Zw|intro _
 all_goals with_reducible exact uL):p:=h
class Kbj:Prop
theorem Kbj.k (_:Kbj) (h:p:=by
 first|exact ⟨j+1,by exact Qt,by omega,Cq hnm' ho,by omega⟩):p:=h
class Kbg:Prop
theorem Kbg.k (_:Kbg) (h:p:=by
 refine Zm [6,7,8,12,74,75,76,77,78,79,80,81,82,83,84,85,86,87,88,89,90,91,92,93,94,95,96,97,98] (fun j:Nat=>[(1,.d (.int .i64 (i+1+(ndss (xs.take j)).length:Nat))),(2,.d (.int .i64 (k+1+(ndss (ys.take j)).length:Nat))),(73,.d (.int .i64 j))]) (fun j:Nat=>[]) (fun j:Nat=>j≤xs.length∧∀ p,p<j→∀ (h:p<xs.length) (g:p<ys.length),xs[p].root.name=ys[p].root.name∧ov bel xs[p] ys[p]=true) (fun j:Nat=>xs.length-j) 0 ?_ ?_ ?_
 ·exact ⟨Nat.zero_le _,fun p hp=>absurd hp (by omega)⟩
 ·have Vc:=@ndss.eq_1;have Cs:=@ndss.eq_2;exact Qt
 rintro j ⟨hj,Jl⟩;rcases Zn j xs.length with ⟨Zv,Qw⟩|⟨Zv,Qw⟩
 ·have hlt':j<ys.length:=by omega
  have Qp3:=sD jV Zv;have Qp2:=sD Qy4 hlt';have Qzb:(nds xs[j]).length<n:=by have:=Qdc Zv;omega
  obtain ⟨xj,Dd⟩:=exq (xs[j]);obtain ⟨yj,Zzl⟩:=exq (ys[j]);have Qv1:=Fv Zv;have Jap:=Fv hlt';rw [Dd] at Qp3 Qzb Qv1;rw [Zzl] at Qp2 Jap;have Cq:xj.root.name=yj.root.name→ov bel xj yj=true→∀ p,p<j+1→∀ (h:p<xs.length) (g:p<ys.length),xs[p].root.name=ys[p].root.name∧ov bel xs[p] ys[p]=true:=by
   intro Bs Le p hp h g;by_cases Qs0:p=j
   ·subst Qs0;rw [Dd,Zzl];exact ⟨Bs,Le⟩
   ·exact Jl p (by omega) h g
  have Jg:¬ (xj.root.name=yj.root.name∧ov bel xj yj=true)→ov bel x y=false:=by
   intro h;rw [Qs2,Bool.eq_false_iff];intro hc;have:=(Zf2 Q5).1 hc j Zv Zv hlt';rw [Dd,Zzl] at this;exact h this
  obtain ⟨I,Q4⟩:=exq (i+1+(ndss (xs.take j)).length);obtain ⟨J,Jf⟩:=exq (k+1+(ndss (ys.take j)).length);rw [Q4] at Qp3;rw [Jf] at Qp2;have Qxi:=Qp3.lt;have Qxh:=Qp2.lt;have Xf:a.getD I n0=xj.root:=Qp3.root n0;have Xe:b.getD J n0=yj.root:=Qp2.root n0;have Yq:Xa ar a I=xj:=Xz Qp3;have Mf:Xa ar b J=yj:=Xz Qp2;have Qv5:∃ x y,At ar a I x∧At ar b J y∧(nds x).length<n:=⟨xj,yj,Qp3,Qp2,Qzb⟩;cases Wm:(xj.root.name==yj.root.name) with
  | false =>
   have Wz:=Qca (Jg fun h=>by rw [Za] at Wm;exact Wm h.1)
   have Jk:=Zp n0 Qxi;have Ju:=Zp n0 Qxh;have Nh:=@K5;have Ng:=@K2;have Nf:=@C2;have Nd:=@Cz;have Nc:=@vW;have Nb:=@Ly;have Na:=@Nx;have H9:=@R7;have H8:=@R6;have H7:=@R0;have H6:=@Lq;have H5:=@Lr;have H4:=@K3;have H3:=@K4;have H2:=@K0;have H1:=@K1;have H0:=@Zz;have Hz:=@Z1;have Hy:=@Z4;have Hx:=@Z0;have Hw:=@Kg;have Hv:=@Z2;have Kq:Kbh:=⟨⟩;exact C7
  | true =>
   have hnm':=Wm;rw [Zj] at hnm';cases ho:ov bel xj yj with
   | false =>
    have Wz:=Qca (Jg fun h=>by rw [ho] at h;cases h.2)
    have Me:(dY bel xj yj (I:Int) (J:Int)).2.2=false:=by rw [xD,ho]
    cases bel with
    | true =>
     have Yj:=Zp n0 Qxi;have Yr:=Zp n0 Qxh;have Nh:=@K5;have Ng:=@K2;have Nf:=@C2;have Nd:=@Cz;have Nc:=@vW;have Nb:=@Ly;have Na:=@Nx;have H9:=@R7;have H8:=@R6;have H7:=@R0;have H6:=@Lq;have H5:=@Lr;have H4:=@K3;have H3:=@K4;have H2:=@K0;have H1:=@K1;have H0:=@Zz;have Hz:=@Z1;have Hy:=@Z4;have Hx:=@Z0;have Hw:=@Kg;have Hv:=@Z2;have Kq:Kbi:=⟨⟩;exact C7
    | false =>
     cases Qi1
   | true =>
    have Me:=Qai (bel:=bel) (x:=xj) (y:=yj) (i:=I) (k:=J) ho;have Mv:I+(nds xj).length=i+1+(ndss (xs.take (j+1))).length:=by omega
    have Mu:J+(nds yj).length=k+1+(ndss (ys.take (j+1))).length:=by omega
    cases bel with
    | true =>
     have M6:=Zp n0 Qxi;have M5:=Zp n0 Qxh;have Nh:=@K5;have Ng:=@K2;have Nf:=@C2;have Nd:=@Cz;have Nc:=@vW;have Nb:=@Ly;have Na:=@Nx;have H9:=@R7;have H8:=@R6;have H7:=@R0;have H6:=@Lq;have H5:=@Lr;have H4:=@K3;have H3:=@K4;have H2:=@K0;have H1:=@K1;have H0:=@Zz;have Hz:=@Z1;have Hy:=@Z4;have Hx:=@Z0;have Hw:=@Kg;have Hv:=@Z2;have Kq:Kbj:=⟨⟩;exact Zh1
    | false =>
     cases Qi1
 ·have Oe:j=xs.length:=by omega
  subst Oe;have ho:ov bel x y=true:=by
   rw [Qs2];exact (Zf2 Q5).2 fun p _ h g=>Jl p h h g
  have Me:=Qai (bel:=bel) (x:=x) (y:=y) (i:=i) (k:=k) ho;have Mv:i+1+(ndss (xs.take xs.length)).length=i+(nds x).length:=by rw [List.take_length];omega
  have Mu:k+1+(ndss (ys.take xs.length)).length=k+(nds y).length:=by rw [Q5,List.take_length];omega
  have Nh:=@K5;have Ng:=@K2;have Nf:=@C2;have Nd:=@Cz;have Nc:=@vW;have Nb:=@Ly;have Na:=@Nx;have H9:=@R7;have H8:=@R6;have H7:=@R0;have H6:=@Lq;have H5:=@Lr;have H4:=@K3;have H3:=@K4;have H2:=@K0;have H1:=@K1;have H0:=@Zz;have Hz:=@Z1;have Hy:=@Z4;have Hx:=@Z0;have Hw:=@Kg;have Hv:=@Z2;exact Qxs):p:=h
class Kbk:Prop
theorem Kbk.k (_:Kbk) (h:p:=by
 repeat' first|exact M7|with_reducible apply Zw|intro _
 all_goals with_reducible exact uL):p:=h
class Kbl:Prop
theorem Kbl.k (_:Kbl) (h:p:=by
 repeat' first|exact M7|with_reducible apply Zw|intro _
 all_goals with_reducible exact uL):p:=h
class Kbm:Prop
theorem Kbm.k (_:Kbm) (h:p:=by
 repeat' first|exact M7|with_reducible apply Zw|intro _
 all_goals with_reducible exact uL):p:=h
theorem step_over (n:Nat) (ih:Qc Tryz.prog (129,Nz n)):Qc Tryz.prog (129,(Nz (n+1))):=by
 obtain ⟨Kx,Kt,Kc,Kd,Kb,Ku,Kw,K,X4,V2,Mo,Tx,_⟩:=J7 Zx Zo [] false (Q1 good_EndT fV.eq_def (Q1 good_KidsT iM.eq_def (Q1 Zbn D6.eq_def (Q1 ih (Nz.eq_def n) J5))));have Ko:=(Nz.eq_def (n+1));refine J9 K Tryz.func129 [.tmp 6,.tmp 7,.tmp 8] rfl 101 rfl (fun c hc Ji Zh=>?_);unfold Nz at Zh;obtain ⟨⟨a,b,bel⟩,i,k,rfl,ha,hb,Znb,kH,x,y,hx,hy,hn,Qi1⟩:=Zek Zh;simp only at Qi1;obtain ⟨i,rfl⟩:∃ n:Nat,i=n:=⟨i.toNat,by omega⟩
 obtain ⟨k,rfl⟩:∃ n:Nat,k=n:=⟨k.toNat,by omega⟩
 simp only [Zl] at hx hy ha hb;have Ai:=hx.lt;have aK:=hy.lt;have Zht:=hx.le;have Jcm:=hy.le;have Qi:a.getD i n0=x.root:=hx.root n0;have Qn:b.getD k n0=y.root:=hy.root n0;have Ql:Xa ar a i=x:=Xz hx;have Qp:Xa ar b k=y:=Xz hy;have Qv:Zgu a i=((i+(nds x).length:Nat):Int):=Zgt hx;have Q3:Zgu b k=((k+(nds y).length:Nat):Int):=Zgt hy;have Qyu:=Zy9 hx;have Qyt:=Zy9 hy;cases hc;refine W5 6 ?_;have Jbm:((x.root.kind==0)=true∧(x.root.kind==0||y.root.kind==0)=true)∨((x.root.kind==0)=false∧(y.root.kind==0)=true∧(x.root.kind==0||y.root.kind==0)=true)∨((x.root.kind==0)=false∧(y.root.kind==0)=false∧(x.root.kind==0||y.root.kind==0)=false):=by
  cases x.root.kind==0<;>cases y.root.kind==0<;>simp
 have hR:(x.root.kind==0||y.root.kind==0)=true→dY bel x y i k=(((i+(nds x).length:Nat):Int),((k+(nds y).length:Nat):Int),Zme bel y.root):=by
  intro hd;unfold dY;rw [hd];simp
 rcases Jbm with ⟨Jh,hd⟩|⟨Jh,Z7,hd⟩|⟨Jh,Z7,hd⟩
 ·have Jb:=hR hd;cases bel with
  | true =>
   have Qk:=Zp n0 Ai;have Qo:=Zp n0 aK;have Nh:=@K5;have Ng:=@K2;have Nf:=@C2;have Nd:=@Cz;have Nc:=@vW;have Nb:=@Ly;have Na:=@Nx;have H9:=@R7;have H8:=@R6;have H7:=@R0;have H6:=@Lq;have H5:=@Lr;have H4:=@K3;have H3:=@K4;have H2:=@K0;have H1:=@K1;have H0:=@Zz;have Hz:=@Z1;have Hy:=@Z4;have Hx:=@Z0;have Hw:=@Kg;have Hv:=@Z2;exact Qqb
  | false =>
   cases Qi1
 ·have Jb:=hR hd;cases bel with
  | true =>
   have Z3:=Zp n0 Ai;have Z6:=Zp n0 aK;have Nh:=@K5;have Ng:=@K2;have Nf:=@C2;have Nd:=@Cz;have Nc:=@vW;have Nb:=@Ly;have Na:=@Nx;have H9:=@R7;have H8:=@R6;have H7:=@R0;have H6:=@Lq;have H5:=@Lr;have H4:=@K3;have H3:=@K4;have H2:=@K0;have H1:=@K1;have H0:=@Zz;have Hz:=@Z1;have Hy:=@Z4;have Hx:=@Z0;have Hw:=@Kg;have Hv:=@Z2;have Kq:Kbf:=⟨⟩;exact Zh1
  | false =>
   cases Qi1
 ·obtain ⟨jV,Qfl⟩:=hx.kids;obtain ⟨Qy4,Qy5⟩:=hy.kids;obtain ⟨xs,dM⟩:=exq (x.kids);obtain ⟨ys,Qmb⟩:=exq (y.kids);have Qs2:ov bel x y=((x.root.kind==y.root.kind&&(x.root.name==y.root.name&&x.root.n==y.root.n))&&ovs bel xs ys):=by
   obtain ⟨m,zs⟩:=x;rw [ov];rw [show (mk m zs).root=m from rfl] at hd;rw [hd,Qmb,show zs=xs from dM];rfl
  have Qzr:dY bel x y i k=cond (ov bel x y) (((i+(nds x).length:Nat):Int),((k+(nds y).length:Nat):Int),true) (0,0,false):=by
   unfold dY;rw [hd];simp
  have Qmn:tF a i=Mt (i+1) xs:=by
   unfold tF;rw [if_neg (by omega)]
   simp only [Zl];rw [Ql,dM]
  have Qr:(tF a i).length=xs.length:=by rw [Qmn,Bn]
  have Qyv:Qsj a i:=fun _ _=>⟨x,by simpa using hx⟩
  have Qca:ov bel x y=false→dY bel x y i k=(0,0,false):=by
   intro h;rw [Qzr,h];rfl
  have K8:(x.root.kind==y.root.kind&&(x.root.name==y.root.name&&x.root.n==y.root.n))=true→xs.length=ys.length:=by
   intro h;simp only [Zg,Zj] at h;rw [dM] at Qfl;rw [Qmb] at Qy5;rw [Qfl,Qy5,Ql8 h.1 h.2.2]
  rw [dM] at jV;rw [Qmb] at Qy4;have Er:=Zg6 jV (by omega)
  have dN:(nds x).length=1+(ndss xs).length:=by rw [nI,dM,Zi];omega
  have Jcl:(nds y).length=1+(ndss ys).length:=by rw [nI,Qmb,Zi];omega
  have Qn2:xs.length≤1000000000:=by
   have:=Bn (i+1) xs;have h2:xs.length≤(ndss xs).length:=by
    clear jV Er Qs2 Qmn Qr Qca Qzr K8 dM dN this
    induction xs with
    | nil=>simp
    | cons z zs ih=>simp only [Zi,ndss,Ze];have:=Di z;omega
   omega
  by_cases Ze7:x.root.kind=y.root.kind∧x.root.name=y.root.name∧x.root.n=y.root.n
  ·obtain ⟨e1,e2,e3⟩:=Ze7;have Qx:(x.root.kind != y.root.kind)=false:=by simp [e1]
   have Qm:(x.root.name==y.root.name)=true:=by simp [e2]
   have Qg:(x.root.n != y.root.n)=false:=by simp [e3]
   have c1:(x.root.kind==y.root.kind)=true:=by simp [e1]
   have c3:(x.root.n==y.root.n)=true:=by simp [e3]
   have Q5:xs.length=ys.length:=K8 (by simp [e1,e2,e3])
   rw [c1,Qm,c3,Bool.true_and,Bool.true_and,Bool.true_and] at Qs2;have Qq:=Zp n0 Ai;have Qj:=Zp n0 aK;have Nh:=@K5;have Ng:=@K2;have Nf:=@C2;have Nd:=@Cz;have Nc:=@vW;have Nb:=@Ly;have Na:=@Nx;have H9:=@R7;have H8:=@R6;have H7:=@R0;have H6:=@Lq;have H5:=@Lr;have H4:=@K3;have H3:=@K4;have H2:=@K0;have H1:=@K1;have H0:=@Zz;have Hz:=@Z1;have Hy:=@Z4;have Hx:=@Z0;have Hw:=@Kg;have Hv:=@Z2;have Kq:Kbg:=⟨⟩;exact Zh1
  ·have Wz:=Qca (by
    rw [Qs2,Bool.eq_false_iff];intro hc;simp only [Zg,Zj] at hc;exact Ze7 ⟨hc.1.1,hc.1.2.1,hc.1.2.2⟩)
   have uD:(x.root.kind != y.root.kind)=true∨((x.root.kind != y.root.kind)=false∧(x.root.name==y.root.name)=false)∨((x.root.kind != y.root.kind)=false∧(x.root.name==y.root.name)=true∧(x.root.n != y.root.n)=true):=by
    simp only [bne_iff_ne,ne_eq,bne_eq_false_iff_eq,Za,Zj];by_cases h1:x.root.kind=y.root.kind
    ·by_cases h2:x.root.name=y.root.name
     ·exact .inr (.inr ⟨h1,h2,fun h3=>Ze7 ⟨h1,h2,h3⟩⟩)
     ·exact .inr (.inl ⟨h1,h2⟩)
    ·exact .inl h1
   rcases uD with Bs|⟨Bs,Le⟩|⟨Bs,Le,Sw⟩
   ·have S5:=Zp n0 Ai;have S4:=Zp n0 aK;have Nh:=@K5;have Ng:=@K2;have Nf:=@C2;have Nd:=@Cz;have Nc:=@vW;have Nb:=@Ly;have Na:=@Nx;have H9:=@R7;have H8:=@R6;have H7:=@R0;have H6:=@Lq;have H5:=@Lr;have H4:=@K3;have H3:=@K4;have H2:=@K0;have H1:=@K1;have H0:=@Zz;have Hz:=@Z1;have Hy:=@Z4;have Hx:=@Z0;have Hw:=@Kg;have Hv:=@Z2;have Kq:Kbk:=⟨⟩;exact C7
   ·have S3:=Zp n0 Ai;have S0:=Zp n0 aK;have Nh:=@K5;have Ng:=@K2;have Nf:=@C2;have Nd:=@Cz;have Nc:=@vW;have Nb:=@Ly;have Na:=@Nx;have H9:=@R7;have H8:=@R6;have H7:=@R0;have H6:=@Lq;have H5:=@Lr;have H4:=@K3;have H3:=@K4;have H2:=@K0;have H1:=@K1;have H0:=@Zz;have Hz:=@Z1;have Hy:=@Z4;have Hx:=@Z0;have Hw:=@Kg;have Hv:=@Z2;have Kq:Kbl:=⟨⟩;exact C7
   ·have Sy:=Zp n0 Ai;have Sx:=Zp n0 aK;have Nh:=@K5;have Ng:=@K2;have Nf:=@C2;have Nd:=@Cz;have Nc:=@vW;have Nb:=@Ly;have Na:=@Nx;have H9:=@R7;have H8:=@R6;have H7:=@R0;have H6:=@Lq;have H5:=@Lr;have H4:=@K3;have H3:=@K4;have H2:=@K0;have H1:=@K1;have H0:=@Zz;have Hz:=@Z1;have Hy:=@Z4;have Hx:=@Z0;have Hw:=@Kg;have Hv:=@Z2;have Kq:Kbm:=⟨⟩;exact C7
theorem yM:∀ n,Qc Tryz.prog (129,Nz n)
 | 0=>X1 (Jv Tryz.func129 (by kernel_rfl) rfl) Zbt
 | n+1=>step_over n (yM n)
noncomputable def sV:Con:=Nz 1000000001
theorem Zx8:Qc Tryz.prog (129,sV):=yM _
theorem Zlw:sV=Nz 1000000001:=rfl
theorem Qc4 {bel:Bool} {x y:Rose Node} {i k:Int}:(dY bel x y i k).2.2=ov bel x y:=xD
def Qvu (t:List Node):Prop:=∃ x,At ar t 0 x
noncomputable def Zy7 (a b:List Node):Bool:=ov true (Xa ar a 0) (Xa ar b 0)
noncomputable def cL:Con:=Jy (fun (a b:Sl Node)=>a.l.length≤1000000000∧b.l.length≤1000000000∧Qvu a.l∧Qvu b.l) (fun a b=>Zy7 a.l b.l)
theorem Zgw {l:List Node}:(enc (Sl.mk l):D)=.list 3 (l.map enc):=rfl
class Kbn:Prop
theorem Kbn.k (_:Kbn) (h:p:=by
 repeat' first|exact M7|with_reducible apply Zw|intro _
 all_goals rfl):p:=h
theorem good_BelowP:Qc Tryz.prog (82,cL):=by
 obtain ⟨Kx,Kt,Kc,Kd,Kb,Ku,Kw,K,X4,_⟩:=J7 Zx Zo [] false (Q1 Zx8 sV.eq_def J5);have Ko:=cL.eq_def;refine J9 K Tryz.func82 [.tmp 4] rfl 20 rfl (fun c hc Ji Zh=>?_);unfold cL at Zh;obtain ⟨⟨a⟩,⟨b⟩,rfl,ha,hb,⟨x,hx⟩,⟨y,hy⟩⟩:=Qf Zh;simp only at ha hb hx hy;have Qv5:∃ x y,At ar a 0 x∧At ar b 0 y∧(nds x).length<1000000001:=⟨x,y,hx,hy,by have:=hx.le;omega⟩
 cases hc;have Qk:=@Zlw;have Qo:=@Nz.eq_def;have Qi:=@Zgw;have Qn:=@Qc4;have Ql:=@K5;have Qp:=@K2;have Qv:=@C2;have Q3:=@Cz;have Jh:=@vW;have Jb:=@Ly;have Z3:=@Nx;have Z6:=@R7;have Z7:=@R6;have Qq:=@R0;have Qj:=@Lq;have Qx:=@Lr;have Qm:=@K3;have Qg:=@K4;have Qr:=@K0;have Qw:=@K1;have Q4:=@Zz;have Jf:=@Z1;have Jk:=@Z4;have Ju:=@Z0;have Xf:=@Kg;have Xe:=@Z2;have Kq:Kbn:=⟨⟩;exact C7
structure MS where
 out:Option (List Node)
 done:Nat
def wV (k:Int):List UInt8:=if k=0 then [63] else if k=1 then [105,110,116] else if k=2 then [98,111,111,108] else if k=3 then [115,116,114,105,110,103] else [117,110,105,116]
def Qbx (n:Node):Prop:=0≤n.kind∧n.kind≤4
def gP:Con:=Xj (fun (n:Node)=>Qbx n) (fun n=>wV n.kind)
class Kbo:Prop
theorem Kbo.k (_:Kbo) (h:p:=by
 unfold wV;repeat' first|exact M7|with_reducible apply Zw|intro _
 all_goals first|(rename_i h;rw [h];rfl)|(rename_i h;simp only [h];rfl)|skip):p:=h
theorem good_word3:Qc Tryz.prog (160,gP):=by
 obtain ⟨Kx,Kt,Kc,Kd,Kb,Ku,Kw,K,_⟩:=J7 Zx Zo [] false J5;have Ko:=gP.eq_def;refine J9 K Tryz.func160 [.tmp 2] rfl 25 rfl (fun c hc Ji Zh=>?_);unfold gP at Zh;obtain ⟨n,rfl,h0,h4⟩:=Q8 Zh;cases hc;have hc:n.kind=0∨n.kind=1∨n.kind=2∨n.kind=3∨n.kind=4:=by omega
 have Qk:=@Zz;have Qo:=@Z1;have Qi:=@Z4;have Qn:=@Z0;have Ql:=@Kg;have Qp:=@Z2;have Kq:Kbo:=⟨⟩;exact C7
def Zg7 (x y:Node):List UInt8:=wV x.kind++[32,45,62,32]++wV y.kind
def vU (t:List Node):Prop:=∃ p x y,t=[p,x,y]∧p.kind=5∧Qbx x∧Qbx y
def Yl (n:Nat):Con:=Jy (fun (t:Sl Node) (i:Int)=>vU t.l∧((i=0∧2≤n)∨((i=1∨i=2)∧1≤n)))
 (fun t i=>if i=0 then Zg7 (t.l.getD 1 n0) (t.l.getD 2 n0) else wV (t.l.getD i.toNat n0).kind)
theorem pA:∀ c,¬ (Yl 0).pre c:=by
 intro c h;unfold Yl at h;obtain ⟨_,_,_,_,h⟩:=Qf h;omega
theorem Zch {k:Int}:(wV k).length≤6:=by
 unfold wV;repeat' split
 all_goals simp
theorem tA {n:Node} (h:Qbx n):Yc n=0:=by
 obtain ⟨h1,h2⟩:=h;unfold Yc;rw [if_neg (by omega),if_neg (by omega)]
theorem Zxw {n:Node} (h:n.kind=5):Yc n=2:=by unfold Yc;rw [if_pos h]
class Kbp:Prop
theorem Kbp.k (_:Kbp) (h:p:=by
 first|(simp only [Ze,Zi,List.length_nil];omega)|(unfold Zg7;simp only [List.append_assoc])|(simp;omega)):p:=h
theorem step_printed3 (n:Nat) (ih:Qc Tryz.prog (115,Yl n)):Qc Tryz.prog (115,(Yl (n+1))):=by
 obtain ⟨Kx,Kt,Kc,Kd,Kb,Ku,Kw,K,X4,V2,Mo,_⟩:=J7 Zx Zo [] false (Q1 good_Kids3 En.eq_def (Q1 good_word3 gP.eq_def (Q1 ih (Yl.eq_def n) J5)));have Ko:=(Yl.eq_def (n+1));refine J9 K Tryz.func115 [.tmp 4] rfl 126 rfl (fun c hc Ji Zh=>?_);unfold Yl at Zh;obtain ⟨⟨t⟩,i,rfl,⟨p,x,y,ht,hp,hx,hy⟩,hi⟩:=Qf Zh;simp only at ht;subst ht;have mx:=tA hx;have my:=tA hy;have mp:=Zxw hp;have hT:Zap [p,x,y]:=by
  refine ⟨by simp,fun n hn=>?_⟩
  simp only [Zs,Ee,or_false] at hn;rcases hn with rfl|rfl|rfl
  ·omega
  ·omega
  ·omega
 have hA:vU [p,x,y]:=⟨p,x,y,rfl,hp,hx,hy⟩;have Qn:el (List.map (enc:Node→D) [p,x,y]) 0=enc p:=rfl;have Ql:el (List.map (enc:Node→D) [p,x,y]) 1=enc x:=rfl;have Qp:el (List.map (enc:Node→D) [p,x,y]) 2=enc y:=rfl;obtain ⟨L,Qk⟩:=exq ([p,x,y]);have Qv:L.getD 0 n0=p:=by rw [←Qk];rfl
 have Q3:L.getD 1 n0=x:=by rw [←Qk];rfl
 have Jh:L.getD 2 n0=y:=by rw [←Qk];rfl
 have Qo:L.length=3:=by rw [←Qk];rfl
 rw [Qk] at Qn Ql Qp hT hA;have Z3:(x.kind==5)=false:=by rw [Za];have:=hx.2;omega
 have Qq:(y.kind==5)=false:=by rw [Za];have:=hy.2;omega
 have Jb:(p.kind==5)=true:=by rw [Zj];exact hp
 have Z6:(x.kind != 6)=true:=by rw [bne_iff_ne];have:=hx.2;omega
 have Qj:(y.kind != 6)=true:=by rw [bne_iff_ne];have:=hy.2;omega
 have Z7:(x.kind != 7)=true:=by rw [bne_iff_ne];have:=hx.2;omega
 have Qx:(y.kind != 7)=true:=by rw [bne_iff_ne];have:=hy.2;omega
 have wx:=Zch (k:=x.kind);have wy:=Zch (k:=y.kind);cases hc;refine W5 7 ?_;rcases hi with ⟨rfl,hn⟩|⟨rfl|rfl,hn⟩
 ·have Qi:G3 L 0=[1,2]:=by
   rw [←Qk];unfold G3;rw [if_neg (by simp)]
   show Xx _ (Yc p).toNat 1=_;rw [mp];have e1:Za5 [x,y] 1=1:=by
    simp only [Za5,mx];rfl
   have e2:(2:Int).toNat=1+1:=rfl;rw [e2,Xx,if_pos (by simp)]
   show (1:Int)::Xx [p,x,y] 1 (1+Za5 [x,y] 1)=_;rw [e1,Xx,if_pos (by simp)]
   rfl
  have Qm:=@Zz;have Qg:=@Z1;have Qr:=@Z4;have Qw:=@Z0;have Q4:=@Kg;have Jf:=@Z2;have Kq:Kbp:=⟨⟩;exact Zh1
 ·have Qi:G3 L 1=[]:=by
   rw [←Qk];unfold G3;rw [if_neg (by simp)]
   show Xx _ (Yc x).toNat 2=_;rw [mx];rfl
  have Qm:=@Zz;have Qg:=@Z1;have Qr:=@Z4;have Qw:=@Z0;have Q4:=@Kg;have Jf:=@Z2;exact Qqb
 ·have Qi:G3 L 2=[]:=by
   rw [←Qk];unfold G3;rw [if_neg (by simp)]
   show Xx _ (Yc y).toNat 3=_;rw [my];rfl
  have Qm:=@Zz;have Qg:=@Z1;have Qr:=@Z4;have Qw:=@Z0;have Q4:=@Kg;have Jf:=@Z2;exact Qqb
theorem eL:∀ n,Qc Tryz.prog (115,Yl n)
 | 0=>X1 (Jv Tryz.func115 (by kernel_rfl) rfl) pA
 | n+1=>step_printed3 n (eL n)
def I5:Con:=Yl 2
theorem yN:Qc Tryz.prog (115,I5):=eL 2
theorem vZ:I5=Yl 2:=rfl
def cW:Con:=Xj (fun (t:Sl Node)=>vU t.l) (fun t=>Zg7 (t.l.getD 1 n0) (t.l.getD 2 n0))
theorem Zk2:Qc Tryz.prog (62,cW):=by
 obtain ⟨Kx,Kt,Kc,Kd,Kb,Ku,Kw,K,X4,_⟩:=J7 Zx Zo [] false (Q1 yN I5.eq_def J5);have Ko:=cW.eq_def;refine J9 K Tryz.func62 [.tmp 2] rfl 5 rfl (fun c hc Ji Zh=>?_);unfold cW at Zh;obtain ⟨⟨t⟩,rfl,hA⟩:=Q8 Zh;simp only at hA;cases hc;have Qk:=@vZ;have Qo:=@Yl.eq_def;have Qi:=@Zz;have Qn:=@Z1;have Ql:=@Z4;have Qp:=@Z0;have Qv:=@Kg;have Q3:=@Z2;exact Qqb
def Ga (l:List Node):Prop:=∀ n∈l,V0 n=true
theorem Dl {n:Node} (h:V0 n=true):Yc n=(ar n:Int):=(Qh8 (bQ h).1).symm
theorem Zlq:∀ {l:List Node} {o k:Nat},Ga l→1≤o→Sv ar l o=some k→Za5 l o=k
 | [],o+1,k,_,_,h=>by simp [Sv] at h
 | n::l,o+1,k,hn,_,h=>by
  rw [Sv,Option.map_eq_some_iff] at h;obtain ⟨k',h1,rfl⟩:=h;have hm:=Dl (hn n (by simp))
  have e:((o+1:Nat):Int)-1+Yc n=((o+ar n:Nat):Int):=by rw [hm];omega
  rw [Za5,e];by_cases hz:o+ar n=0
  ·rw [if_pos (by omega)]
   rw [hz] at h1;cases l<;>(simp only [Sv,Zb] at h1;omega)
  ·rw [if_neg (by omega),Zlq (fun m hm=>hn m (List.mem_cons_of_mem _ hm)) (by omega) h1]
   omega
theorem Qda {l:List Node} {i:Nat} (h:Ga l):Ga (l.drop i):=fun n hn=>h n (List.mem_of_mem_drop hn)
theorem Zyu {t:List Node} {i:Nat} {x:Rose Node} (hn:Ga t) (h:At ar t i x):Za5 (t.drop i) 1=(nds x).length:=Zlq (o:=1) (Qda hn) (Zr _) (vS h)
theorem Zgv {t:List Node} {i:Nat} {x:Rose Node} (hn:Ga t) (h:At ar t i x):mX t i=((i+(nds x).length:Nat):Int):=by
 unfold mX;have:=h.lt;rw [if_neg (by omega),Zl,Zyu hn h]
 simp
theorem oQ {t:List Node} (hn:Ga t):∀ {ks:List (Rose Node)} {q:Nat},Zhi ar t q ks→Xx t ks.length q=Mt q ks
 | [],_,_=>rfl
 | x::ks,q,h=>by
  have hx:=h.head;rw [Zi,Xx,if_pos hx.1.lt,Zyu hn hx.1,Mt,oQ hn hx.2]
theorem Zkn {t:List Node} {i:Nat} {x:Rose Node} (hn:Ga t) (h:At ar t i x):G3 t i=Mt (i+1) x.kids:=by
 unfold G3;have hl:=h.lt;have hk:=h.kids;have hm:=Dl (hn (t.getD i n0) (by simp [hl]))
 rw [if_neg (by omega)]
 simp only [Zl];rw [show (⟨0,[],0⟩:Node)=n0 from rfl,hm,h.root n0,Zl,←hk.2,oQ hn hk.1]
theorem uY {t:List Node} (hn:Ga t):∀ {m q:Nat},(Xx t m q).length=m→(∀ j,q≤j→j<t.length→∃ z,At ar t j z)→q≤t.length→∃ ks:List (Rose Node),ks.length=m∧Zhi ar t q ks
 | 0,q,_,_,hq=>⟨[],rfl,trivial,t.drop q,by simp [ndss]⟩
 | m+1,q,h,hz,hq=>by
  rw [Xx] at h;by_cases Zv:q<t.length
  ·rw [if_pos Zv] at h;obtain ⟨x,hx⟩:=hz q (Zr _) Zv;rw [Zyu hn hx] at h;obtain ⟨ks,h1,h2,r,h3⟩:=uY hn (m:=m) (q:=q+(nds x).length) (by simpa using h) (fun j hj=>hz j (by omega)) hx.le
   obtain ⟨h4,r',h5⟩:=hx;refine ⟨x::ks,by simp [h1],⟨h4,h2⟩,r,?_⟩
   rw [←List.drop_drop,h5,List.drop_left'] at h3
   ·rw [h5,h3,ndss,List.append_assoc]
   ·rfl
  ·rw [if_neg Zv] at h;simp at h
theorem jH {t:List Node} (hn:Ga t) (h:∀ i,i<t.length→((G3 t i).length:Int)=Yc (t.getD i n0)):∀ (m i:Nat),t.length-i≤m→i<t.length→∃ z,At ar t i z
 | 0,i,hm,hi=>by omega
 | m+1,i,hm,hi=>by
  have h1:=h i hi;have Qjd:=Dl (hn (t.getD i n0) (by simp [hi]))
  unfold G3 at h1;rw [if_neg (by omega)] at h1
  simp only [Zl] at h1;rw [show (⟨0,[],0⟩:Node)=n0 from rfl,Qjd,Zl] at h1;obtain ⟨ks,k1,k2,r,k3⟩:=uY hn (m:=ar (t.getD i n0)) (q:=i+1) (by omega) (fun j hj C6=>jH hn h m j (by omega) C6) (by omega)
  refine ⟨mk (t.getD i n0) ks,⟨k1,k2⟩,r,?_⟩;rw [List.drop_eq_getElem_cons hi,k3,Y2];simp [hi]
def eU (r d:Nat):Bool:=decide (r+d≤100)
theorem zC {r d:Nat} (h:r+d≤100):eU r d=true:=decide_eq_true h
theorem sX {r d:Nat} (h:¬ r+d≤100):eU r d=false:=decide_eq_false h
theorem Qkl {r d r' d':Nat} (h:r+d=r'+d'):eU r d=eU r' d':=by unfold eU;rw [h]
mutual
theorem shal_tree:∀ (x:Rose Node) (l:List Node) (rs:List Int),wf ar x→Ga (nds x)→uI (nds x++l) rs=(eU rs.length (depth x)&&uI l (dF 0 rs))
 | mk n ks,l,rs,hw,hn=>by
  have hm:=Dl (hn n (by simp [nds]))
  rw [Y2,List.cons_append,uI,hm,←hw.1];cases ks with
  | nil =>
   have hd:depth (mk n [])=1:=by simp [depth,depths]
   rw [hd];simp only [ndss,List.nil_append,List.length_nil];by_cases h:100≤rs.length
   ·rw [if_pos h,sX (by omega)];rfl
   ·rw [if_neg h,zC (by omega)];rfl
  | cons y ys =>
   have hd:depth (mk n (y::ys))=1+depths (y::ys):=by rw [depth]
   rw [hd,gQ (by simp only [Zi];omega),shal_forest (y::ys) l rs (by simp) hw.2 (fun m hm=>hn m (by rw [Y2];exact List.mem_cons_of_mem _ hm))]
   by_cases h:100≤rs.length
   ·rw [if_pos h,sX (by omega)];rfl
   ·rw [if_neg h]
theorem shal_forest:∀ (xs:List (Rose Node)) (l:List Node) (rs:List Int),xs≠[]→wfs ar xs→Ga (ndss xs)→uI (ndss xs++l) ((xs.length:Int)::rs)=(eU rs.length (1+depths xs)&&uI l (dF 0 rs))
 | [],_,_,h,_,_=>absurd rfl h
 | x::ts,l,rs,_,hw,hn=>by
  have h0:=shal_tree x;cases ts with
  | nil =>
   simp only [ndss,List.append_nil] at hn ⊢;have hd:depths [x]=depth x:=by simp [depths]
   rw [h0 l _ hw.1 hn,hd];simp only [Zi,List.length_nil];rw [Qkl (r:=rs.length+1) (d:=depth x) (r':=rs.length) (d':=1+depth x) (by omega)]
   rfl
  | cons y ts =>
   have h2:=shal_forest (y::ts) l rs (by simp) hw.2 (fun m hm=>hn m (by rw [ndss];exact List.mem_append_right _ hm))
   rw [ndss,List.append_assoc,h0 _ _ hw.1 (fun m hm=>hn m (by rw [ndss];exact List.mem_append_left _ hm))]
   have e:dF 0 ((((x::y::ts).length:Nat):Int)::rs)=(((y::ts).length:Nat):Int)::rs:=by
    rw [dF,if_pos rfl,show (((x::y::ts).length:Nat):Int)-1=(((y::ts).length:Nat):Int) by simp only [Zi];omega,gQ (by simp only [Zi];omega)]
   have hd:depths (x::y::ts)=max (depth x) (depths (y::ts)):=by rw [depths]
   rw [e,h2,hd];simp only [Zi];by_cases h1:rs.length+1+depth x≤100
   ·rw [zC h1,Bool.true_and];by_cases h2:rs.length+(1+depths (y::ts))≤100
    ·rw [zC h2,zC (r:=rs.length) (d:=1+max (depth x) (depths (y::ts))) (by omega)]
    ·rw [sX h2,sX (r:=rs.length) (d:=1+max (depth x) (depths (y::ts))) (by omega)]
   ·rw [sX h1,sX (r:=rs.length) (d:=1+max (depth x) (depths (y::ts))) (by omega)]
    rfl
end
theorem jM {x:Rose Node} (hw:wf ar x) (hn:Ga (nds x)):Fr (nds x)=eU 0 (depth x):=by
 have:=shal_tree x [] [] hw hn;simp only [List.append_nil,List.length_nil] at this;unfold Fr;rw [this,uI];simp
def Qgz (n:Node) (ks:List (Rose Node)):Bool:=(List.range ks.length).all fun k=>Zgb n (ks.getD k (mk n0 [])).root (ks.getD (k-1) (mk n0 [])).root (Wd 0 k) ((k:Int)==(ks.length:Int)-1)
mutual
def labT:Rose Node→Bool
 | mk n ks=>Qgz n ks&&labTs ks
def labTs:List (Rose Node)→Bool
 | []=>true
 | x::xs=>labT x&&labTs xs
end
theorem Qj7 {t:List Node} {i:Nat} {x:Rose Node} (hn:Ga t) (h:At ar t i x):eE t i=Qgz x.root x.kids:=by
 have hk:=h.kids;have hl:=h.lt;have hm:=Dl (hn (t.getD i n0) (by simp [hl]))
 have hr:=h.root n0;unfold eE;rw [Zkn hn h,Bn,hr];rw [hr] at hm;rw [hm,hk.2];rw [show ((ar x.root:Int)==(ar x.root:Int))=true by simp,Bool.true_and]
 unfold Qgz;rw [hk.2];apply Bool.eq_iff_iff.2;simp only [List.all_eq_true,List.mem_range];have key:∀ k,k<x.kids.length→Ow t (Mt (i+1) x.kids) k=(x.kids.getD k (mk n0 [])).root:=by
  intro k hk';unfold Ow;rw [gV _ _ k hk',Zl];have:=(sD hk.1 hk').root n0;rw [this];simp [hk']
 have e:∀ k,k<ar x.root→jU t i (Mt (i+1) x.kids) k=Zgb x.root (x.kids.getD k (mk n0 [])).root (x.kids.getD (k-1) (mk n0 [])).root (Wd 0 k) ((k:Int)==(ar x.root:Int)-1):=by
  intro k hk';unfold jU;rw [hr,key k (by omega),key (k-1) (by omega),Bn,hk.2]
 constructor
 ·intro g k hk';rw [←e k hk'];exact g k hk'
 ·intro g k hk';rw [e k hk'];exact g k hk'
mutual
theorem labT_at {t:List Node} (hn:Ga t):∀ {x:Rose Node} {i:Nat},At ar t i x→(labT x=true↔∀ j,i≤j→j<i+(nds x).length→eE t j=true)
 | mk n ks,i,h=>by
  have h1:=Qj7 hn h;have hk:Zhi ar t (i+1) ks:=h.kids.1;rw [labT,Zg,labTs_at hn hk,Y2,Zi];simp only [root,kids] at h1 ⊢;constructor
  ·rintro ⟨g1,g2⟩ j Qpy sM;by_cases Ha:j=i
   ·subst Ha;rw [h1];exact g1
   ·exact g2 j (by omega) (by omega)
  ·intro g;exact ⟨by rw [←h1];exact g i (Zr _) (by omega),fun j Qpy sM=>g j (by omega) (by omega)⟩
theorem labTs_at {t:List Node} (hn:Ga t):∀ {xs:List (Rose Node)} {i:Nat},Zhi ar t i xs→(labTs xs=true↔∀ j,i≤j→j<i+(ndss xs).length→eE t j=true)
 | [],i,_=>by simp only [labTs,ndss,List.length_nil,true_iff];intro j h1 h2;omega
 | x::xs,i,h=>by
  rw [labTs,Zg,labT_at hn h.head.1,labTs_at hn h.head.2];simp only [ndss,Ze];constructor
  ·rintro ⟨g1,g2⟩ j Qpy sM;rcases Nat.lt_or_ge j (i+(nds x).length) with Zv|aY
   ·exact g1 j Qpy Zv
   ·exact g2 j aY (by omega)
  ·intro g;exact ⟨fun j Qpy sM=>g j Qpy (by omega),fun j Qpy sM=>g j (by omega) (by omega)⟩
end
structure RT (x:Rose Node):Prop where
 wf:wf ar x
 numb:Ga (nds x)
 depth:depth x≤100
 lab:labT x=true
 name:x.root.name=[]
 kind:x.root.kind≠9
 len:(nds x).length≤10000
theorem Zcv {x:Rose Node} (h:RT x):Wg (nds x)=true:=by
 have ha:=G7 h.wf;have hp:=Di x;have hr:=ha.root n0;unfold Wg;have h1:Wl (nds x)=false:=by
  unfold Wl;rw [hr,h.name];have e1:((nds x).length==0)=false:=by rw [Za];omega
  have e2:Wd 10000 ((nds x).length:Int)=false:=by rw [Q7];have:=h.len;omega
  have e3:(x.root.kind==9)=false:=by rw [Za];exact h.kind
  rw [e1,e2,e3];rfl
 have h2:(nds x).all V0=true:=List.all_eq_true.2 h.numb;have h3:mX (nds x) 0=((nds x).length:Int):=by have:=Zgv h.numb ha;simpa using this
 have h4:Fr (nds x)=true:=by rw [jM h.wf h.numb];exact zC (by have:=h.depth;omega)
 have h5:((List.range (nds x).length).all fun i=>eE (nds x) i)=true:=U4 fun j hj=>(labT_at h.numb ha).1 h.lab j (Nat.zero_le _) (by omega)
 rw [h1,h2,h3,h4,h5];simp
theorem Dg {t:List Node} (h:Wg t=true):∃ x,t=nds x∧RT x:=by
 unfold Wg at h;simp only [Zg,Bool.not_eq_true',Zj] at h;obtain ⟨h1,h2,⟨h3,h4⟩,h5⟩:=h;unfold Wl at h1;simp only [Bool.or_eq_false_iff,Za,Bool.not_eq_false',Zj,Q7] at h1;obtain ⟨⟨⟨g1,g2⟩,g3⟩,g4⟩:=h1;have hn:Ga t:=List.all_eq_true.1 h2;have hl:∀ i,i<t.length→eE t i=true:=fun i hi=>List.all_eq_true.1 h5 i (List.mem_range.2 hi);have hk:∀ i,i<t.length→((G3 t i).length:Int)=Yc (t.getD i n0):=by
  intro i hi;have:=hl i hi;unfold eE at this;rw [Zg,Zj] at this;exact this.1
 obtain ⟨x,hx⟩:=jH hn hk t.length 0 (by omega) (by omega)
 have he:=Zgv hn hx;have he':mX t 0=((0+(nds x).length:Nat):Int):=he;rw [h3] at he';obtain ⟨hw,r,hr⟩:=id hx;have vA:t=nds x:=by
  rw [List.drop_zero] at hr;have:=congrArg List.length hr;rw [Ze] at this;have Qv6:r=[]:=List.length_eq_zero_iff.1 (by omega)
  rw [hr,Qv6,List.append_nil]
 have Zav:=hx.root n0;subst vA;refine ⟨x,rfl,⟨hw,hn,?_,(labT_at hn hx).2 fun j _ hj=>hl j (by omega),by rw [←Zav];exact g3,by rw [←Zav];exact g4,by omega⟩⟩
 rw [jM hw hn] at h4;have:=of_decide_eq_true h4;omega
def Qf8 (m n:Node):Bool:=m.kind==n.kind&&(m.name==n.name&&m.n==n.n)
theorem Qaj {b:Bool} {n:Node} {ks:List (Rose Node)} {y:Rose Node}:ov b (mk n ks) y=cond (n.kind==0||y.root.kind==0) (Zme b y.root) (Qf8 n y.root&&ovs b ks y.kids):=by rw [ov];rfl
theorem Qki {l:List Node} (h:0<l.length):el (l.map (enc:Node→D)) 0=enc (l.getD 0 n0):=Zp n0 h
theorem Qno {p q r:D→Prop} {ds:List D} (h:Zzk [p,q,r] ds):∃ a b c,ds=[a,b,c]∧p a∧q b∧r c:=by
 match ds,h with
 | [a,b,c],h=>exact ⟨a,b,c,rfl,h.1,h.2.1,h.2.2.1⟩
theorem Qm5:Qja Tryz.prog 82 3 true Node (fun n=>n.name.length≤maxLen) :=
 (rJ (ps:=[_,_,_]) Tryz.underlying82 (by kernel_rfl) rfl ⟨rfl,by kernel_rfl,Zfx Tryz.underlying3,rfl,by kernel_rfl,Qaf Tryz.underlying9,rfl,by kernel_rfl,Zfx Tryz.underlying3,trivial⟩).mono fun x h=>by
  obtain ⟨ds,rfl,h⟩:=h;obtain ⟨a,b,c,rfl,⟨k,rfl,_⟩,⟨s,rfl,hl⟩,⟨n,rfl,_⟩⟩:=Qno h;exact ⟨⟨k,s,n⟩,rfl,hl⟩
theorem Qjn:Qja Tryz.prog 45 1 false (Sl Node) (fun a=>a.l.length≤maxLen∧∀ y∈a.l,y.name.length≤maxLen):=Zxk Tryz.underlying45 (by kernel_rfl) rfl (by decide) Qm5
mutual
def mt:Rose Node→Rose Node→Rose Node
 | mk n ks,y=>cond (y.root.kind==0) (mk n ks) (cond (n.kind==0) y (mk n (mts ks y.kids)))
def mts:List (Rose Node)→List (Rose Node)→List (Rose Node)
 | [],_=>[]
 | _::_,[]=>[]
 | x::xs,y::ys=>mt x y::mts xs ys
end
def uQ (a:List Node) (s:MS) (i:Nat):List Node:=s.out.getD []++(a.take i).drop s.done
theorem Zfk {a:List Node} {i:Nat} {x:Rose Node} (h:At ar a i x):(a.take (i+(nds x).length)).drop i=nds x:=by
 obtain ⟨_,r,h2⟩:=h;rw [List.drop_take,Nat.add_sub_cancel_left,h2,List.take_left'];rfl
theorem xX (x:Rose Node):x.root∈nds x:=by rw [nI];simp
theorem V8 {t:List Node}:Ya t=true↔∀ n∈t,n.kind≠8∧n.kind≠9:=by
 unfold Ya;simp [List.all_eq_true]
def Gd {A B:Type} [Enc A] [Enc B] [Sz B] (p:A→Prop) (f:A→List B):Con:=⟨[false],[true],fun c=>match c with
 | [.d x]=>Ul A x∧p (dec x)
 | _=>False,fun c=>match c with
 | [.d x]=>.own (Sz.sz B) ((f (dec x)).map enc)
 | _=>.d .nilp⟩
theorem Yo:type_of% @Gd.eq_def:=@Gd.eq_def
theorem iP {A B:Type} [Enc A] [Enc B] [Sz B] {p:A→Prop} {f:A→List B} {c:List CV} (h:(Gd p f).pre c):∃ a,c=[.d (enc a)]∧p a:=by
 unfold Gd at h;simp only at h;split at h
 ·next x=>exact ⟨dec x,by rw [←h.1],h.2⟩
 ·exact h.elim
theorem lC {s:Nat} {l:List D}:Qph (.list s l)=(l≠[]):=rfl
def Qeo:List Node→List Node
 | []=>[]
 | n::r=>⟨n.kind,[],n.n⟩::r
def n5:Node:=⟨5,[],0⟩
def Uf {A B R S:Type} [Enc A] [Enc B] [Enc R] [Enc S] (p:A→Prop) (f:A→B×R×S):Con:=⟨[false],[false,false,false],fun c=>match c with
 | [.d x]=>Ul A x∧p (dec x)
 | _=>False,fun c=>match c with
 | [.d x]=>.tup [.d (enc (f (dec x)).1),.d (enc (f (dec x)).2.1),.d (enc (f (dec x)).2.2)]
 | _=>.d .nilp⟩
theorem Wf:type_of% @Uf.eq_def:=@Uf.eq_def
theorem Zaa {A B R S:Type} [Enc A] [Enc B] [Enc R] [Enc S] {p:A→Prop} {f:A→B×R×S} {c:List CV} (h:(Uf p f).pre c):∃ a,c=[.d (enc a)]∧p a:=by
 unfold Uf at h;simp only at h;split at h
 ·next x=>exact ⟨dec x,by rw [←h.1],h.2⟩
 ·exact h.elim
end Go.Am.Ty
