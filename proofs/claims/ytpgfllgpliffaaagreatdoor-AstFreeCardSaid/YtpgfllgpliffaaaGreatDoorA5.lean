/- Contracts of functions that the law reaches, and plain laws. Conditions: those that each contract states. -/
import Derived.Test.YtpgfllgpliffaaaGreatDoorA4
import Derived.Test.YtpgfllgpliffaaaGreatDoorChecked
import Derived.Lib.OthersKept
import Derived.WalkKit
import Derived.WalkSmall
import Derived.BigCall
set_option maxHeartbeats 1000000
set_option linter.unusedVariables false
set_option linter.unusedSimpArgs false
variable {p:Prop}
set_option maxRecDepth 100000
namespace Go.Am
def Kl (n:Nat):Nat:=n
theorem Kt:Kl 0=0:=rfl
theorem Kc:Kl 0=0:=rfl
theorem Kd:Kl 0=0:=rfl
theorem Kb:Kl 0=0:=rfl
theorem Ku:Kl 0=0:=rfl
theorem Kw:Kl 0=0:=rfl
theorem Ko:Kl 0=0:=rfl
theorem Y6:Kl 0=0:=rfl
theorem P7:Kl 0=0:=rfl
theorem aV:Kl 0=0:=rfl
theorem dF:Kl 0=0:=rfl
theorem oD:Kl 0=0:=rfl
theorem tN:Kl 0=0:=rfl
theorem Qu:Kl 0=0:=rfl
theorem Qz:Kl 0=0:=rfl
theorem Qs:Kl 0=0:=rfl
theorem Q0:Kl 0=0:=rfl
theorem Q6:Kl 0=0:=rfl
theorem Q5:Kl 0=0:=rfl
theorem Ja:Kl 0=0:=rfl
theorem Jq:Kl 0=0:=rfl
theorem Q9:Kl 0=0:=rfl
theorem Je:Kl 0=0:=rfl
theorem Qe:Kl 0=0:=rfl
theorem Qc:Kl 0=0:=rfl
theorem Qg:Kl 0=0:=rfl
theorem Qi:Kl 0=0:=rfl
theorem Qh:Kl 0=0:=rfl
theorem Qa:Kl 0=0:=rfl
theorem Z2:Kl 0=0:=rfl
theorem Z7:Kl 0=0:=rfl
theorem Qk:Kl 0=0:=rfl
theorem Qm:Kl 0=0:=rfl
theorem Qr:Kl 0=0:=rfl
theorem Q1:Kl 0=0:=rfl
theorem Q3:Kl 0=0:=rfl
theorem Qx:Kl 0=0:=rfl
theorem Q4:Kl 0=0:=rfl
theorem Jf:Kl 0=0:=rfl
theorem Cy:Kl 0=0:=rfl
theorem S8:Kl 0=0:=rfl
theorem Ly:Kl 0=0:=rfl
theorem Lx:Kl 0=0:=rfl
theorem N4:Kl 0=0:=rfl
theorem Lw:Kl 0=0:=rfl
theorem P1:Kl 0=0:=rfl
theorem N3:Kl 0=0:=rfl
theorem P0:Kl 0=0:=rfl
theorem Pz:Kl 0=0:=rfl
theorem Py:Kl 0=0:=rfl
theorem Lv:Kl 0=0:=rfl
theorem S7:Kl 0=0:=rfl
theorem En:Kl 0=0:=rfl
theorem xN:Kl 0=0:=rfl
theorem yY:Kl 0=0:=rfl
theorem Zny:Kl 0=0:=rfl
theorem Znx:Kl 0=0:=rfl
theorem Znw:Kl 0=0:=rfl
theorem Lz {p:Prop} (h:p:=by first|with_reducible assumption|omega|(rw [Qn];omega)):p:=h
theorem J0 {p:Prop} (h:p:=by (try simp only [Yb,Y2,Wu,Uz,upd,K6,Yz,Km,Nat.reduceDiv,Nat.reduceMod,Nat.reduceMul,Nat.reduceAdd,Nat.reduceEqDiff,Q2,Q7,if_true,if_false,reduceIte]);(first|refine Wk.of_fl ?_|skip);simp only [Wk,lK,iU,Ds,dU,AV.kept,keptAll,iT,lk,Xo,and_true,true_and,and_self,Nat.reduceEqDiff,Nat.reduceLeDiff,if_true,if_false,reduceIte,reduceCtorEq,Option.isSome,false_implies];try simp [Wk,lK,Ds,dU,AV.kept,keptAll,iT,lk,Xo,List.map_append,Zj,List.map_replicate,Nat.pow_zero,Nat.div_one,En,xN,yY,Zny,Znx,Znw]<;>rfl):p:=h
theorem Zbk {p q:Prop} (hq:q) (h:q→p:=by
 intro Kq
 (try simp only [Yb,Y2,Wu,Uz,upd,K6,Yz,Km,Nat.reduceDiv,Nat.reduceMod,Nat.reduceMul,Nat.reduceAdd,Nat.reduceEqDiff,Q2,Q7,if_true,if_false,reduceIte]);(first|refine Wk.of_fl ?_|skip);simp only [Wk,lK,iU,Ds,dU,AV.kept,keptAll,iT,lk,Xo,and_true,true_and,and_self,Nat.reduceEqDiff,Nat.reduceLeDiff,if_true,if_false,reduceIte,reduceCtorEq,Option.isSome,false_implies];try simp [Wk,lK,Ds,dU,AV.kept,keptAll,iT,lk,Xo,List.map_append,Zj,List.map_replicate,Nat.pow_zero,Nat.div_one,En,xN,yY,Zny,Znx,Znw]
 exact Kq):p:=h hq
theorem Zz8 {p:Prop} (h:p:=by (simp only [Zsb,Ft,Ap,K6,Yz,Km,pur,lk,upd,List.getD_cons_zero,List.getD_cons_succ,Q2,Q7,Nat.reduceDiv,Nat.reduceMod,Nat.reduceMul,Nat.reduceAdd,Nat.reduceEqDiff,if_true,if_false,reduceIte]);refine Z3 (by simp) ?_;(try simp only [Yb,Y2,Wu,Uz,upd,K6,Yz,Km,Nat.reduceDiv,Nat.reduceMod,Nat.reduceMul,Nat.reduceAdd,Nat.reduceEqDiff,Q2,Q7,if_true,if_false,reduceIte]);(first|refine Wk.of_fl ?_|skip);simp only [Wk,lK,iU,Ds,dU,AV.kept,keptAll,iT,lk,Xo,and_true,true_and,and_self,Nat.reduceEqDiff,Nat.reduceLeDiff,if_true,if_false,reduceIte,reduceCtorEq,Option.isSome,false_implies];try simp [Wk,lK,Ds,dU,AV.kept,keptAll,iT,lk,Xo,List.map_append,Zj,List.map_replicate,Nat.pow_zero,Nat.div_one,En,xN,yY,Zny,Znx,Znw]<;>rfl):p:=h
theorem Zz9 {p:Prop} (h:p:=by (try simp only [Yb,Y2,Wu,Uz,upd,K6,Yz,Km,Nat.reduceDiv,Nat.reduceMod,Nat.reduceMul,Nat.reduceAdd,Nat.reduceEqDiff,Q2,Q7,if_true,if_false,reduceIte]);simp only [Zul,pur,lk,upd,D.setCell,el_set,List.set_set,Q2,Q7,Nat.reduceDiv,Nat.reduceMod,Nat.reduceMul,Nat.reduceAdd,Nat.reduceEqDiff,if_true,if_false,reduceIte,En,xN,yY,Zny,Znx,Znw];refine Z3 (by first|trivial|(simp;done)|omega) (Z3 (by first|trivial|(simp;done)) (Z3 (by first|trivial|omega|(simp;done)) (Z3 (by first|trivial|omega|(simp;omega)) (Z3 (by first|trivial|omega) ?_))));(try simp only [Yb,Y2,Wu,Uz,upd,K6,Yz,Km,Nat.reduceDiv,Nat.reduceMod,Nat.reduceMul,Nat.reduceAdd,Nat.reduceEqDiff,Q2,Q7,if_true,if_false,reduceIte]);(first|refine Wk.of_fl ?_|skip);simp only [Wk,lK,iU,Ds,dU,AV.kept,keptAll,iT,lk,Xo,and_true,true_and,and_self,Nat.reduceEqDiff,Nat.reduceLeDiff,if_true,if_false,reduceIte,reduceCtorEq,Option.isSome,false_implies];try simp [Wk,lK,Ds,dU,AV.kept,keptAll,iT,lk,Xo,List.map_append,Zj,List.map_replicate,Nat.pow_zero,Nat.div_one,En,xN,yY,Zny,Znx,Znw]):p:=h
theorem Zwj {p:Prop} (h:p:=by (try simp only [Yb,Y2,Wu,Uz,upd,K6,Yz,Km,Nat.reduceDiv,Nat.reduceMod,Nat.reduceMul,Nat.reduceAdd,Nat.reduceEqDiff,Q2,Q7,if_true,if_false,reduceIte]);simp only [Zsc,ren,lk,upd,Nat.reduceAdd,Nat.reduceEqDiff,if_true,if_false,reduceIte];refine Z3 (by first|trivial|rfl) (Z3 ?_ (Z3 (by first|trivial|rfl|simp) (Z3 (by first|trivial|simp [gF]) (Z3 (by first|decide|omega) (Z3 (by first|decide|omega) (Z3 (by (first|refine D6 ?_|skip);simp [keptAll,jI,AV.kept,lk]) (by simp [V7,keptAll,AV.kept,lk])))))));(try simp only [Yb,Y2,Wu,Uz,upd,K6,Yz,Km,Nat.reduceDiv,Nat.reduceMod,Nat.reduceMul,Nat.reduceAdd,Nat.reduceEqDiff,Q2,Q7,if_true,if_false,reduceIte]);(first|refine Wk.of_fl ?_|skip);simp only [Wk,lK,iU,Ds,dU,AV.kept,keptAll,iT,lk,Xo,and_true,true_and,and_self,Nat.reduceEqDiff,Nat.reduceLeDiff,if_true,if_false,reduceIte,reduceCtorEq,Option.isSome,false_implies];try simp [Wk,lK,Ds,dU,AV.kept,keptAll,iT,lk,Xo,List.map_append,Zj,List.map_replicate,Nat.pow_zero,Nat.div_one,En,xN,yY,Zny,Znx,Znw]):p:=h
theorem Zz7 {p:Prop} (h:p:=by (try simp only [Yb,Y2,Wu,Uz,upd,K6,Yz,Km,Nat.reduceDiv,Nat.reduceMod,Nat.reduceMul,Nat.reduceAdd,Nat.reduceEqDiff,Q2,Q7,if_true,if_false,reduceIte]);simp only [Zuk,ren,Ft,Ap,K6,Yz,Km,lk,upd,List.getD_cons_zero,List.getD_cons_succ,Q2,Q7,Nat.reduceDiv,Nat.reduceMod,Nat.reduceMul,Nat.reduceAdd,Nat.reduceEqDiff,if_true,if_false,reduceIte];refine Z3 (by first|trivial|rfl) (Z3 ?_ (Z3 (by first|trivial|rfl|simp) (Z3 (by first|trivial|simp [gF]) (Z3 (by first|decide|omega) (Z3 (by first|decide|omega) (Z3 (by (first|refine D6 ?_|skip);simp [keptAll,jI,AV.kept,lk]) (by simp [V7,keptAll,AV.kept,lk])))))));(try simp only [Yb,Y2,Wu,Uz,upd,K6,Yz,Km,Nat.reduceDiv,Nat.reduceMod,Nat.reduceMul,Nat.reduceAdd,Nat.reduceEqDiff,Q2,Q7,if_true,if_false,reduceIte]);(first|refine Wk.of_fl ?_|skip);simp only [Wk,lK,iU,Ds,dU,AV.kept,keptAll,iT,lk,Xo,and_true,true_and,and_self,Nat.reduceEqDiff,Nat.reduceLeDiff,if_true,if_false,reduceIte,reduceCtorEq,Option.isSome,false_implies];try simp [Wk,lK,Ds,dU,AV.kept,keptAll,iT,lk,Xo,List.map_append,Zj,List.map_replicate,Nat.pow_zero,Nat.div_one,En,xN,yY,Zny,Znx,Znw]):p:=h
theorem Zre {ops:List Oper} {acc:List (Nat×List Nat×Bool)} (h:Zn4 ops acc=true:=by kernel_rfl):Zn4 ops acc=true:=h
def Gs (P:Program) (l:List (Nat×Con)) (m:List (Nat×BCon)) (E:Prop):Prop:=(∀ p∈l,Jc P p)∧(∀ p∈m,Wm P p)∧E
theorem W4 {P:Program}:Gs P [] [] True:=⟨by simp,by simp,trivial⟩
theorem Xa {P:Program} {n:Nat} {c d:Con} {l:List (Nat×Con)} {m:List (Nat×BCon)} {E:Prop} (h:Jc P (n,c)) (e:c=d) (r:Gs P l m E):Gs P ((n,c)::l) m (c=d∧E):=by
 refine ⟨fun p hp=>?_,r.2.1,e,r.2.2⟩;rcases (@List.mem_cons _ _ _ _).1 hp with h1|h1
 ·rw [h1];exact h
 ·exact r.1 p h1
theorem kW {P:Program} {n:Nat} {c d:BCon} {l:List (Nat×Con)} {m:List (Nat×BCon)} {E:Prop} (h:Wm P (n,c)) (e:c=d) (r:Gs P l m E):Gs P l ((n,c)::m) (c=d∧E):=by
 refine ⟨r.1,fun p hp=>?_,e,r.2.2⟩;rcases (@List.mem_cons _ _ _ _).1 hp with h1|h1
 ·rw [h1];exact h
 ·exact r.2.1 p h1
theorem W5 {P:Program} {τ:Nat→TI} (hT:J1 P τ) (hm:P.follows .mixedOrders=true) (cu:List Nat) (wr:Bool) {l:List (Nat×Con)} {m:List (Nat×BCon)} {E:Prop} (h:Gs P l m E):∃ C:Ctx,C.τ=τ∧C.Γ=Zby l∧C.dp=60∧C.Δ=Zbz m∧C.cuts=cu∧C.wr=wr∧He P C∧E :=
 ⟨⟨τ,Zby l,60,Zbz m,cu,wr⟩,rfl,rfl,rfl,rfl,rfl,rfl,Zai hT hm h.1 h.2.1,h.2.2⟩
theorem Kn {C:Ctx} {c:Code} {Q:AExit→AS→Prop} {t:List AV} {o:Zz} (n:Nat) (h:Shut (V4 C c Q ⟨fl (wS n t).1 (wS n t).2,o⟩)) (hn:decide (16*n≤t.length)=true:=by kernel_rfl):V4 C c Q ⟨t,o⟩:=Zci n (of_decide_eq_true hn) h
theorem Zrm {F:Func} (h:F.body.isNone=false):∃ c,F.body=some c:=by
 cases hb:F.body with
 | none=>rw [hb] at h;cases h
 | some c=>exact ⟨c,rfl⟩
theorem Yv {P : Program} {C : Ctx} {f : FuncId} {fn : Func} {con : Con} (K : He P C) (hf : P.funcs[f]? = some fn) (rs : List ResultVar) (xF : fn.results.toList = rs) (nt : Nat) (Rt : fn.ntmps = nt)
    (h : ∀ c, fn.body = some c → ∀ Jj, con.pre Jj → V4 C c (Zcm C rs con.outs (con.fn Jj)) (Cs nt Jj)) (h1 : (fn.name == "runtime.NumGoroutine") = false := by kernel_rfl) (h2 : fn.body.isNone = false := by rfl) : Jc P (f, con) := by
  obtain ⟨c, hc⟩ := Zrm h2
  exact ⟨Xc hf h1 h2, Zac K hf hc rs xF nt Rt (h c hc)⟩
theorem jU {P : Program} {C : Ctx} {f : FuncId} {fn : Func} {bc : BCon} (K : He P C) (hf : P.funcs[f]? = some fn) (rs : List ResultVar) (xF : fn.results.toList = rs) (nt : Nat) (Rt : fn.ntmps = nt)
    (h : ∀ c, fn.body = some c → ∀ x, bc.ok x → Xg (bc.args x) (bc.objs x) ∧ Zx (bc.objs x) ∧ Xg [] (bc.post x) ∧ (bc.objs x).length ≤ (bc.post x).length ∧
      V4 C c (V9 C rs (bc.objs x).length (bc.res x) (bc.post x)) ⟨bc.args x ++ Yp (nt - (bc.args x).length), Zq (bc.objs x)⟩) (dM : ∀ x, bc.out x = none := by intro _; rfl) (h1 : (fn.name == "runtime.NumGoroutine") = false := by kernel_rfl) (h2 : fn.body.isNone = false := by rfl) : Wm P (f, bc) := by
  obtain ⟨c, hc⟩ := Zrm h2
  exact ⟨Xc hf h1 h2, wZ K hf hc rs xF nt Rt (h c hc) dM⟩
end Go.Am
namespace Go.Am.Ty
open Go.Proofs
open Enc (enc dec)
def tt:List (Nat×TI):=[(1,⟨.func,1,8,.d .nilf,.nilf,[]⟩),(2,⟨.int .i64,1,8,.d (.int .i64 0),.int .i64 0,[]⟩),(3,⟨.int .i64,1,8,.d (.int .i64 0),.int .i64 0,[]⟩),(4,⟨.bool,1,1,.d (.bool false),.bool false,[]⟩),(5,⟨.int .u8,1,1,.d (.int .u8 0),.int .u8 0,[]⟩),(9,⟨.str,1,16,.d (.str []),.str [],[]⟩),(21,⟨.int .i32,1,4,.d (.int .i32 0),.int .i32 0,[]⟩),(23,⟨.slice 39,1,24,.nils 8,.list 8 [],[]⟩),(30,⟨.slice 3,1,24,.nils 1,.list 1 [],[]⟩),(34,⟨.slice 9,1,24,.nils 1,.list 1 [],[]⟩),(37,⟨.slice 41,1,24,.nils 3,.list 3 [],[]⟩),(39,⟨.struct [(0,1),(1,1),(2,1),(3,1),(4,1),(5,1),(6,1),(7,1)],8,120,.agg [.d (.int .i64 0),.d (.str []),.d (.str []),.d (.str []),.d (.int .i64 0),.d (.int .i64 0),.nils 3,.nils 3],.agg [.int .i64 0,.str [],.str [],.str [],.int .i64 0,.int .i64 0,.list 3 [],.list 3 []],[]⟩),(41,⟨.struct [(0,1),(1,1),(2,1)],3,32,.d (.agg [.int .i64 0,.str [],.int .i64 0]),.agg [.int .i64 0,.str [],.int .i64 0],[.int .i64,.str,.int .i64]⟩),(44,⟨.func,1,8,.d .nilf,.nilf,[]⟩),(46,⟨.map 9 4,1,8,.d .nilm,.nilm,[]⟩),(51,⟨.func,1,8,.d .nilf,.nilf,[]⟩),(52,⟨.ptr 58,1,8,.d .nilp,.nilp,[]⟩),(53,⟨.ptr 56,1,8,.d .nilp,.nilp,[]⟩),(54,⟨.slice 5,1,24,.nils 1,.list 1 [],[]⟩),(56,⟨.struct [(0,1),(1,1)],2,32,.agg [.d .nilp,.nils 1],.agg [.nilp,.list 1 []],[]⟩),(58,⟨.struct [(0,2),(2,1),(3,1)],4,64,.agg [.d .nilp,.nils 1,.nils 8,.d (.int .i64 0)],.agg [.nilp,.list 1 [],.list 8 [],.int .i64 0],[]⟩),(61,⟨.func,1,8,.d .nilf,.nilf,[]⟩),(65,⟨.func,1,8,.d .nilf,.nilf,[]⟩),(68,⟨.func,1,8,.d .nilf,.nilf,[]⟩),(71,⟨.array 15 3,15,120,.d (.agg [.int .i64 0,.int .i64 0,.int .i64 0,.int .i64 0,.int .i64 0,.int .i64 0,.int .i64 0,.int .i64 0,.int .i64 0,.int .i64 0,.int .i64 0,.int .i64 0,.int .i64 0,.int .i64 0,.int .i64 0]),.agg [.int .i64 0,.int .i64 0,.int .i64 0,.int .i64 0,.int .i64 0,.int .i64 0,.int .i64 0,.int .i64 0,.int .i64 0,.int .i64 0,.int .i64 0,.int .i64 0,.int .i64 0,.int .i64 0,.int .i64 0],[]⟩),(75,⟨.func,1,8,.d .nilf,.nilf,[]⟩),(79,⟨.ptr 5,1,8,.d .nilp,.nilp,[]⟩),(85,⟨.func,1,8,.d .nilf,.nilf,[]⟩),(94,⟨.ptr 96,1,8,.d .nilp,.nilp,[]⟩),(96,⟨.struct [(0,2)],2,32,.agg [.d .nilp,.nils 1],.agg [.nilp,.list 1 []],[]⟩),(103,⟨.int .u64,1,8,.d (.int .u64 0),.int .u64 0,[]⟩),(107,⟨.func,1,8,.d .nilf,.nilf,[]⟩),(116,⟨.array 5 9,5,80,.d (.agg [.str [],.str [],.str [],.str [],.str []]),.agg [.str [],.str [],.str [],.str [],.str []],[]⟩),(123,⟨.int .i64,1,8,.d (.int .i64 0),.int .i64 0,[]⟩),(132,⟨.int .u32,1,4,.d (.int .u32 0),.int .u32 0,[]⟩),(134,⟨.int .u64,1,8,.d (.int .u64 0),.int .u64 0,[]⟩),(146,⟨.int .u64,1,8,.d (.int .u64 0),.int .u64 0,[]⟩),(150,⟨.ptr 3,1,8,.d .nilp,.nilp,[]⟩),(157,⟨.array 20 134,20,160,.d (.agg [.int .u64 0,.int .u64 0,.int .u64 0,.int .u64 0,.int .u64 0,.int .u64 0,.int .u64 0,.int .u64 0,.int .u64 0,.int .u64 0,.int .u64 0,.int .u64 0,.int .u64 0,.int .u64 0,.int .u64 0,.int .u64 0,.int .u64 0,.int .u64 0,.int .u64 0,.int .u64 0]),.agg [.int .u64 0,.int .u64 0,.int .u64 0,.int .u64 0,.int .u64 0,.int .u64 0,.int .u64 0,.int .u64 0,.int .u64 0,.int .u64 0,.int .u64 0,.int .u64 0,.int .u64 0,.int .u64 0,.int .u64 0,.int .u64 0,.int .u64 0,.int .u64 0,.int .u64 0,.int .u64 0],[]⟩),(159,⟨.array 256 5,256,256,.d (.agg [.int .u8 0,.int .u8 0,.int .u8 0,.int .u8 0,.int .u8 0,.int .u8 0,.int .u8 0,.int .u8 0,.int .u8 0,.int .u8 0,.int .u8 0,.int .u8 0,.int .u8 0,.int .u8 0,.int .u8 0,.int .u8 0,.int .u8 0,.int .u8 0,.int .u8 0,.int .u8 0,.int .u8 0,.int .u8 0,.int .u8 0,.int .u8 0,.int .u8 0,.int .u8 0,.int .u8 0,.int .u8 0,.int .u8 0,.int .u8 0,.int .u8 0,.int .u8 0,.int .u8 0,.int .u8 0,.int .u8 0,.int .u8 0,.int .u8 0,.int .u8 0,.int .u8 0,.int .u8 0,.int .u8 0,.int .u8 0,.int .u8 0,.int .u8 0,.int .u8 0,.int .u8 0,.int .u8 0,.int .u8 0,.int .u8 0,.int .u8 0,.int .u8 0,.int .u8 0,.int .u8 0,.int .u8 0,.int .u8 0,.int .u8 0,.int .u8 0,.int .u8 0,.int .u8 0,.int .u8 0,.int .u8 0,.int .u8 0,.int .u8 0,.int .u8 0,.int .u8 0,.int .u8 0,.int .u8 0,.int .u8 0,.int .u8 0,.int .u8 0,.int .u8 0,.int .u8 0,.int .u8 0,.int .u8 0,.int .u8 0,.int .u8 0,.int .u8 0,.int .u8 0,.int .u8 0,.int .u8 0,.int .u8 0,.int .u8 0,.int .u8 0,.int .u8 0,.int .u8 0,.int .u8 0,.int .u8 0,.int .u8 0,.int .u8 0,.int .u8 0,.int .u8 0,.int .u8 0,.int .u8 0,.int .u8 0,.int .u8 0,.int .u8 0,.int .u8 0,.int .u8 0,.int .u8 0,.int .u8 0,.int .u8 0,.int .u8 0,.int .u8 0,.int .u8 0,.int .u8 0,.int .u8 0,.int .u8 0,.int .u8 0,.int .u8 0,.int .u8 0,.int .u8 0,.int .u8 0,.int .u8 0,.int .u8 0,.int .u8 0,.int .u8 0,.int .u8 0,.int .u8 0,.int .u8 0,.int .u8 0,.int .u8 0,.int .u8 0,.int .u8 0,.int .u8 0,.int .u8 0,.int .u8 0,.int .u8 0,.int .u8 0,.int .u8 0,.int .u8 0,.int .u8 0,.int .u8 0,.int .u8 0,.int .u8 0,.int .u8 0,.int .u8 0,.int .u8 0,.int .u8 0,.int .u8 0,.int .u8 0,.int .u8 0,.int .u8 0,.int .u8 0,.int .u8 0,.int .u8 0,.int .u8 0,.int .u8 0,.int .u8 0,.int .u8 0,.int .u8 0,.int .u8 0,.int .u8 0,.int .u8 0,.int .u8 0,.int .u8 0,.int .u8 0,.int .u8 0,.int .u8 0,.int .u8 0,.int .u8 0,.int .u8 0,.int .u8 0,.int .u8 0,.int .u8 0,.int .u8 0,.int .u8 0,.int .u8 0,.int .u8 0,.int .u8 0,.int .u8 0,.int .u8 0,.int .u8 0,.int .u8 0,.int .u8 0,.int .u8 0,.int .u8 0,.int .u8 0,.int .u8 0,.int .u8 0,.int .u8 0,.int .u8 0,.int .u8 0,.int .u8 0,.int .u8 0,.int .u8 0,.int .u8 0,.int .u8 0,.int .u8 0,.int .u8 0,.int .u8 0,.int .u8 0,.int .u8 0,.int .u8 0,.int .u8 0,.int .u8 0,.int .u8 0,.int .u8 0,.int .u8 0,.int .u8 0,.int .u8 0,.int .u8 0,.int .u8 0,.int .u8 0,.int .u8 0,.int .u8 0,.int .u8 0,.int .u8 0,.int .u8 0,.int .u8 0,.int .u8 0,.int .u8 0,.int .u8 0,.int .u8 0,.int .u8 0,.int .u8 0,.int .u8 0,.int .u8 0,.int .u8 0,.int .u8 0,.int .u8 0,.int .u8 0,.int .u8 0,.int .u8 0,.int .u8 0,.int .u8 0,.int .u8 0,.int .u8 0,.int .u8 0,.int .u8 0,.int .u8 0,.int .u8 0,.int .u8 0,.int .u8 0,.int .u8 0,.int .u8 0,.int .u8 0,.int .u8 0,.int .u8 0,.int .u8 0,.int .u8 0,.int .u8 0,.int .u8 0,.int .u8 0,.int .u8 0,.int .u8 0,.int .u8 0,.int .u8 0,.int .u8 0,.int .u8 0,.int .u8 0,.int .u8 0,.int .u8 0,.int .u8 0,.int .u8 0,.int .u8 0,.int .u8 0]),.agg [.int .u8 0,.int .u8 0,.int .u8 0,.int .u8 0,.int .u8 0,.int .u8 0,.int .u8 0,.int .u8 0,.int .u8 0,.int .u8 0,.int .u8 0,.int .u8 0,.int .u8 0,.int .u8 0,.int .u8 0,.int .u8 0,.int .u8 0,.int .u8 0,.int .u8 0,.int .u8 0,.int .u8 0,.int .u8 0,.int .u8 0,.int .u8 0,.int .u8 0,.int .u8 0,.int .u8 0,.int .u8 0,.int .u8 0,.int .u8 0,.int .u8 0,.int .u8 0,.int .u8 0,.int .u8 0,.int .u8 0,.int .u8 0,.int .u8 0,.int .u8 0,.int .u8 0,.int .u8 0,.int .u8 0,.int .u8 0,.int .u8 0,.int .u8 0,.int .u8 0,.int .u8 0,.int .u8 0,.int .u8 0,.int .u8 0,.int .u8 0,.int .u8 0,.int .u8 0,.int .u8 0,.int .u8 0,.int .u8 0,.int .u8 0,.int .u8 0,.int .u8 0,.int .u8 0,.int .u8 0,.int .u8 0,.int .u8 0,.int .u8 0,.int .u8 0,.int .u8 0,.int .u8 0,.int .u8 0,.int .u8 0,.int .u8 0,.int .u8 0,.int .u8 0,.int .u8 0,.int .u8 0,.int .u8 0,.int .u8 0,.int .u8 0,.int .u8 0,.int .u8 0,.int .u8 0,.int .u8 0,.int .u8 0,.int .u8 0,.int .u8 0,.int .u8 0,.int .u8 0,.int .u8 0,.int .u8 0,.int .u8 0,.int .u8 0,.int .u8 0,.int .u8 0,.int .u8 0,.int .u8 0,.int .u8 0,.int .u8 0,.int .u8 0,.int .u8 0,.int .u8 0,.int .u8 0,.int .u8 0,.int .u8 0,.int .u8 0,.int .u8 0,.int .u8 0,.int .u8 0,.int .u8 0,.int .u8 0,.int .u8 0,.int .u8 0,.int .u8 0,.int .u8 0,.int .u8 0,.int .u8 0,.int .u8 0,.int .u8 0,.int .u8 0,.int .u8 0,.int .u8 0,.int .u8 0,.int .u8 0,.int .u8 0,.int .u8 0,.int .u8 0,.int .u8 0,.int .u8 0,.int .u8 0,.int .u8 0,.int .u8 0,.int .u8 0,.int .u8 0,.int .u8 0,.int .u8 0,.int .u8 0,.int .u8 0,.int .u8 0,.int .u8 0,.int .u8 0,.int .u8 0,.int .u8 0,.int .u8 0,.int .u8 0,.int .u8 0,.int .u8 0,.int .u8 0,.int .u8 0,.int .u8 0,.int .u8 0,.int .u8 0,.int .u8 0,.int .u8 0,.int .u8 0,.int .u8 0,.int .u8 0,.int .u8 0,.int .u8 0,.int .u8 0,.int .u8 0,.int .u8 0,.int .u8 0,.int .u8 0,.int .u8 0,.int .u8 0,.int .u8 0,.int .u8 0,.int .u8 0,.int .u8 0,.int .u8 0,.int .u8 0,.int .u8 0,.int .u8 0,.int .u8 0,.int .u8 0,.int .u8 0,.int .u8 0,.int .u8 0,.int .u8 0,.int .u8 0,.int .u8 0,.int .u8 0,.int .u8 0,.int .u8 0,.int .u8 0,.int .u8 0,.int .u8 0,.int .u8 0,.int .u8 0,.int .u8 0,.int .u8 0,.int .u8 0,.int .u8 0,.int .u8 0,.int .u8 0,.int .u8 0,.int .u8 0,.int .u8 0,.int .u8 0,.int .u8 0,.int .u8 0,.int .u8 0,.int .u8 0,.int .u8 0,.int .u8 0,.int .u8 0,.int .u8 0,.int .u8 0,.int .u8 0,.int .u8 0,.int .u8 0,.int .u8 0,.int .u8 0,.int .u8 0,.int .u8 0,.int .u8 0,.int .u8 0,.int .u8 0,.int .u8 0,.int .u8 0,.int .u8 0,.int .u8 0,.int .u8 0,.int .u8 0,.int .u8 0,.int .u8 0,.int .u8 0,.int .u8 0,.int .u8 0,.int .u8 0,.int .u8 0,.int .u8 0,.int .u8 0,.int .u8 0,.int .u8 0,.int .u8 0,.int .u8 0,.int .u8 0,.int .u8 0,.int .u8 0,.int .u8 0,.int .u8 0,.int .u8 0,.int .u8 0,.int .u8 0,.int .u8 0,.int .u8 0,.int .u8 0,.int .u8 0,.int .u8 0,.int .u8 0,.int .u8 0,.int .u8 0,.int .u8 0,.int .u8 0,.int .u8 0,.int .u8 0,.int .u8 0,.int .u8 0],[]⟩),(161,⟨.struct [(0,1),(1,1)],2,2,.d (.agg [.int .u8 0,.int .u8 0]),.agg [.int .u8 0,.int .u8 0],[.int .u8,.int .u8]⟩),(163,⟨.ptr 146,1,8,.d .nilp,.nilp,[]⟩),(171,⟨.array 32 5,32,32,.d (.agg [.int .u8 0,.int .u8 0,.int .u8 0,.int .u8 0,.int .u8 0,.int .u8 0,.int .u8 0,.int .u8 0,.int .u8 0,.int .u8 0,.int .u8 0,.int .u8 0,.int .u8 0,.int .u8 0,.int .u8 0,.int .u8 0,.int .u8 0,.int .u8 0,.int .u8 0,.int .u8 0,.int .u8 0,.int .u8 0,.int .u8 0,.int .u8 0,.int .u8 0,.int .u8 0,.int .u8 0,.int .u8 0,.int .u8 0,.int .u8 0,.int .u8 0,.int .u8 0]),.agg [.int .u8 0,.int .u8 0,.int .u8 0,.int .u8 0,.int .u8 0,.int .u8 0,.int .u8 0,.int .u8 0,.int .u8 0,.int .u8 0,.int .u8 0,.int .u8 0,.int .u8 0,.int .u8 0,.int .u8 0,.int .u8 0,.int .u8 0,.int .u8 0,.int .u8 0,.int .u8 0,.int .u8 0,.int .u8 0,.int .u8 0,.int .u8 0,.int .u8 0,.int .u8 0,.int .u8 0,.int .u8 0,.int .u8 0,.int .u8 0,.int .u8 0,.int .u8 0],[]⟩),(172,⟨.array 64 5,64,64,.d (.agg [.int .u8 0,.int .u8 0,.int .u8 0,.int .u8 0,.int .u8 0,.int .u8 0,.int .u8 0,.int .u8 0,.int .u8 0,.int .u8 0,.int .u8 0,.int .u8 0,.int .u8 0,.int .u8 0,.int .u8 0,.int .u8 0,.int .u8 0,.int .u8 0,.int .u8 0,.int .u8 0,.int .u8 0,.int .u8 0,.int .u8 0,.int .u8 0,.int .u8 0,.int .u8 0,.int .u8 0,.int .u8 0,.int .u8 0,.int .u8 0,.int .u8 0,.int .u8 0,.int .u8 0,.int .u8 0,.int .u8 0,.int .u8 0,.int .u8 0,.int .u8 0,.int .u8 0,.int .u8 0,.int .u8 0,.int .u8 0,.int .u8 0,.int .u8 0,.int .u8 0,.int .u8 0,.int .u8 0,.int .u8 0,.int .u8 0,.int .u8 0,.int .u8 0,.int .u8 0,.int .u8 0,.int .u8 0,.int .u8 0,.int .u8 0,.int .u8 0,.int .u8 0,.int .u8 0,.int .u8 0,.int .u8 0,.int .u8 0,.int .u8 0,.int .u8 0]),.agg [.int .u8 0,.int .u8 0,.int .u8 0,.int .u8 0,.int .u8 0,.int .u8 0,.int .u8 0,.int .u8 0,.int .u8 0,.int .u8 0,.int .u8 0,.int .u8 0,.int .u8 0,.int .u8 0,.int .u8 0,.int .u8 0,.int .u8 0,.int .u8 0,.int .u8 0,.int .u8 0,.int .u8 0,.int .u8 0,.int .u8 0,.int .u8 0,.int .u8 0,.int .u8 0,.int .u8 0,.int .u8 0,.int .u8 0,.int .u8 0,.int .u8 0,.int .u8 0,.int .u8 0,.int .u8 0,.int .u8 0,.int .u8 0,.int .u8 0,.int .u8 0,.int .u8 0,.int .u8 0,.int .u8 0,.int .u8 0,.int .u8 0,.int .u8 0,.int .u8 0,.int .u8 0,.int .u8 0,.int .u8 0,.int .u8 0,.int .u8 0,.int .u8 0,.int .u8 0,.int .u8 0,.int .u8 0,.int .u8 0,.int .u8 0,.int .u8 0,.int .u8 0,.int .u8 0,.int .u8 0,.int .u8 0,.int .u8 0,.int .u8 0,.int .u8 0],[]⟩)]
def Mb:Nat→TI:=Zna tt
theorem lH:Mb 1=⟨.func,1,8,.d .nilf,.nilf,[]⟩:=rfl
theorem lG:Mb 2=⟨.int .i64,1,8,.d (.int .i64 0),.int .i64 0,[]⟩:=rfl
theorem lF:Mb 3=⟨.int .i64,1,8,.d (.int .i64 0),.int .i64 0,[]⟩:=rfl
theorem lE:Mb 4=⟨.bool,1,1,.d (.bool false),.bool false,[]⟩:=rfl
theorem jX:Mb 5=⟨.int .u8,1,1,.d (.int .u8 0),.int .u8 0,[]⟩:=rfl
theorem lD:Mb 9=⟨.str,1,16,.d (.str []),.str [],[]⟩:=rfl
theorem Is:Mb 21=⟨.int .i32,1,4,.d (.int .i32 0),.int .i32 0,[]⟩:=rfl
theorem Ir:Mb 23=⟨.slice 39,1,24,.nils 8,.list 8 [],[]⟩:=rfl
theorem Iq:Mb 30=⟨.slice 3,1,24,.nils 1,.list 1 [],[]⟩:=rfl
theorem Ip:Mb 34=⟨.slice 9,1,24,.nils 1,.list 1 [],[]⟩:=rfl
theorem Io:Mb 37=⟨.slice 41,1,24,.nils 3,.list 3 [],[]⟩:=rfl
theorem Im:Mb 39=⟨.struct [(0,1),(1,1),(2,1),(3,1),(4,1),(5,1),(6,1),(7,1)],8,120,.agg [.d (.int .i64 0),.d (.str []),.d (.str []),.d (.str []),.d (.int .i64 0),.d (.int .i64 0),.nils 3,.nils 3],.agg [.int .i64 0,.str [],.str [],.str [],.int .i64 0,.int .i64 0,.list 3 [],.list 3 []],[]⟩:=rfl
theorem Il:Mb 41=⟨.struct [(0,1),(1,1),(2,1)],3,32,.d (.agg [.int .i64 0,.str [],.int .i64 0]),.agg [.int .i64 0,.str [],.int .i64 0],[.int .i64,.str,.int .i64]⟩:=rfl
theorem Ik:Mb 44=⟨.func,1,8,.d .nilf,.nilf,[]⟩:=rfl
theorem Ij:Mb 46=⟨.map 9 4,1,8,.d .nilm,.nilm,[]⟩:=rfl
theorem Ii:Mb 51=⟨.func,1,8,.d .nilf,.nilf,[]⟩:=rfl
theorem Ih:Mb 52=⟨.ptr 58,1,8,.d .nilp,.nilp,[]⟩:=rfl
theorem Ig:Mb 53=⟨.ptr 56,1,8,.d .nilp,.nilp,[]⟩:=rfl
theorem Ie:Mb 54=⟨.slice 5,1,24,.nils 1,.list 1 [],[]⟩:=rfl
theorem Ic:Mb 56=⟨.struct [(0,1),(1,1)],2,32,.agg [.d .nilp,.nils 1],.agg [.nilp,.list 1 []],[]⟩:=rfl
theorem Ib:Mb 58=⟨.struct [(0,2),(2,1),(3,1)],4,64,.agg [.d .nilp,.nils 1,.nils 8,.d (.int .i64 0)],.agg [.nilp,.list 1 [],.list 8 [],.int .i64 0],[]⟩:=rfl
theorem Ia:Mb 61=⟨.func,1,8,.d .nilf,.nilf,[]⟩:=rfl
theorem A9:Mb 65=⟨.func,1,8,.d .nilf,.nilf,[]⟩:=rfl
theorem A8:Mb 68=⟨.func,1,8,.d .nilf,.nilf,[]⟩:=rfl
theorem A7:Mb 71=⟨.array 15 3,15,120,.d (.agg [.int .i64 0,.int .i64 0,.int .i64 0,.int .i64 0,.int .i64 0,.int .i64 0,.int .i64 0,.int .i64 0,.int .i64 0,.int .i64 0,.int .i64 0,.int .i64 0,.int .i64 0,.int .i64 0,.int .i64 0]),.agg [.int .i64 0,.int .i64 0,.int .i64 0,.int .i64 0,.int .i64 0,.int .i64 0,.int .i64 0,.int .i64 0,.int .i64 0,.int .i64 0,.int .i64 0,.int .i64 0,.int .i64 0,.int .i64 0,.int .i64 0],[]⟩:=rfl
theorem A6:Mb 75=⟨.func,1,8,.d .nilf,.nilf,[]⟩:=rfl
theorem A5:Mb 79=⟨.ptr 5,1,8,.d .nilp,.nilp,[]⟩:=rfl
theorem A4:Mb 85=⟨.func,1,8,.d .nilf,.nilf,[]⟩:=rfl
theorem A3:Mb 94=⟨.ptr 96,1,8,.d .nilp,.nilp,[]⟩:=rfl
theorem A1:Mb 96=⟨.struct [(0,2)],2,32,.agg [.d .nilp,.nils 1],.agg [.nilp,.list 1 []],[]⟩:=rfl
theorem Sk:Mb 103=⟨.int .u64,1,8,.d (.int .u64 0),.int .u64 0,[]⟩:=rfl
theorem Sj:Mb 107=⟨.func,1,8,.d .nilf,.nilf,[]⟩:=rfl
theorem Si:Mb 116=⟨.array 5 9,5,80,.d (.agg [.str [],.str [],.str [],.str [],.str []]),.agg [.str [],.str [],.str [],.str [],.str []],[]⟩:=rfl
theorem Sh:Mb 123=⟨.int .i64,1,8,.d (.int .i64 0),.int .i64 0,[]⟩:=rfl
theorem Sg:Mb 132=⟨.int .u32,1,4,.d (.int .u32 0),.int .u32 0,[]⟩:=rfl
theorem Sf:Mb 134=⟨.int .u64,1,8,.d (.int .u64 0),.int .u64 0,[]⟩:=rfl
theorem Se:Mb 146=⟨.int .u64,1,8,.d (.int .u64 0),.int .u64 0,[]⟩:=rfl
theorem Sd:Mb 150=⟨.ptr 3,1,8,.d .nilp,.nilp,[]⟩:=rfl
theorem Sc:Mb 157=⟨.array 20 134,20,160,.d (.agg [.int .u64 0,.int .u64 0,.int .u64 0,.int .u64 0,.int .u64 0,.int .u64 0,.int .u64 0,.int .u64 0,.int .u64 0,.int .u64 0,.int .u64 0,.int .u64 0,.int .u64 0,.int .u64 0,.int .u64 0,.int .u64 0,.int .u64 0,.int .u64 0,.int .u64 0,.int .u64 0]),.agg [.int .u64 0,.int .u64 0,.int .u64 0,.int .u64 0,.int .u64 0,.int .u64 0,.int .u64 0,.int .u64 0,.int .u64 0,.int .u64 0,.int .u64 0,.int .u64 0,.int .u64 0,.int .u64 0,.int .u64 0,.int .u64 0,.int .u64 0,.int .u64 0,.int .u64 0,.int .u64 0],[]⟩:=rfl
theorem Sb:Mb 159=⟨.array 256 5,256,256,.d (.agg [.int .u8 0,.int .u8 0,.int .u8 0,.int .u8 0,.int .u8 0,.int .u8 0,.int .u8 0,.int .u8 0,.int .u8 0,.int .u8 0,.int .u8 0,.int .u8 0,.int .u8 0,.int .u8 0,.int .u8 0,.int .u8 0,.int .u8 0,.int .u8 0,.int .u8 0,.int .u8 0,.int .u8 0,.int .u8 0,.int .u8 0,.int .u8 0,.int .u8 0,.int .u8 0,.int .u8 0,.int .u8 0,.int .u8 0,.int .u8 0,.int .u8 0,.int .u8 0,.int .u8 0,.int .u8 0,.int .u8 0,.int .u8 0,.int .u8 0,.int .u8 0,.int .u8 0,.int .u8 0,.int .u8 0,.int .u8 0,.int .u8 0,.int .u8 0,.int .u8 0,.int .u8 0,.int .u8 0,.int .u8 0,.int .u8 0,.int .u8 0,.int .u8 0,.int .u8 0,.int .u8 0,.int .u8 0,.int .u8 0,.int .u8 0,.int .u8 0,.int .u8 0,.int .u8 0,.int .u8 0,.int .u8 0,.int .u8 0,.int .u8 0,.int .u8 0,.int .u8 0,.int .u8 0,.int .u8 0,.int .u8 0,.int .u8 0,.int .u8 0,.int .u8 0,.int .u8 0,.int .u8 0,.int .u8 0,.int .u8 0,.int .u8 0,.int .u8 0,.int .u8 0,.int .u8 0,.int .u8 0,.int .u8 0,.int .u8 0,.int .u8 0,.int .u8 0,.int .u8 0,.int .u8 0,.int .u8 0,.int .u8 0,.int .u8 0,.int .u8 0,.int .u8 0,.int .u8 0,.int .u8 0,.int .u8 0,.int .u8 0,.int .u8 0,.int .u8 0,.int .u8 0,.int .u8 0,.int .u8 0,.int .u8 0,.int .u8 0,.int .u8 0,.int .u8 0,.int .u8 0,.int .u8 0,.int .u8 0,.int .u8 0,.int .u8 0,.int .u8 0,.int .u8 0,.int .u8 0,.int .u8 0,.int .u8 0,.int .u8 0,.int .u8 0,.int .u8 0,.int .u8 0,.int .u8 0,.int .u8 0,.int .u8 0,.int .u8 0,.int .u8 0,.int .u8 0,.int .u8 0,.int .u8 0,.int .u8 0,.int .u8 0,.int .u8 0,.int .u8 0,.int .u8 0,.int .u8 0,.int .u8 0,.int .u8 0,.int .u8 0,.int .u8 0,.int .u8 0,.int .u8 0,.int .u8 0,.int .u8 0,.int .u8 0,.int .u8 0,.int .u8 0,.int .u8 0,.int .u8 0,.int .u8 0,.int .u8 0,.int .u8 0,.int .u8 0,.int .u8 0,.int .u8 0,.int .u8 0,.int .u8 0,.int .u8 0,.int .u8 0,.int .u8 0,.int .u8 0,.int .u8 0,.int .u8 0,.int .u8 0,.int .u8 0,.int .u8 0,.int .u8 0,.int .u8 0,.int .u8 0,.int .u8 0,.int .u8 0,.int .u8 0,.int .u8 0,.int .u8 0,.int .u8 0,.int .u8 0,.int .u8 0,.int .u8 0,.int .u8 0,.int .u8 0,.int .u8 0,.int .u8 0,.int .u8 0,.int .u8 0,.int .u8 0,.int .u8 0,.int .u8 0,.int .u8 0,.int .u8 0,.int .u8 0,.int .u8 0,.int .u8 0,.int .u8 0,.int .u8 0,.int .u8 0,.int .u8 0,.int .u8 0,.int .u8 0,.int .u8 0,.int .u8 0,.int .u8 0,.int .u8 0,.int .u8 0,.int .u8 0,.int .u8 0,.int .u8 0,.int .u8 0,.int .u8 0,.int .u8 0,.int .u8 0,.int .u8 0,.int .u8 0,.int .u8 0,.int .u8 0,.int .u8 0,.int .u8 0,.int .u8 0,.int .u8 0,.int .u8 0,.int .u8 0,.int .u8 0,.int .u8 0,.int .u8 0,.int .u8 0,.int .u8 0,.int .u8 0,.int .u8 0,.int .u8 0,.int .u8 0,.int .u8 0,.int .u8 0,.int .u8 0,.int .u8 0,.int .u8 0,.int .u8 0,.int .u8 0,.int .u8 0,.int .u8 0,.int .u8 0,.int .u8 0,.int .u8 0,.int .u8 0,.int .u8 0,.int .u8 0,.int .u8 0,.int .u8 0,.int .u8 0,.int .u8 0,.int .u8 0,.int .u8 0,.int .u8 0,.int .u8 0,.int .u8 0,.int .u8 0,.int .u8 0,.int .u8 0,.int .u8 0,.int .u8 0,.int .u8 0,.int .u8 0]),.agg [.int .u8 0,.int .u8 0,.int .u8 0,.int .u8 0,.int .u8 0,.int .u8 0,.int .u8 0,.int .u8 0,.int .u8 0,.int .u8 0,.int .u8 0,.int .u8 0,.int .u8 0,.int .u8 0,.int .u8 0,.int .u8 0,.int .u8 0,.int .u8 0,.int .u8 0,.int .u8 0,.int .u8 0,.int .u8 0,.int .u8 0,.int .u8 0,.int .u8 0,.int .u8 0,.int .u8 0,.int .u8 0,.int .u8 0,.int .u8 0,.int .u8 0,.int .u8 0,.int .u8 0,.int .u8 0,.int .u8 0,.int .u8 0,.int .u8 0,.int .u8 0,.int .u8 0,.int .u8 0,.int .u8 0,.int .u8 0,.int .u8 0,.int .u8 0,.int .u8 0,.int .u8 0,.int .u8 0,.int .u8 0,.int .u8 0,.int .u8 0,.int .u8 0,.int .u8 0,.int .u8 0,.int .u8 0,.int .u8 0,.int .u8 0,.int .u8 0,.int .u8 0,.int .u8 0,.int .u8 0,.int .u8 0,.int .u8 0,.int .u8 0,.int .u8 0,.int .u8 0,.int .u8 0,.int .u8 0,.int .u8 0,.int .u8 0,.int .u8 0,.int .u8 0,.int .u8 0,.int .u8 0,.int .u8 0,.int .u8 0,.int .u8 0,.int .u8 0,.int .u8 0,.int .u8 0,.int .u8 0,.int .u8 0,.int .u8 0,.int .u8 0,.int .u8 0,.int .u8 0,.int .u8 0,.int .u8 0,.int .u8 0,.int .u8 0,.int .u8 0,.int .u8 0,.int .u8 0,.int .u8 0,.int .u8 0,.int .u8 0,.int .u8 0,.int .u8 0,.int .u8 0,.int .u8 0,.int .u8 0,.int .u8 0,.int .u8 0,.int .u8 0,.int .u8 0,.int .u8 0,.int .u8 0,.int .u8 0,.int .u8 0,.int .u8 0,.int .u8 0,.int .u8 0,.int .u8 0,.int .u8 0,.int .u8 0,.int .u8 0,.int .u8 0,.int .u8 0,.int .u8 0,.int .u8 0,.int .u8 0,.int .u8 0,.int .u8 0,.int .u8 0,.int .u8 0,.int .u8 0,.int .u8 0,.int .u8 0,.int .u8 0,.int .u8 0,.int .u8 0,.int .u8 0,.int .u8 0,.int .u8 0,.int .u8 0,.int .u8 0,.int .u8 0,.int .u8 0,.int .u8 0,.int .u8 0,.int .u8 0,.int .u8 0,.int .u8 0,.int .u8 0,.int .u8 0,.int .u8 0,.int .u8 0,.int .u8 0,.int .u8 0,.int .u8 0,.int .u8 0,.int .u8 0,.int .u8 0,.int .u8 0,.int .u8 0,.int .u8 0,.int .u8 0,.int .u8 0,.int .u8 0,.int .u8 0,.int .u8 0,.int .u8 0,.int .u8 0,.int .u8 0,.int .u8 0,.int .u8 0,.int .u8 0,.int .u8 0,.int .u8 0,.int .u8 0,.int .u8 0,.int .u8 0,.int .u8 0,.int .u8 0,.int .u8 0,.int .u8 0,.int .u8 0,.int .u8 0,.int .u8 0,.int .u8 0,.int .u8 0,.int .u8 0,.int .u8 0,.int .u8 0,.int .u8 0,.int .u8 0,.int .u8 0,.int .u8 0,.int .u8 0,.int .u8 0,.int .u8 0,.int .u8 0,.int .u8 0,.int .u8 0,.int .u8 0,.int .u8 0,.int .u8 0,.int .u8 0,.int .u8 0,.int .u8 0,.int .u8 0,.int .u8 0,.int .u8 0,.int .u8 0,.int .u8 0,.int .u8 0,.int .u8 0,.int .u8 0,.int .u8 0,.int .u8 0,.int .u8 0,.int .u8 0,.int .u8 0,.int .u8 0,.int .u8 0,.int .u8 0,.int .u8 0,.int .u8 0,.int .u8 0,.int .u8 0,.int .u8 0,.int .u8 0,.int .u8 0,.int .u8 0,.int .u8 0,.int .u8 0,.int .u8 0,.int .u8 0,.int .u8 0,.int .u8 0,.int .u8 0,.int .u8 0,.int .u8 0,.int .u8 0,.int .u8 0,.int .u8 0,.int .u8 0,.int .u8 0,.int .u8 0,.int .u8 0,.int .u8 0,.int .u8 0,.int .u8 0,.int .u8 0,.int .u8 0,.int .u8 0,.int .u8 0,.int .u8 0,.int .u8 0,.int .u8 0,.int .u8 0,.int .u8 0,.int .u8 0,.int .u8 0,.int .u8 0,.int .u8 0,.int .u8 0],[]⟩:=rfl
theorem Sa:Mb 161=⟨.struct [(0,1),(1,1)],2,2,.d (.agg [.int .u8 0,.int .u8 0]),.agg [.int .u8 0,.int .u8 0],[.int .u8,.int .u8]⟩:=rfl
theorem L9:Mb 163=⟨.ptr 146,1,8,.d .nilp,.nilp,[]⟩:=rfl
theorem L8:Mb 171=⟨.array 32 5,32,32,.d (.agg [.int .u8 0,.int .u8 0,.int .u8 0,.int .u8 0,.int .u8 0,.int .u8 0,.int .u8 0,.int .u8 0,.int .u8 0,.int .u8 0,.int .u8 0,.int .u8 0,.int .u8 0,.int .u8 0,.int .u8 0,.int .u8 0,.int .u8 0,.int .u8 0,.int .u8 0,.int .u8 0,.int .u8 0,.int .u8 0,.int .u8 0,.int .u8 0,.int .u8 0,.int .u8 0,.int .u8 0,.int .u8 0,.int .u8 0,.int .u8 0,.int .u8 0,.int .u8 0]),.agg [.int .u8 0,.int .u8 0,.int .u8 0,.int .u8 0,.int .u8 0,.int .u8 0,.int .u8 0,.int .u8 0,.int .u8 0,.int .u8 0,.int .u8 0,.int .u8 0,.int .u8 0,.int .u8 0,.int .u8 0,.int .u8 0,.int .u8 0,.int .u8 0,.int .u8 0,.int .u8 0,.int .u8 0,.int .u8 0,.int .u8 0,.int .u8 0,.int .u8 0,.int .u8 0,.int .u8 0,.int .u8 0,.int .u8 0,.int .u8 0,.int .u8 0,.int .u8 0],[]⟩:=rfl
theorem L7:Mb 172=⟨.array 64 5,64,64,.d (.agg [.int .u8 0,.int .u8 0,.int .u8 0,.int .u8 0,.int .u8 0,.int .u8 0,.int .u8 0,.int .u8 0,.int .u8 0,.int .u8 0,.int .u8 0,.int .u8 0,.int .u8 0,.int .u8 0,.int .u8 0,.int .u8 0,.int .u8 0,.int .u8 0,.int .u8 0,.int .u8 0,.int .u8 0,.int .u8 0,.int .u8 0,.int .u8 0,.int .u8 0,.int .u8 0,.int .u8 0,.int .u8 0,.int .u8 0,.int .u8 0,.int .u8 0,.int .u8 0,.int .u8 0,.int .u8 0,.int .u8 0,.int .u8 0,.int .u8 0,.int .u8 0,.int .u8 0,.int .u8 0,.int .u8 0,.int .u8 0,.int .u8 0,.int .u8 0,.int .u8 0,.int .u8 0,.int .u8 0,.int .u8 0,.int .u8 0,.int .u8 0,.int .u8 0,.int .u8 0,.int .u8 0,.int .u8 0,.int .u8 0,.int .u8 0,.int .u8 0,.int .u8 0,.int .u8 0,.int .u8 0,.int .u8 0,.int .u8 0,.int .u8 0,.int .u8 0]),.agg [.int .u8 0,.int .u8 0,.int .u8 0,.int .u8 0,.int .u8 0,.int .u8 0,.int .u8 0,.int .u8 0,.int .u8 0,.int .u8 0,.int .u8 0,.int .u8 0,.int .u8 0,.int .u8 0,.int .u8 0,.int .u8 0,.int .u8 0,.int .u8 0,.int .u8 0,.int .u8 0,.int .u8 0,.int .u8 0,.int .u8 0,.int .u8 0,.int .u8 0,.int .u8 0,.int .u8 0,.int .u8 0,.int .u8 0,.int .u8 0,.int .u8 0,.int .u8 0,.int .u8 0,.int .u8 0,.int .u8 0,.int .u8 0,.int .u8 0,.int .u8 0,.int .u8 0,.int .u8 0,.int .u8 0,.int .u8 0,.int .u8 0,.int .u8 0,.int .u8 0,.int .u8 0,.int .u8 0,.int .u8 0,.int .u8 0,.int .u8 0,.int .u8 0,.int .u8 0,.int .u8 0,.int .u8 0,.int .u8 0,.int .u8 0,.int .u8 0,.int .u8 0,.int .u8 0,.int .u8 0,.int .u8 0,.int .u8 0,.int .u8 0,.int .u8 0],[]⟩:=rfl
theorem Qj:J1 Tryz.prog Mb:=yB (by kernel_rfl)
theorem Z0:Tryz.prog.follows .mixedOrders=true:=by kernel_rfl
instance encU8:Enc UInt8:=⟨fun b=>.int .u8 b.toNat,fun x=>UInt8.ofNat x.i.toNat,fun b=>by simp [D.i]⟩
instance szU8:Sz UInt8:=⟨1⟩
theorem Zn9 {b:UInt8}:(enc b:D)=.int .u8 b.toNat:=rfl
theorem Zn7 {b:UInt8}:Tu UInt8 (.int .u8 b.toNat)=True:=eq_true (Xi b)
theorem Zod {b:UInt8}:(dec (.int .u8 b.toNat):UInt8)=b:=Enc.dec_enc b
def Ng (c a b:UInt8):Bool:=decide (a≤c)&&decide (c≤b)
theorem Ho {a b:UInt8}:Ju (a.toNat:Int) (b.toNat:Int)=decide (a≤b):=by
 unfold Ju
 congr 1
 rw [UInt8.le_iff_toNat_le];exact propext (by omega)
def Ga:Con:=kJ (fun (_ _ _:UInt8)=>True) (fun c a b=>Ng c a b)
theorem Zbp {p:Prop} (h:p:=by (sym=>simp [Kt,Kc,Kd,Kb,Ku,Kw,Ko,Y6,P7,aV,dF,oD,tN,Qu,Qz,Qs,Q0,Q6,Q5,Ja,Jq,Q9,Je,Qe,Qc,Qg,Qi,Qh,Qa,Z2,Z7,Qk,Qm,Qr,Q1,Q3,Qx,Q4,Jf,Cy,S8,Ly,Lx,N4,Lw,P1,N3,P0,Pz,Py,Lv,S7,D.setCell.eq_1,Zn,Ky,Kv,Ho,Zmz,Zmy,Zmx,Zmw,Zmv,Zmu,Zmt,Zms,Zmr,Zmq,Zmp,Zmo,Zmn,Zmm,Zml,Zmk,Zmj,Zmi,Zmh,Zmg,Zmf,Zme,Zmd,Zmc,Zmb,Zma,Zl9,Zl8,Zl7,Zl6,Zl5,Zl4,Zl3,Zl2,Zl1,Zl0,Zlz,Zly,Zlx,Zlw,Zlv,Zlu,Zlt,Zls,Zlr,Zlq,Zlp,Zlo,Zln,Zlm,Zll,Zlk,Zlj,Zli,Zlh,Zlg,Zlf,Zle,Zld,Zlc,Zlb,Zla,Zk9,Zk8,Zk7,Zk6,Zk5,Zk4,Zk3,Zk2,Zk1,Zk0,Zkz,Zky,Zkx,Zkw,Zkv,Zku,Zkt,Zks,Zkr,Zkq,Zkp,Zko,Zkn,Zkm,Zkl,Zkk,Zkj,Zki,Zkh,Zkg,Zkf,Zke,Zkd,Zkc,Zkb,Zka,Zj9,Zj8,Zj7,Zj6,Zj5,Zj4,Zj3,Zj2,Zj1,Zj0,Zjz,Zjy,Zjx,Zjw,Zjv,Zju,Zjt,Zjs,Zjr,Zjq,Zjp,Zjo,Zjn,Zjm,Zjl,Zjk,Zjj,Zji,Zjh,Zjg,Zjf,Zje,Zjd,Zjc,Zjb,Zja,Zi9,Zi8,Zi7,Zi6,Zi5,Zi4,Zi3,Zi2,Zi1,Zi0,Ziz,Ziy,Zix,Ziw,Ziv,Ziu,Zit,Zis,Zir,Ziq,Zip,Zio,Zin,Zim,Zil,Zik,Zij,Zii,Zih,Zig,Zif,Zie,Zid,Zic,Zib,Zia,Zh9,Zh8,Zh7,Zh6,Zh5,Zh4,Zh3,Zh2,Zh1,Zh0,Zhz,Zhy,Zhx,Zhw,Zhv,Zhu,Zht,Zhs,Zhr,Zhq,Zhp,Zho,Zhn,Zhm,Zhl,Zhk,Zhj,Zhi,Zhh,Zhg,Zhf,Zhe,Zhd,Zhc,Zhb,Zha,Zg9,Zg8,Zg7,Zg6,Zg5,Zg4,Zg3,Zg2,Zg1,Zg0,Zgz,Zgy,Zgx,Zgw,Zgv,Zgu,Zgt,Zgs,Zgr,Zgq,Zgp,Zgo,Zgn,Zgm,Zgl,Zgk,Zgj,Zgi,Zgh,Zgg,Zgf,Zge,Zgd,Zgc,Zgb,Zga,Zf9,Zf8,Zf7,Zf6,Zf5,Zf4,Zf3,Zf2,Zf1,Zf0,Zfz,Zfy,Zfx,Zfw,Zfv,Zfu,Zft,Zfs,Zfr,Zfq,Zfp,Zfo,Zfn,Zfm,Zfl,Zfk,Zfj,Zfi,Zfh,Zfg,Zff,Zfe,Zfd,Zfc,Zfb,Zfa,Ze9,Ze8,Ze7,Ze6,Ze5,Ze4,Ze3,Ze2,Ze1,Ze0,Zez,Zey,Zex,Zew,Zev,Zeu,Zet,Zes,Zer,Zeq,Zep,Zeo,Zen,Zem,Zel,Zek,Zej,Zei,Zeh,Zeg,Zef,Zee,Zed,Zec,Zeb,Zea,Zd9,Zd8,Zd7,Zd6,Zd5,Zd4,Zd3,Zd2,Zd1,Zd0,Zdz,Zdy,Zdx,Zdw,Zdv,Zdu,Zdt,Zds,Zdr,Zdq,Zdp,Zdo,Zdn,Zdm,Zdl,Zdk,Zdj,Zdi,Zdh,Zdg,Zdf,Zde,Zdd,Zdc,Zdb,Zda,Zc9,Zc8,Zc7,lH,lG,lF,lE,jX,lD,Is,Ir,Iq,Ip,Io,Im,Il,Ik,Ij,Ii,Ih,Ig,Ie,Ic,Ib,Ia,A9,A8,A7,A6,A5,A4,A3,A1,Sk,Sj,Si,Sh,Sg,Sf,Se,Sd,Sc,Sb,Sa,L9,L8,L7])):p:=h
theorem Nj {p:Prop} (h:p:=by
 (sym=>simp [Kt,Kc,Kd,Kb,Ku,Kw,Ko,Y6,P7,aV,dF,oD,tN,Qu,Qz,Qs,Q0,Q6,Q5,Ja,Jq,Q9,Je,Qe,Qc,Qg,Qi,Qh,Qa,Z2,Z7,Qk,Qm,Qr,Q1,Q3,Qx,Q4,Jf,Cy,S8,Ly,Lx,N4,Lw,P1,N3,P0,Pz,Py,Lv,S7,D.setCell.eq_1,Zn,Ky,Kv,Ho,Zmz,Zmy,Zmx,Zmw,Zmv,Zmu,Zmt,Zms,Zmr,Zmq,Zmp,Zmo,Zmn,Zmm,Zml,Zmk,Zmj,Zmi,Zmh,Zmg,Zmf,Zme,Zmd,Zmc,Zmb,Zma,Zl9,Zl8,Zl7,Zl6,Zl5,Zl4,Zl3,Zl2,Zl1,Zl0,Zlz,Zly,Zlx,Zlw,Zlv,Zlu,Zlt,Zls,Zlr,Zlq,Zlp,Zlo,Zln,Zlm,Zll,Zlk,Zlj,Zli,Zlh,Zlg,Zlf,Zle,Zld,Zlc,Zlb,Zla,Zk9,Zk8,Zk7,Zk6,Zk5,Zk4,Zk3,Zk2,Zk1,Zk0,Zkz,Zky,Zkx,Zkw,Zkv,Zku,Zkt,Zks,Zkr,Zkq,Zkp,Zko,Zkn,Zkm,Zkl,Zkk,Zkj,Zki,Zkh,Zkg,Zkf,Zke,Zkd,Zkc,Zkb,Zka,Zj9,Zj8,Zj7,Zj6,Zj5,Zj4,Zj3,Zj2,Zj1,Zj0,Zjz,Zjy,Zjx,Zjw,Zjv,Zju,Zjt,Zjs,Zjr,Zjq,Zjp,Zjo,Zjn,Zjm,Zjl,Zjk,Zjj,Zji,Zjh,Zjg,Zjf,Zje,Zjd,Zjc,Zjb,Zja,Zi9,Zi8,Zi7,Zi6,Zi5,Zi4,Zi3,Zi2,Zi1,Zi0,Ziz,Ziy,Zix,Ziw,Ziv,Ziu,Zit,Zis,Zir,Ziq,Zip,Zio,Zin,Zim,Zil,Zik,Zij,Zii,Zih,Zig,Zif,Zie,Zid,Zic,Zib,Zia,Zh9,Zh8,Zh7,Zh6,Zh5,Zh4,Zh3,Zh2,Zh1,Zh0,Zhz,Zhy,Zhx,Zhw,Zhv,Zhu,Zht,Zhs,Zhr,Zhq,Zhp,Zho,Zhn,Zhm,Zhl,Zhk,Zhj,Zhi,Zhh,Zhg,Zhf,Zhe,Zhd,Zhc,Zhb,Zha,Zg9,Zg8,Zg7,Zg6,Zg5,Zg4,Zg3,Zg2,Zg1,Zg0,Zgz,Zgy,Zgx,Zgw,Zgv,Zgu,Zgt,Zgs,Zgr,Zgq,Zgp,Zgo,Zgn,Zgm,Zgl,Zgk,Zgj,Zgi,Zgh,Zgg,Zgf,Zge,Zgd,Zgc,Zgb,Zga,Zf9,Zf8,Zf7,Zf6,Zf5,Zf4,Zf3,Zf2,Zf1,Zf0,Zfz,Zfy,Zfx,Zfw,Zfv,Zfu,Zft,Zfs,Zfr,Zfq,Zfp,Zfo,Zfn,Zfm,Zfl,Zfk,Zfj,Zfi,Zfh,Zfg,Zff,Zfe,Zfd,Zfc,Zfb,Zfa,Ze9,Ze8,Ze7,Ze6,Ze5,Ze4,Ze3,Ze2,Ze1,Ze0,Zez,Zey,Zex,Zew,Zev,Zeu,Zet,Zes,Zer,Zeq,Zep,Zeo,Zen,Zem,Zel,Zek,Zej,Zei,Zeh,Zeg,Zef,Zee,Zed,Zec,Zeb,Zea,Zd9,Zd8,Zd7,Zd6,Zd5,Zd4,Zd3,Zd2,Zd1,Zd0,Zdz,Zdy,Zdx,Zdw,Zdv,Zdu,Zdt,Zds,Zdr,Zdq,Zdp,Zdo,Zdn,Zdm,Zdl,Zdk,Zdj,Zdi,Zdh,Zdg,Zdf,Zde,Zdd,Zdc,Zdb,Zda,Zc9,Zc8,Zc7,lH,lG,lF,lE,jX,lD,Is,Ir,Iq,Ip,Io,Im,Il,Ik,Ij,Ii,Ih,Ig,Ie,Ic,Ib,Ia,A9,A8,A7,A6,A5,A4,A3,A1,Sk,Sj,Si,Sh,Sg,Sf,Se,Sd,Sc,Sb,Sa,L9,L8,L7];tactic =>
   try simp only [fL] at *
   try simp only [Zpq] at *
   try simp (maxSteps:=4000000) only [Qu,Qz,Qs,Q0,Q6,Q5,Ja,Jq,Q9,Je,Qe,Qc,Qg,Qi,Qh,Qa,Z2,Z7,Qk,Qm,Qr,Q1,Q3,Qx,Q4,Jf,Cy,S8,Ly,Lx,N4,Lw,P1,N3,P0,Pz,Py,Lv,S7,D.setCell.eq_1,Zn,Ky,Kv,Ho,uB]
   first|done|exact Kq.k)):p:=h
theorem Lj {p:Prop} (h:p:=by
 (sym=>simp [Kt,Kc,Kd,Kb,Ku,Kw,Ko,Y6,P7,aV,dF,oD,tN,Qu,Qz,Qs,Q0,Q6,Q5,Ja,Jq,Q9,Je,Qe,Qc,Qg,Qi,Qh,Qa,Z2,Z7,Qk,Qm,Qr,Q1,Q3,Qx,Q4,Jf,Cy,S8,Ly,Lx,N4,Lw,P1,N3,P0,Pz,Py,Lv,S7,D.setCell.eq_1,Zn,Ky,Kv,Ho,Zmz,Zmy,Zmx,Zmw,Zmv,Zmu,Zmt,Zms,Zmr,Zmq,Zmp,Zmo,Zmn,Zmm,Zml,Zmk,Zmj,Zmi,Zmh,Zmg,Zmf,Zme,Zmd,Zmc,Zmb,Zma,Zl9,Zl8,Zl7,Zl6,Zl5,Zl4,Zl3,Zl2,Zl1,Zl0,Zlz,Zly,Zlx,Zlw,Zlv,Zlu,Zlt,Zls,Zlr,Zlq,Zlp,Zlo,Zln,Zlm,Zll,Zlk,Zlj,Zli,Zlh,Zlg,Zlf,Zle,Zld,Zlc,Zlb,Zla,Zk9,Zk8,Zk7,Zk6,Zk5,Zk4,Zk3,Zk2,Zk1,Zk0,Zkz,Zky,Zkx,Zkw,Zkv,Zku,Zkt,Zks,Zkr,Zkq,Zkp,Zko,Zkn,Zkm,Zkl,Zkk,Zkj,Zki,Zkh,Zkg,Zkf,Zke,Zkd,Zkc,Zkb,Zka,Zj9,Zj8,Zj7,Zj6,Zj5,Zj4,Zj3,Zj2,Zj1,Zj0,Zjz,Zjy,Zjx,Zjw,Zjv,Zju,Zjt,Zjs,Zjr,Zjq,Zjp,Zjo,Zjn,Zjm,Zjl,Zjk,Zjj,Zji,Zjh,Zjg,Zjf,Zje,Zjd,Zjc,Zjb,Zja,Zi9,Zi8,Zi7,Zi6,Zi5,Zi4,Zi3,Zi2,Zi1,Zi0,Ziz,Ziy,Zix,Ziw,Ziv,Ziu,Zit,Zis,Zir,Ziq,Zip,Zio,Zin,Zim,Zil,Zik,Zij,Zii,Zih,Zig,Zif,Zie,Zid,Zic,Zib,Zia,Zh9,Zh8,Zh7,Zh6,Zh5,Zh4,Zh3,Zh2,Zh1,Zh0,Zhz,Zhy,Zhx,Zhw,Zhv,Zhu,Zht,Zhs,Zhr,Zhq,Zhp,Zho,Zhn,Zhm,Zhl,Zhk,Zhj,Zhi,Zhh,Zhg,Zhf,Zhe,Zhd,Zhc,Zhb,Zha,Zg9,Zg8,Zg7,Zg6,Zg5,Zg4,Zg3,Zg2,Zg1,Zg0,Zgz,Zgy,Zgx,Zgw,Zgv,Zgu,Zgt,Zgs,Zgr,Zgq,Zgp,Zgo,Zgn,Zgm,Zgl,Zgk,Zgj,Zgi,Zgh,Zgg,Zgf,Zge,Zgd,Zgc,Zgb,Zga,Zf9,Zf8,Zf7,Zf6,Zf5,Zf4,Zf3,Zf2,Zf1,Zf0,Zfz,Zfy,Zfx,Zfw,Zfv,Zfu,Zft,Zfs,Zfr,Zfq,Zfp,Zfo,Zfn,Zfm,Zfl,Zfk,Zfj,Zfi,Zfh,Zfg,Zff,Zfe,Zfd,Zfc,Zfb,Zfa,Ze9,Ze8,Ze7,Ze6,Ze5,Ze4,Ze3,Ze2,Ze1,Ze0,Zez,Zey,Zex,Zew,Zev,Zeu,Zet,Zes,Zer,Zeq,Zep,Zeo,Zen,Zem,Zel,Zek,Zej,Zei,Zeh,Zeg,Zef,Zee,Zed,Zec,Zeb,Zea,Zd9,Zd8,Zd7,Zd6,Zd5,Zd4,Zd3,Zd2,Zd1,Zd0,Zdz,Zdy,Zdx,Zdw,Zdv,Zdu,Zdt,Zds,Zdr,Zdq,Zdp,Zdo,Zdn,Zdm,Zdl,Zdk,Zdj,Zdi,Zdh,Zdg,Zdf,Zde,Zdd,Zdc,Zdb,Zda,Zc9,Zc8,Zc7,lH,lG,lF,lE,jX,lD,Is,Ir,Iq,Ip,Io,Im,Il,Ik,Ij,Ii,Ih,Ig,Ie,Ic,Ib,Ia,A9,A8,A7,A6,A5,A4,A3,A1,Sk,Sj,Si,Sh,Sg,Sf,Se,Sd,Sc,Sb,Sa,L9,L8,L7];tactic =>
   try simp only [fL] at *
   try simp only [Zpq] at *
   try simp (maxSteps:=4000000) only [Qu,Qz,Qs,Q0,Q6,Q5,Ja,Jq,Q9,Je,Qe,Qc,Qg,Qi,Qh,Qa,Z2,Z7,Qk,Qm,Qr,Q1,Q3,Qx,Q4,Jf,Cy,S8,Ly,Lx,N4,Lw,P1,N3,P0,Pz,Py,Lv,S7,D.setCell.eq_1,Zn,Ky,Kv,Ho,uB]
   repeat' first|with_reducible assumption|with_reducible apply Z3|intro _|omega|(rw [Qn];omega)
   all_goals first|with_reducible exact Zre|omega|exact Kq.k)):p:=h
theorem uN {p:Prop} (h:p:=by
 first|(sym=>simp [Kt,Kc,Kd,Kb,Ku,Kw,Ko,Y6,P7,aV,dF,oD,tN,Qu,Qz,Qs,Q0,Q6,Q5,Ja,Jq,Q9,Je,Qe,Qc,Qg,Qi,Qh,Qa,Z2,Z7,Qk,Qm,Qr,Q1,Q3,Qx,Q4,Jf,Cy,S8,Ly,Lx,N4,Lw,P1,N3,P0,Pz,Py,Lv,S7,D.setCell.eq_1,Zn,Ky,Kv,Ho,Zmz,Zmy,Zmx,Zmw,Zmv,Zmu,Zmt,Zms,Zmr,Zmq,Zmp,Zmo,Zmn,Zmm,Zml,Zmk,Zmj,Zmi,Zmh,Zmg,Zmf,Zme,Zmd,Zmc,Zmb,Zma,Zl9,Zl8,Zl7,Zl6,Zl5,Zl4,Zl3,Zl2,Zl1,Zl0,Zlz,Zly,Zlx,Zlw,Zlv,Zlu,Zlt,Zls,Zlr,Zlq,Zlp,Zlo,Zln,Zlm,Zll,Zlk,Zlj,Zli,Zlh,Zlg,Zlf,Zle,Zld,Zlc,Zlb,Zla,Zk9,Zk8,Zk7,Zk6,Zk5,Zk4,Zk3,Zk2,Zk1,Zk0,Zkz,Zky,Zkx,Zkw,Zkv,Zku,Zkt,Zks,Zkr,Zkq,Zkp,Zko,Zkn,Zkm,Zkl,Zkk,Zkj,Zki,Zkh,Zkg,Zkf,Zke,Zkd,Zkc,Zkb,Zka,Zj9,Zj8,Zj7,Zj6,Zj5,Zj4,Zj3,Zj2,Zj1,Zj0,Zjz,Zjy,Zjx,Zjw,Zjv,Zju,Zjt,Zjs,Zjr,Zjq,Zjp,Zjo,Zjn,Zjm,Zjl,Zjk,Zjj,Zji,Zjh,Zjg,Zjf,Zje,Zjd,Zjc,Zjb,Zja,Zi9,Zi8,Zi7,Zi6,Zi5,Zi4,Zi3,Zi2,Zi1,Zi0,Ziz,Ziy,Zix,Ziw,Ziv,Ziu,Zit,Zis,Zir,Ziq,Zip,Zio,Zin,Zim,Zil,Zik,Zij,Zii,Zih,Zig,Zif,Zie,Zid,Zic,Zib,Zia,Zh9,Zh8,Zh7,Zh6,Zh5,Zh4,Zh3,Zh2,Zh1,Zh0,Zhz,Zhy,Zhx,Zhw,Zhv,Zhu,Zht,Zhs,Zhr,Zhq,Zhp,Zho,Zhn,Zhm,Zhl,Zhk,Zhj,Zhi,Zhh,Zhg,Zhf,Zhe,Zhd,Zhc,Zhb,Zha,Zg9,Zg8,Zg7,Zg6,Zg5,Zg4,Zg3,Zg2,Zg1,Zg0,Zgz,Zgy,Zgx,Zgw,Zgv,Zgu,Zgt,Zgs,Zgr,Zgq,Zgp,Zgo,Zgn,Zgm,Zgl,Zgk,Zgj,Zgi,Zgh,Zgg,Zgf,Zge,Zgd,Zgc,Zgb,Zga,Zf9,Zf8,Zf7,Zf6,Zf5,Zf4,Zf3,Zf2,Zf1,Zf0,Zfz,Zfy,Zfx,Zfw,Zfv,Zfu,Zft,Zfs,Zfr,Zfq,Zfp,Zfo,Zfn,Zfm,Zfl,Zfk,Zfj,Zfi,Zfh,Zfg,Zff,Zfe,Zfd,Zfc,Zfb,Zfa,Ze9,Ze8,Ze7,Ze6,Ze5,Ze4,Ze3,Ze2,Ze1,Ze0,Zez,Zey,Zex,Zew,Zev,Zeu,Zet,Zes,Zer,Zeq,Zep,Zeo,Zen,Zem,Zel,Zek,Zej,Zei,Zeh,Zeg,Zef,Zee,Zed,Zec,Zeb,Zea,Zd9,Zd8,Zd7,Zd6,Zd5,Zd4,Zd3,Zd2,Zd1,Zd0,Zdz,Zdy,Zdx,Zdw,Zdv,Zdu,Zdt,Zds,Zdr,Zdq,Zdp,Zdo,Zdn,Zdm,Zdl,Zdk,Zdj,Zdi,Zdh,Zdg,Zdf,Zde,Zdd,Zdc,Zdb,Zda,Zc9,Zc8,Zc7,lH,lG,lF,lE,jX,lD,Is,Ir,Iq,Ip,Io,Im,Il,Ik,Ij,Ii,Ih,Ig,Ie,Ic,Ib,Ia,A9,A8,A7,A6,A5,A4,A3,A1,Sk,Sj,Si,Sh,Sg,Sf,Se,Sd,Sc,Sb,Sa,L9,L8,L7];tactic =>
   try simp only [fL] at *
   try simp only [Zpq] at *
   try simp (maxSteps:=4000000) only [Qu,Qz,Qs,Q0,Q6,Q5,Ja,Jq,Q9,Je,Qe,Qc,Qg,Qi,Qh,Qa,Z2,Z7,Qk,Qm,Qr,Q1,Q3,Qx,Q4,Jf,Cy,S8,Ly,Lx,N4,Lw,P1,N3,P0,Pz,Py,Lv,S7,D.setCell.eq_1,Zn,Ky,Kv,Ho,uB]
   repeat' first|with_reducible assumption|with_reducible apply Z3|intro _|omega|(rw [Qn];omega)
   all_goals first|with_reducible exact Zre|omega|rfl|trivial|exact Or.inr trivial|assumption|contradiction|exact J0)|exact Zbp):p:=h
class Kab:Prop
theorem Kab.k (_:Kab) (h:p:=by
 repeat' first|exact Lz|with_reducible apply Z3|intro _
 ·rename_i h;unfold Ng;simp [h]
 ·rename_i h;unfold Ng;rw [decide_eq_false h];rfl):p:=h
theorem good_within:Jc Tryz.prog (83,Ga):=by
 obtain ⟨Kx,Kt,Kc,Kd,Kb,Ku,Kw,K,_⟩:=W5 Qj Z0 [] false W4;have Ko:=Ga.eq_def;refine Yv K Tryz.func83 [.tmp 6] rfl 15 rfl (fun c hc Jj Zo=>?_);unfold Ga at Zo;obtain ⟨x,y,z,rfl,-⟩:=Te Zo;cases hc;have Hi:=Kt;have Qu:=@Zn9;have Qz:=@Zn7;have Qs:=@Zod;have Kq:Kab:=⟨⟩;exact Nj
def behind (c:UInt8):Bool:=Ng c 97 122||Ng c 65 90||Ng c 48 57||c==95
theorem Zri {a b:UInt8}:((a.toNat:Int)==(b.toNat:Int))=(a==b):=by
 rw [Bool.eq_iff_iff,Zi,Zi];constructor
 ·intro h;exact UInt8.toNat_inj.1 (by omega)
 ·intro h;rw [h]
theorem Zxc:D.int .u8 97=enc (97:UInt8):=rfl
theorem Zr9:D.int .u8 122=enc (122:UInt8):=rfl
theorem Zxe:D.int .u8 65=enc (65:UInt8):=rfl
theorem Zxd:D.int .u8 90=enc (90:UInt8):=rfl
theorem Zyg:D.int .u8 48=enc (48:UInt8):=rfl
theorem Zyf:D.int .u8 57=enc (57:UInt8):=rfl
theorem Hi {b:UInt8}:(.int .u8 b.toNat:D)=enc b:=rfl
theorem Vf {k:IntKind} {x:UInt8}:D.isInt k (enc x)=(.u8=k):=rfl
theorem cV {x:UInt8}:D.i (enc x)=x.toNat:=rfl
theorem U8 {s:Nat} {x:UInt8}:D.fits s (enc x)=(s=1):=rfl
theorem Kg {f:Nat} {x:UInt8}:D.cell (enc x) f=enc x:=rfl
theorem Zua {x:UInt8}:((x.toNat:Int)==95)=(x==95):=Zri (b:=95)
def B1:Con:=Xd (fun (_:UInt8)=>True) (fun c=>behind c)
class Kac:Prop
theorem Kac.k (_:Kac) (h:p:=by
 unfold behind;refine ⟨fun h1=>⟨fun h2=>⟨fun h3=>?_,fun h3=>?_⟩,fun h2=>?_⟩,fun h1=>?_⟩;all_goals simp only [*,Bool.false_or,Bool.true_or,Bool.or_true]):p:=h
theorem good_behind:Jc Tryz.prog (102,B1):=by
 obtain ⟨Kx,Kt,Kc,Kd,Kb,Ku,Kw,K,Y6,_⟩:=W5 Qj Z0 [] false (Xa good_within Ga.eq_def W4);have Ko:=B1.eq_def;refine Yv K Tryz.func102 [.tmp 2] rfl 17 rfl (fun c hc Jj Zo=>?_);unfold B1 at Zo;obtain ⟨x,rfl,-⟩:=Qp Zo;cases hc;have Qu:=@Zxc;have Qz:=@Zr9;have Qs:=@Zxe;have Q0:=@Zxd;have Q6:=@Zyg;have Q5:=@Zyf;have Ja:=@Hi;have Jq:=@Vf;have Q9:=@cV;have Je:=@U8;have Qe:=@Kg;have Qc:=@Zua;have Kq:Kac:=⟨⟩;exact Nj
def Uv (s:List UInt8):Bool:=s.all behind
theorem cI {s:List UInt8} {j:Nat}:(s.drop 1).getD j 0=s.getD (j+1) 0:=by
 simp [Zg,Nat.add_comm]
def Tb:Con:=Xd (fun (s:List UInt8)=>s.length≤9223372036854775807) (fun s=>Uv (s.drop 1))
class Kae:Prop
theorem Kae.k (_:Kae) (h:p:=by
 repeat' first|exact Lz|with_reducible apply Z3|intro _
 ·rename_i hb;unfold Uv;rw [Rn (p:=behind) 0 (k-1) (by rw [List.length_drop];omega) (by rw [cI,show k-1+1=k by omega];exact hb)]
 ·rename_i hb;refine ⟨k+1,by exact J0,by omega,by omega,fun j h1 hj=>?_,by omega⟩
  by_cases Ay:j=k
  ·subst Ay;exact hb
  ·exact Yx j h1 (by omega)):p:=h
class Kaf:Prop
theorem Kaf.k (_:Kaf) (h:p:=by
 unfold Uv;rw [P4 (p:=behind) 0 fun j hj=>?_];rw [cI];rw [List.length_drop] at hj;exact Yx (j+1) (by omega) (by omega)):p:=h
class Kad:Prop
theorem Kad.k (_:Kad) (h:p:=by
 refine Z1 [2,4,5,6,7,8,9,10,11,12,13,14] (fun k:Nat=>[(3,.d (.int .i64 k))]) (fun k:Nat=>[]) (fun k:Nat=>1≤k∧(k=1∨k≤s.length)∧∀ j,1≤j→j<k→behind (s.getD j 0)=true) (fun k:Nat=>s.length-k) 1 ?_ ?_ ?_
 ·simp;omega
 ·exact J0
 rintro k ⟨aK,hk,Yx⟩;rcases Z5 k s.length with ⟨Qd,Qu⟩|⟨Qd,Qu⟩
 ·have Qz:=@Hi;have Qs:=@Vf;have Q0:=@cV;have Q6:=@U8;have Q5:=@Kg;have Kq:Kae:=⟨⟩;exact Nj
 ·have Kq:Kaf:=⟨⟩;exact Nj):p:=h
theorem good_all1:Jc Tryz.prog (84,Tb):=by
 obtain ⟨Kx,Kt,Kc,Kd,Kb,Ku,Kw,K,Y6,_⟩:=W5 Qj Z0 [] false (Xa good_behind B1.eq_def W4);have Ko:=Tb.eq_def;refine Yv K Tryz.func84 [.tmp 2] rfl 15 rfl (fun c hc Jj Zo=>?_);unfold Tb at Zo;obtain ⟨s,rfl,hs⟩:=Qp Zo;cases hc;have Kq:Kad:=⟨⟩;exact Nj
def J4 (s:List UInt8):Bool:=match s with
 | []=>false
 | c::r=>Ng c 97 122&&Uv r
def K1 (s:List UInt8):Bool:=match s with
 | []=>false
 | c::r=>Ng c 65 90&&Uv r
def Vl:Con:=Xd (fun (s:List UInt8)=>s.length≤9223372036854775807) (fun s=>J4 s)
class Kag:Prop
theorem Kag.k (_:Kag) (h:p:=by
 cases s with
 | nil=>simp [J4]
 | cons c r =>
  simp only [Zf] at hs;simp only [Zf,J4,Int.toNat_zero,List.getD_cons_zero,List.drop_succ_cons,List.drop_zero];repeat' first|exact Lz|with_reducible apply Z3|intro _
  all_goals simp_all):p:=h
theorem good_IsWord1:Jc Tryz.prog (55,Vl):=by
 obtain ⟨Kx,Kt,Kc,Kd,Kb,Ku,Kw,K,Y6,P7,_⟩:=W5 Qj Z0 [] false (Xa good_within Ga.eq_def (Xa good_all1 Tb.eq_def W4));have Ko:=Vl.eq_def;refine Yv K Tryz.func55 [.tmp 2] rfl 15 rfl (fun c hc Jj Zo=>?_);unfold Vl at Zo;obtain ⟨s,rfl,hs⟩:=Qp Zo;cases hc;have Qu:=@Hi;have Qz:=@Vf;have Qs:=@cV;have Q0:=@U8;have Q6:=@Kg;have Q5:=@Zxc;have Ja:=@Zr9;have Kq:Kag:=⟨⟩;exact Nj
def Gi:Con:=Xd (fun (s:List UInt8)=>s.length≤9223372036854775807) (fun s=>K1 s)
class Kah:Prop
theorem Kah.k (_:Kah) (h:p:=by
 cases s with
 | nil=>simp [K1]
 | cons c r =>
  simp only [Zf] at hs;simp only [Zf,K1,Int.toNat_zero,List.getD_cons_zero,List.drop_succ_cons,List.drop_zero];repeat' first|exact Lz|with_reducible apply Z3|intro _
  all_goals simp_all):p:=h
theorem good_IsTag1:Jc Tryz.prog (56,Gi):=by
 obtain ⟨Kx,Kt,Kc,Kd,Kb,Ku,Kw,K,Y6,P7,_⟩:=W5 Qj Z0 [] false (Xa good_within Ga.eq_def (Xa good_all1 Tb.eq_def W4));have Ko:=Gi.eq_def;refine Yv K Tryz.func56 [.tmp 2] rfl 15 rfl (fun c hc Jj Zo=>?_);unfold Gi at Zo;obtain ⟨s,rfl,hs⟩:=Qp Zo;cases hc;have Qu:=@Hi;have Qz:=@Vf;have Qs:=@cV;have Q0:=@U8;have Q6:=@Kg;have Q5:=@Zxe;have Ja:=@Zxd;have Kq:Kah:=⟨⟩;exact Nj
structure Node where
 kind:Int
 name:List UInt8
 n:Int
 deriving DecidableEq
instance encNode:Enc Node:=⟨fun a=>.agg [.int .i64 a.kind,.str a.name,.int .i64 a.n],fun x=>match x with
 | .agg [a,b,c]=>⟨a.i,b.s,c.i⟩
 | _=>⟨0,[],0⟩,fun a=>rfl⟩
instance szNode:Sz Node:=⟨3⟩
theorem Wt:Sz.sz Node=3:=rfl
theorem Zt {n:Node}:(enc n:D)=.agg [.int .i64 n.kind,.str n.name,.int .i64 n.n]:=rfl
theorem Zu {a:Int} {b:List UInt8} {c:Int}:(dec (.agg [.int .i64 a,.str b,.int .i64 c]):Node)=⟨a,b,c⟩:=rfl
theorem Zr {a:Int} {b:List UInt8} {c:Int}:Tu Node (.agg [.int .i64 a,.str b,.int .i64 c])=True:=eq_true rfl
theorem Zs {a b:Node}:((a.kind==b.kind)&&((a.name==b.name)&&(a.n==b.n)))=(a==b):=by
 rw [Bool.eq_iff_iff];cases a;cases b;simp
theorem Zp {n:Node}:Node.mk n.kind n.name n.n=n:=rfl
def Wa (n:Node):Int:=if n.kind=5 then 2 else if n.kind=6∨n.kind=7 then n.n else 0
def Gd:Con:=Xd (fun (_:Node)=>True) (fun n=>Wa n)
class Kai:Prop
theorem Kai.k (_:Kai) (h:p:=by
 unfold Wa;refine ⟨fun h=>by rw [if_pos h],fun h=>⟨fun h6=>⟨fun h7=>by rw [if_neg h,if_pos (.inr h7)],fun h7=>by rw [if_neg h,if_neg (by omega)]⟩,fun h6=>by rw [if_neg h,if_pos (.inl h6)]⟩⟩):p:=h
theorem good_many3:Jc Tryz.prog (140,Gd):=by
 obtain ⟨Kx,Kt,Kc,Kd,Kb,Ku,Kw,K,_⟩:=W5 Qj Z0 [] false W4;have Ko:=Gd.eq_def;refine Yv K Tryz.func140 [.tmp 2] rfl 16 rfl (fun c hc Jj Zo=>?_);unfold Gd at Zo;obtain ⟨n,rfl,-⟩:=Qp Zo;cases hc;have Qu:=@Zt;have Qz:=@Zr;have Qs:=@Zu;have Q0:=@Zp;have Q6:=@Wt;have Q5:=@Zs;have Kq:Kai:=⟨⟩;exact Nj
def Y1 (n:Node):Bool :=
 if n.kind=0∨n.kind=8∨n.kind=9 then decide (0≤n.n)
 else if 1≤n.kind∧n.kind≤5 then decide (n.n=0)
 else if n.kind=6 then decide (0≤n.n)&&decide (n.n≤50)
 else if n.kind=7 then decide (1≤n.n)&&decide (n.n≤50)
 else false
def Gp:Con:=Xd (fun (_:Node)=>True) (fun n=>Y1 n)
class Kaj:Prop
theorem Kaj.k (_:Kaj) (h:p:=by
 unfold Y1;repeat' first|exact Lz|with_reducible apply Z3|intro _
 all_goals repeat (first|rw [if_pos (by omega)]|rw [if_neg (by omega)])
 all_goals try unfold Ju
 all_goals try unfold Jw
 all_goals rw [Bool.eq_iff_iff]
 all_goals simp only [Ze,Bool.or_eq_true,decide_eq_true_eq,Zi,Zl,iff_self,false_iff,iff_false,true_iff,iff_true]
 all_goals omega):p:=h
theorem good_numbered3:Jc Tryz.prog (103,Gp):=by
 obtain ⟨Kx,Kt,Kc,Kd,Kb,Ku,Kw,K,_⟩:=W5 Qj Z0 [] false W4;have Ko:=Gp.eq_def;refine Yv K Tryz.func103 [.tmp 2] rfl 41 rfl (fun c hc Jj Zo=>?_);unfold Gp at Zo;obtain ⟨n,rfl,-⟩:=Qp Zo;cases hc;refine Kn 2 ?_;have Qu:=@Zt;have Qz:=@Zr;have Qs:=@Zu;have Q0:=@Zp;have Q6:=@Wt;have Q5:=@Zs;have Kq:Kaj:=⟨⟩;exact Nj
def kX:List Node→Int→Nat
 | [],_=>0
 | n::l,o=>if o-1+Wa n=0 then 1 else 1+kX l (o-1+Wa n)
def Ed (t:List Node) (i:Int):Int:=if i<0∨(t.length:Int)≤i then -1 else i+kX (t.drop i.toNat) 1
def rG (t:List Node):Prop:=t.length≤20000000∧∀ n∈t,0≤Wa n∧Wa n≤50
def Td:Con:=Vy (fun (t:Sl Node) (i:Int)=>rG t.l∧eD .i64 i) (fun t i=>Ed t.l i)
class Kal:Prop
theorem Kal.k (_:Kal) (h:p:=by
 repeat' first|exact Lz|with_reducible apply Z3|intro _
 ·rename_i hz;rw [if_pos hz] at he;rw [e0];omega
 ·rename_i hz;rw [if_neg hz] at he;exact ⟨(k+1,o-1+Wa (t.getD k ⟨0,[],0⟩)),by exact J0,by simp only;omega,by simp only;omega,by simp only;omega,by simp only;omega,by simp only;omega,by simp only;omega⟩):p:=h
class Kam:Prop
theorem Kam.k (_:Kam) (h:p:=by
 rw [e0];omega):p:=h
class Kak:Prop
theorem Kak.k (_:Kak) (h:p:=by
 repeat' first|exact Lz|with_reducible apply Z3|intro _
 ·unfold Ed;rw [if_pos (.inr ‹_›)]
 ·obtain ⟨i,rfl⟩:∃ n:Nat,i=n:=⟨i.toNat,by omega⟩
  have L4:i<t.length:=by omega
  have e0:Ed t i=i+kX (t.drop i) 1:=by
   unfold Ed;rw [if_neg (by omega)]
   rfl
  refine Z1 [4,16,17,18,19,20,21,22,23,24,25,26,27,28,29,30,31,32,33] (fun p:Nat×Int=>[(5,.d (.int .i64 p.2)),(6,.d (.int .i64 p.1))]) (fun p:Nat×Int=>[]) (fun p:Nat×Int=>i≤p.1∧p.1≤t.length∧1≤p.2∧p.2≤1+50*p.1∧i+kX (t.drop i) 1=p.1+kX (t.drop p.1) p.2) (fun p:Nat×Int=>t.length-p.1) (i,1) ?_ ?_ ?_
  ·exact ⟨Zk _,by simp only;omega,by simp,by simp only;omega,rfl⟩
  ·exact J0
  rintro ⟨k,o⟩ ⟨h1,h2,h3,h4,h5⟩;simp only at h1 h2 h3 h4 h5;rcases Z5 k t.length with ⟨Qd,Qu⟩|⟨Qd,Qu⟩
  ·have Zbf:=hm (t.getD k ⟨0,[],0⟩) (by simp [Qd])
   have he:kX (t.drop k) o=if o-1+Wa (t.getD k ⟨0,[],0⟩)=0 then 1 else 1+kX (t.drop (k+1)) (o-1+Wa (t.getD k ⟨0,[],0⟩)):=by
    rw [List.drop_eq_getElem_cons Qd,kX];simp [Qd]
   have Qz:=Z9 (⟨0,[],0⟩:Node) Qd;have Qs:=@Zt;have Q0:=@Zr;have Q6:=@Zu;have Q5:=@Zp;have Ja:=@Wt;have Jq:=@Zs;have Kq:Kal:=⟨⟩;exact Nj
  ·have hd:t.drop k=[]:=List.drop_eq_nil_of_le Qd;rw [hd,kX] at h5;have Qs:=@Zt;have Q0:=@Zr;have Q6:=@Zu;have Q5:=@Zp;have Ja:=@Wt;have Jq:=@Zs;have Kq:Kam:=⟨⟩;exact Nj
 ·unfold Ed;rw [if_pos (.inl ‹_›)]):p:=h
theorem good_End3:Jc Tryz.prog (104,Td):=by
 obtain ⟨Kx,Kt,Kc,Kd,Kb,Ku,Kw,K,Y6,_⟩:=W5 Qj Z0 [] false (Xa good_many3 Gd.eq_def W4);have Ko:=Td.eq_def;refine Yv K Tryz.func104 [.tmp 4] rfl 36 rfl (fun c hc Jj Zo=>?_);unfold Td at Zo;obtain ⟨⟨t⟩,i,rfl,⟨ht,hm⟩,hi⟩:=Jd Zo;simp only at ht hm;rw [Qn] at hi;cases hc;refine Kn 2 ?_;have Qs:=@Zt;have Q0:=@Zr;have Q6:=@Zu;have Q5:=@Zp;have Ja:=@Wt;have Jq:=@Zs;have Kq:Kak:=⟨⟩;exact Nj
def Sq (t:List Node):Bool:=t.all fun n=>n.kind != 8&&n.kind != 9
def B7:Con:=Xd (fun (t:Sl Node)=>t.l.length≤9223372036854775807) (fun t=>Sq t.l)
class Kao:Prop
theorem Kao.k (_:Kao) (h:p:=by
 have Xm:((t.getD k ⟨0,[],0⟩).kind != 8&&(t.getD k ⟨0,[],0⟩).kind != 9)=false→false=Sq t:=by
  intro h;unfold Sq;rw [Rn (p:=fun n:Node=>n.kind != 8&&n.kind != 9) ⟨0,[],0⟩ k Qd h]
 repeat' first|exact Lz|with_reducible apply Z3|intro _
 ·rename_i h8 h9;exact Xm (by rw [h9];simp)
 ·rename_i h8 h9;refine ⟨k+1,by exact J0,by omega,fun j hj=>?_,by omega⟩
  by_cases Ay:j=k
  ·subst Ay;simp only [bne_iff_ne,ne_eq,Ze];exact ⟨h8,h9⟩
  ·exact Yx j (by omega)
 ·rename_i h8;exact Xm (by rw [h8];simp)):p:=h
class Kap:Prop
theorem Kap.k (_:Kap) (h:p:=by
 unfold Sq;rw [P4 (p:=fun n:Node=>n.kind != 8&&n.kind != 9) ⟨0,[],0⟩ fun j hj=>Yx j (by omega)]):p:=h
class Kan:Prop
theorem Kan.k (_:Kan) (h:p:=by
 refine Z1 [2,4,5,6,7,8,9,10,11,12,13,14,15,16,17,18,19,20,21,22,23] (fun k:Nat=>[(3,.d (.int .i64 k))]) (fun k:Nat=>[]) (fun k:Nat=>k≤t.length∧∀ j,j<k→((t.getD j ⟨0,[],0⟩).kind != 8&&(t.getD j ⟨0,[],0⟩).kind != 9)=true) (fun k:Nat=>t.length-k) 0 ?_ ?_ ?_
 ·simp
 ·exact J0
 rintro k ⟨hk,Yx⟩;rcases Z5 k t.length with ⟨Qd,Qu⟩|⟨Qd,Qu⟩
 ·have Qz:=Z9 (⟨0,[],0⟩:Node) Qd;have Qs:=@Zt;have Q0:=@Zr;have Q6:=@Zu;have Q5:=@Zp;have Ja:=@Wt;have Jq:=@Zs;have Kq:Kao:=⟨⟩;exact Nj
 ·have Qs:=@Zt;have Q0:=@Zr;have Q6:=@Zu;have Q5:=@Zp;have Ja:=@Wt;have Jq:=@Zs;have Kq:Kap:=⟨⟩;exact Nj):p:=h
theorem good_Plain3:Jc Tryz.prog (86,B7):=by
 obtain ⟨Kx,Kt,Kc,Kd,Kb,Ku,Kw,K,_⟩:=W5 Qj Z0 [] false W4;have Ko:=B7.eq_def;refine Yv K Tryz.func86 [.tmp 2] rfl 24 rfl (fun c hc Jj Zo=>?_);unfold B7 at Zo;obtain ⟨⟨t⟩,rfl,ht⟩:=Qp Zo;simp only at ht;cases hc;have Qs:=@Zt;have Q0:=@Zr;have Q6:=@Zu;have Q5:=@Zp;have Ja:=@Wt;have Jq:=@Zs;have Kq:Kan:=⟨⟩;exact Nj
def Uj (n:Node):Node:=if n.kind=0 then { n with n:=0 } else n
def Hn (a b:List Node):Bool:=a.map Uj==b.map Uj
def Cj:Con:=Vy (fun (a b:Sl Node)=>a.l.length≤9223372036854775807∧b.l.length≤9223372036854775807) (fun a b=>Hn a.l b.l)
class Kar:Prop
theorem Kar.k (_:Kar) (h:p:=by
 revert X5 Xm;generalize a.getD k ⟨0,[],0⟩=x;generalize b.getD k ⟨0,[],0⟩=y;intro X5 Xm;repeat' first|exact Lz|with_reducible apply Z3|intro _
 ·kernel_rfl
 all_goals first|(refine Xm (fun e=>?_);revert e;clear X5 Xm Yx;cases x;cases y;simp_all [Uj];done)|exact ⟨k+1,by exact J0,by omega,X5 (by clear X5 Xm Yx;cases x;cases y;simp_all [Uj]),by omega⟩):p:=h
class Kas:Prop
theorem Kas.k (_:Kas) (h:p:=by
 symm;unfold Hn;rw [Zi];refine List.ext_getElem (by simp [Js]) fun j h1 h2=>?_
 rw [Qq] at h1 h2;have:=Yx j (by omega)
 simpa [h1,h2] using this):p:=h
class Kaq:Prop
theorem Kaq.k (_:Kaq) (h:p:=by
 refine ⟨fun Gk=>?_,fun eX=>?_⟩
 ·symm;unfold Hn;rw [Za];intro h;have:=congrArg List.length h;rw [Qq,Qq] at this;exact Gk (by rw [this])
 have Js:a.length=b.length:=by omega
 refine Z1 [4,6,7,13,14,15,16,17,18,19,20,21,22,23,24,25,26,27,28,29,30,31,32,33,34,35,36,37] (fun k:Nat=>[(5,.d (.int .i64 k))]) (fun k:Nat=>[]) (fun k:Nat=>k≤a.length∧∀ j,j<k→Uj (a.getD j ⟨0,[],0⟩)=Uj (b.getD j ⟨0,[],0⟩)) (fun k:Nat=>a.length-k) 0 ?_ ?_ ?_
 ·simp
 ·exact J0
 rintro k ⟨hk,Yx⟩;rcases Z5 k a.length with ⟨Qd,Qu⟩|⟨Qd,Qu⟩
 ·have X5:Uj (a.getD k ⟨0,[],0⟩)=Uj (b.getD k ⟨0,[],0⟩)→∀ j,j<k+1→Uj (a.getD j ⟨0,[],0⟩)=Uj (b.getD j ⟨0,[],0⟩):=by
   intro h j hj;by_cases Ay:j=k
   ·subst Ay;exact h
   ·exact Yx j (by omega)
  have Xm:Uj (a.getD k ⟨0,[],0⟩)≠Uj (b.getD k ⟨0,[],0⟩)→false=Hn a b:=by
   intro h;symm;unfold Hn;rw [Za];intro e;apply h;have h1:(a.map Uj).getD k ⟨0,[],0⟩=(b.map Uj).getD k ⟨0,[],0⟩:=by rw [e]
   simpa [Qd,show k<b.length by omega] using h1
  have Qz:=Z9 (⟨0,[],0⟩:Node) Qd;have Qs:=Z9 (⟨0,[],0⟩:Node) (show k<b.length by omega)
  have Q0:=@Zt;have Q6:=@Zr;have Q5:=@Zu;have Ja:=@Zp;have Jq:=@Wt;have Q9:=@Zs;have Kq:Kar:=⟨⟩;exact Nj
 ·have Q0:=@Zt;have Q6:=@Zr;have Q5:=@Zu;have Ja:=@Zp;have Jq:=@Wt;have Q9:=@Zs;have Kq:Kas:=⟨⟩;exact Nj):p:=h
theorem good_Same3:Jc Tryz.prog (38,Cj):=by
 obtain ⟨Kx,Kt,Kc,Kd,Kb,Ku,Kw,K,_⟩:=W5 Qj Z0 [] false W4;have Ko:=Cj.eq_def;refine Yv K Tryz.func38 [.tmp 4] rfl 38 rfl (fun c hc Jj Zo=>?_);unfold Cj at Zo;obtain ⟨⟨a⟩,⟨b⟩,rfl,ha,hb⟩:=Jd Zo;simp only at ha hb;cases hc;refine Kn 2 ?_;have Q0:=@Zt;have Q6:=@Zr;have Q5:=@Zu;have Ja:=@Zp;have Jq:=@Wt;have Q9:=@Zs;have Kq:Kaq:=⟨⟩;exact Nj
theorem Zag:∀ (l:List Node) (o:Int),kX l o≤l.length
 | [],o=>by simp [kX]
 | n::l,o=>by
  simp only [kX];split
  ·simp
  ·have:=Zag l (o-1+Wa n);simp only [Zf];omega
def Xh (t:List Node):Nat→Nat→List Int
 | 0,_=>[]
 | m+1,at_=>if at_<t.length then (at_:Int)::Xh t m (at_+kX (t.drop at_) 1) else []
def G4 (t:List Node) (i:Int):List Int:=if i<0∨(t.length:Int)≤i then [] else Xh t (Wa (t.getD i.toNat ⟨0,[],0⟩)).toNat (i.toNat+1)
def Cl:Con:=Vy (fun (t:Sl Node) (i:Int)=>rG t.l∧eD .i64 i) (fun t i=>Sl.mk (G4 t.l i))
class Kau:Prop
theorem Kau.k (_:Kau) (h:p:=by
 refine ⟨(k+1,q+kX (t.drop q) 1,out++[(q:Int)]),by exact J0,by simp only;omega,by simp only;omega,by simp [h3],?_,by simp only;omega⟩
 simp only;rw [←h4,show M-(k+1)=M-k-1 by omega]
 simp):p:=h
class Kav:Prop
theorem Kav.k (_:Kav) (h:p:=by
 rw [e0,h4]):p:=h
class Kaw:Prop
theorem Kaw.k (_:Kaw) (h:p:=by
 rw [e0,h4]):p:=h
class Kat:Prop
theorem Kat.k (_:Kat) (h:p:=by
 repeat' first|exact Lz|with_reducible apply Z3|intro _
 ·unfold G4;rw [if_pos (.inr ‹_›)];rfl
 ·obtain ⟨i,rfl⟩:∃ n:Nat,i=n:=⟨i.toNat,by omega⟩
  have L4:i<t.length:=by omega
  have Zsw:=hm (t.getD i ⟨0,[],0⟩) (by simp [L4])
  obtain ⟨M,Qs⟩:∃ M:Nat,Wa (t.getD i ⟨0,[],0⟩)=M:=⟨(Wa (t.getD i ⟨0,[],0⟩)).toNat,by omega⟩
  have e0:G4 t i=Xh t M (i+1):=by
   unfold G4;rw [if_neg (by omega)]
   simp only [Zn,Qs]
  refine Z1 [20,21,22,23,24,25,26,27,28,29,30,31,32,33,34,35,36,37,38,39,40,41] (fun p:Nat×Nat×List Int=>[(5,.sl 8 (p.2.2.map enc).length),(6,.d (.int .i64 p.2.1)),(7,.d (.int .i64 p.1))]) (fun p:Nat×Nat×List Int=>[(8,.row 1 (p.2.2.map enc) 0)]) (fun p:Nat×Nat×List Int=>p.1≤M∧p.2.1≤t.length∧p.2.2.length=p.1∧p.2.2++Xh t (M-p.1) p.2.1=Xh t M (i+1)) (fun p:Nat×Nat×List Int=>M-p.1) (0,i+1,[]) ?_ ?_ ?_
  ·exact ⟨Nat.zero_le _,L4,rfl,rfl⟩
  ·exact J0
  rintro ⟨k,q,out⟩ ⟨h1,h2,h3,h4⟩;simp only at h1 h2 h3 h4;rcases Z5 k M with ⟨hk,Qu⟩|⟨hk,Qu⟩
  ·rcases Z5 q t.length with ⟨hq,Qz⟩|⟨hq,Qz⟩
   ·have e1:M-k=(M-k-1)+1:=by omega
    rw [e1,Xh,if_pos hq] at h4;have Pj:=Zag (t.drop q) 1;rw [List.length_drop] at Pj;have Q0:Ed t q=((q+kX (t.drop q) 1:Nat):Int):=by
     unfold Ed;rw [if_neg (by omega)]
     simp
    have hT:rG t:=⟨ht,hm⟩;have Q6:=Z9 (⟨0,[],0⟩:Node) L4;have Jq:=@Zt;have Q9:=@Zr;have Je:=@Zu;have Qe:=@Zp;have Qc:=@Wt;have Qg:=@Zs;have Kq:Kau:=⟨⟩;exact Lj
   ·have hz:Xh t (M-k) q=[]:=by
     cases hc:M-k with
     | zero=>rfl
     | succ c=>rw [Xh,if_neg (by omega)]
    rw [hz,List.append_nil] at h4;have Q5:=Z9 (⟨0,[],0⟩:Node) L4;have Jq:=@Zt;have Q9:=@Zr;have Je:=@Zu;have Qe:=@Zp;have Qc:=@Wt;have Qg:=@Zs;have Kq:Kav:=⟨⟩;exact Lj
  ·have hz:Xh t (M-k) q=[]:=by
    rw [show M-k=0 by omega]
    rfl
   rw [hz,List.append_nil] at h4;have Ja:=Z9 (⟨0,[],0⟩:Node) L4;have Jq:=@Zt;have Q9:=@Zr;have Je:=@Zu;have Qe:=@Zp;have Qc:=@Wt;have Qg:=@Zs;have Kq:Kaw:=⟨⟩;exact Lj
 ·unfold G4;rw [if_pos (.inl ‹_›)];rfl):p:=h
theorem good_Kids3:Jc Tryz.prog (118,Cl):=by
 obtain ⟨Kx,Kt,Kc,Kd,Kb,Ku,Kw,K,Y6,P7,_⟩:=W5 Qj Z0 [] false (Xa good_End3 Td.eq_def (Xa good_many3 Gd.eq_def W4));have Ko:=Cl.eq_def;refine Yv K Tryz.func118 [.tmp 4] rfl 43 rfl (fun c hc Jj Zo=>?_);unfold Cl at Zo;obtain ⟨⟨t⟩,i,rfl,⟨ht,hm⟩,hi⟩:=Jd Zo;simp only at ht hm;rw [Qn] at hi;cases hc;refine Kn 2 ?_;have Jq:=@Zt;have Q9:=@Zr;have Je:=@Zu;have Qe:=@Zp;have Qc:=@Wt;have Qg:=@Zs;have Kq:Kat:=⟨⟩;exact Nj
def Mc:Int→List Int→List Int
 | x,[]=>if x=0 then [] else [x]
 | x,y::r=>if x=0 then Mc (y-1) r else x::y::r
def uR:List Int→List Int
 | []=>[]
 | x::r=>Mc x r
def Oj:List Node→List Int→Bool
 | [],_=>true
 | n::l,rs=>if 100≤rs.length then false else Oj l (Mc (Wa n) rs)
def Nn (t:List Node):Bool:=Oj t []
def Zom (rs:List Int):Prop:=(∀ x∈rs,0≤x∧x≤50)∧∀ x∈rs.tail,1≤x
theorem Ev {x:Int} {r:List Int}:el ((x::r).reverse.map enc) r.length=.int .i64 x:=by
 simp [el]
theorem lT {x:Int} {r:List Int}:((x::r).reverse.map (enc:Int→D)).take r.length=r.reverse.map enc:=by
 rw [List.reverse_cons,List.map_append,List.take_left' (by simp)]
theorem Mj {x y:Int} {r:List Int}:((x::r).reverse.map (enc:Int→D)).set r.length (.int .i64 y)=(y::r).reverse.map enc:=by
 rw [List.reverse_cons,List.map_append,List.set_append];simp
theorem H8 {x:Int} {r:List Int} (h:x≠0):Mc x r=x::r:=by
 cases r<;>simp [Mc,h]
def Hv:Con:=Xd (fun (t:Sl Node)=>rG t.l) (fun t=>Nn t.l)
class Kaz:Prop
theorem Kaz.k (_:Kaz) (h:p:=by
 simp only [uR] at g4;exact ⟨(k+1,[]),by exact J0,by simp only;omega,by simp,by simp,by simp only;rw [←h4,e1,g4],by simp only;omega⟩):p:=h
class KaA:Prop
theorem KaA.k (_:KaA) (h:p:=by
 exact ⟨[],by exact J0,⟨by simp,by simp⟩,by simp,by rw [←g4];rfl,by simp⟩):p:=h
class KaB:Prop
theorem KaB.k (_:KaB) (h:p:=by
 refine ⟨(y-1)::r,by exact J0,⟨fun z Qs=>?_,fun z Qs=>g2 z (List.mem_cons_of_mem _ Qs)⟩,by simp only [Zf];omega,by rw [←g4];simp only [uR,Mc,if_true],by simp only [Zf];omega⟩
 rcases Zm.1 Qs with rfl|Qs
 ·omega
 ·exact g1 z (List.mem_cons_of_mem _ (List.mem_cons_of_mem _ Qs))):p:=h
class KaC:Prop
theorem KaC.k (_:KaC) (h:p:=by
 have e3:Mc M rs=x::r:=by rw [←g4];exact H8 Zoq
 refine ⟨(k+1,x::r),by exact J0,by simp only;omega,by simp only [Zf];omega,fun z Qs=>?_,by simp only;rw [←h4,e1,e3],by simp only;omega⟩
 rcases Zm.1 Qs with rfl|Qs
 ·omega
 ·exact ⟨g2 z Qs,(g1 z (List.mem_cons_of_mem _ Qs)).2⟩):p:=h
class Kay:Prop
theorem Kay.k (_:Kay) (h:p:=by
 revert e1 Zbf;generalize Wa (t.getD k ⟨0,[],0⟩)=M;intro Zbf e1;repeat' first|exact Lz|with_reducible apply Z3|intro _
 ·rw [if_pos (by omega)] at e1
  rw [←h4,e1]
 ·rw [if_neg (by omega)] at e1
  have e2:rs.reverse++[M]=(M::rs).reverse:=by simp
  have hS:∀ (q:List Int),q≠[]→((q.length:Nat):Int)-1=((q.length-1:Nat):Int):=by
   intro q hq;have:=List.length_pos_iff.2 hq;omega
  refine Z1 [23,24,25,26,27,28,29,30,31,32,33,34,35,36,37,38,39,40,41,42,43,44,45,46,47,48,49,50] (fun q:List Int=>[(3,.sl 5 (q.reverse.map enc).length),(5,.dead),(12,.dead),(15,.dead),(22,.dead)]) (fun q:List Int=>[(5,.row 1 (q.reverse.map enc) 0)]) (fun q:List Int=>Zom q∧q.length≤101∧uR q=Mc M rs) (fun q:List Int=>q.length) (M::rs) ?_ ?_ ?_
  ·refine ⟨⟨fun x hx=>?_,fun x hx=>(h3 x hx).1⟩,by simp only [Zf];omega,rfl⟩
   rcases Zm.1 hx with rfl|hx
   ·exact Zbf
   ·have:=h3 x hx;omega
  ·exact J0
  rintro q ⟨⟨g1,g2⟩,g3,g4⟩;cases q with
  | nil =>
   have Qs:Jw 0 ((0:Nat):Int)=false:=rfl;have Qc:=@List.length_reverse.{0};have Qg:=@List.reverse_nil.{0};have Qi:=@Zt;have Qh:=@Zr;have Qa:=@Zu;have Z2:=@Zp;have Z7:=@Wt;have Qk:=@Zs;have Kq:Kaz:=⟨⟩;exact Lj
  | cons x r =>
   have Qs:Jw 0 ((r.length+1:Nat):Int)=true:=by rw [Xs];omega
   have Q0:((r.length+1:Nat):Int)-1=(r.length:Int):=by omega
   have oU:=g1 x (by simp)
   have Q6:el (List.map enc (x::r).reverse) r.length=.int .i64 x:=Ev;have Q5:List.take r.length (List.map (enc:Int→D) (x::r).reverse)=List.map enc r.reverse:=lT;simp only [Zf] at g3;by_cases Zoq:x=0
   ·subst Zoq;cases r with
    | nil =>
     have Ja:Jw 0 ((0:Nat):Int)=false:=rfl;simp only [List.length_nil] at Qs Q0 Q6 Q5;have Qc:=@List.length_reverse.{0};have Qg:=@List.reverse_nil.{0};have Qi:=@Zt;have Qh:=@Zr;have Qa:=@Zu;have Z2:=@Zp;have Z7:=@Wt;have Qk:=@Zs;have Kq:KaA:=⟨⟩;exact Lj
    | cons y r =>
     have Zyl:=g2 y (by simp)
     have Zyk:=g1 y (by simp)
     have Jq:Jw 0 ((r.length+1:Nat):Int)=true:=by rw [Xs];omega
     have Q9:((r.length+1:Nat):Int)-1=(r.length:Int):=by omega
     have Je:el (List.map enc (y::r).reverse) r.length=.int .i64 y:=Ev;simp only [Zf] at Qs Q0 Q6 Q5 g3;have Qc:=@List.length_reverse.{0};have Qg:=@Mj;have Qi:=@Zt;have Qh:=@Zr;have Qa:=@Zu;have Z2:=@Zp;have Z7:=@Wt;have Qk:=@Zs;have Kq:KaB:=⟨⟩;exact Lj
   ·have Qe:(x==(0:Int))=false:=by simpa using Zoq
    have Qc:=@List.length_reverse.{0};have Qg:=@Zt;have Qi:=@Zr;have Qh:=@Zu;have Qa:=@Zp;have Z2:=@Wt;have Z7:=@Zs;have Kq:KaC:=⟨⟩;exact Lj):p:=h
class KaD:Prop
theorem KaD.k (_:KaD) (h:p:=by
 rw [←h4,List.drop_eq_nil_of_le Qd];rfl):p:=h
class Kax:Prop
theorem Kax.k (_:Kax) (h:p:=by
 refine Z1 [2,6,7,8,9,10,11,12,13,14,15,16,17,18,19,20,21,22,23,24,25,26,27,28,29,30,31,32,33,34,35,36,37,38,39,40,41,42,43,44,45,46,47,48,49,50] (fun p:Nat×List Int=>[(3,.sl 5 (p.2.reverse.map enc).length),(4,.d (.int .i64 p.1)),(5,.dead)]) (fun p:Nat×List Int=>[(5,.row 1 (p.2.reverse.map enc) 0)]) (fun p:Nat×List Int=>p.1≤t.length∧p.2.length≤101∧(∀ x∈p.2,1≤x∧x≤50)∧Oj (t.drop p.1) p.2=Nn t) (fun p:Nat×List Int=>t.length-p.1) (0,[]) ?_ ?_ ?_
 ·exact ⟨Nat.zero_le _,by simp,by simp,rfl⟩
 ·exact J0
 rintro ⟨k,rs⟩ ⟨h1,h2,h3,h4⟩;simp only at h1 h2 h3 h4;rcases Z5 k t.length with ⟨Qd,Qu⟩|⟨Qd,Qu⟩
 ·have Zbf:=hm (t.getD k ⟨0,[],0⟩) (by simp [Qd])
  have e1:Oj (t.drop k) rs=if 100≤rs.length then false else Oj (t.drop (k+1)) (Mc (Wa (t.getD k ⟨0,[],0⟩)) rs):=by
   rw [List.drop_eq_getElem_cons Qd,Oj];simp [Qd]
  have Qz:=Z9 (⟨0,[],0⟩:Node) Qd;have Qc:=@List.length_reverse.{0};have Qg:=@Zt;have Qi:=@Zr;have Qh:=@Zu;have Qa:=@Zp;have Z2:=@Wt;have Z7:=@Zs;have Kq:Kay:=⟨⟩;exact Nj
 ·have Qc:=@Zt;have Qg:=@Zr;have Qi:=@Zu;have Qh:=@Zp;have Qa:=@Wt;have Z2:=@Zs;have Kq:KaD:=⟨⟩;exact Nj):p:=h
theorem good_shallow3:Jc Tryz.prog (105,Hv):=by
 obtain ⟨Kx,Kt,Kc,Kd,Kb,Ku,Kw,K,Y6,_⟩:=W5 Qj Z0 [39] false (Xa good_many3 Gd.eq_def W4);have Ko:=Hv.eq_def;refine Yv K Tryz.func105 [.tmp 2] rfl 51 rfl (fun c hc Jj Zo=>?_);unfold Hv at Zo;obtain ⟨⟨t⟩,rfl,⟨ht,hm⟩⟩:=Qp Zo;simp only at ht hm;cases hc;refine Kn 3 ?_;have Qc:=@Zt;have Qg:=@Zr;have Qi:=@Zu;have Qh:=@Zp;have Qa:=@Wt;have Z2:=@Zs;have Kq:Kax:=⟨⟩;exact Nj
abbrev n0:Node:=⟨0,[],0⟩
def Ak (n:Node):Bool:=n.kind==6||n.kind==7
def jG (p x prev:Node) (pos last:Bool):Bool :=
 cond (x.kind==9) (Ak p&&(last&&x.name==[]))
  (!((p.kind==6&&!J4 x.name)||(p.kind==7&&!K1 x.name))&&(!(!Ak p&&!(x.name==[]))&&!(Ak p&&(pos&&!Op.bytesLess prev.name x.name))))
def Pw (t:List Node) (l:List Int) (k:Nat):Node:=t.getD (l.getD k 0).toNat n0
def Db (t:List Node) (i:Nat) (l:List Int) (k:Nat):Bool:=jG (t.getD i n0) (Pw t l k) (Pw t l (k-1)) (Jw 0 k) ((k:Int)==(l.length:Int)-1)
def Sw (t:List Node) (i:Nat):Bool:=(((G4 t i).length:Int)==Wa (t.getD i n0))&&(List.range (G4 t i).length).all fun k=>Db t i (G4 t i) k
def P6 (t:List Node):Prop:=∀ n∈t,n.name.length≤9223372036854775807
theorem I4 (t:List Node):∀ (m q:Nat),∀ x∈Xh t m q,(q:Int)≤x∧x<t.length
 | 0,q,x,hx=>by simp [Xh] at hx
 | m+1,q,x,hx=>by
  unfold Xh at hx;split at hx
  ·rcases Zm.1 hx with rfl|hx
   ·omega
   ·have:=I4 t m _ x hx;omega
  ·cases hx
theorem zL {t:List Node} {i:Nat}:∀ x∈G4 t i,(i:Int)<x∧x<t.length:=by
 intro x hx;unfold G4 at hx;split at hx
 ·cases hx
 ·have:=I4 t _ _ x hx;omega
theorem Fb (t:List Node):∀ (m q:Nat),(Xh t m q).length≤m
 | 0,q=>by simp [Xh]
 | m+1,q=>by
  unfold Xh;split
  ·simp only [Zf];have:=Fb t m (q+kX (t.drop q) 1);omega
  ·simp
def Gt:Con:=Vy (fun (t:Sl Node) (i:Int)=>rG t.l∧P6 t.l∧0≤i∧i<t.l.length) (fun t i=>Sw t.l i.toNat)
class KaF:Prop
theorem KaF.k (_:KaF) (h:p:=by
 first|exact Xm (by clear X5 Xm eX oN hlab' Yx;simp_all [jG,Ak,Jw])|exact ⟨k+1,by exact J0,by omega,X5 (by clear X5 Xm eX oN hlab' Yx;simp_all [jG,Ak,Jw]),by omega⟩):p:=h
class KaG:Prop
theorem KaG.k (_:KaG) (h:p:=by
 rw [hlab',eq_comm,List.all_eq_true];intro j hj;exact Yx j (by have:=List.mem_range.1 hj;omega)):p:=h
class KaE:Prop
theorem KaE.k (_:KaE) (h:p:=by
 repeat' first|exact Lz|with_reducible apply Z3|intro _
 ·rename_i Gk;rw [oN];rw [show ((l.length:Int)==Wa (t.getD i n0))=false by simpa using Gk]
  rfl
 ·rename_i eX;have hlab':Sw t i=(List.range l.length).all fun k=>Db t i l k:=by
   rw [oN,show ((l.length:Int)==Wa (t.getD i n0))=true by simpa using eX]
   rfl
  refine Z1 [4,7,8,9,21,22,23,24,25,26,27,28,29,30,31,32,33,34,35,36,37,38,39,40,41,42,43,44,45,46,47,48,49,50,51,52,53,54,55,56,57,58,59,60,61,62,63,64,65,66,67,68,69,70,71,72,73,74,75,76,77,78,79,80,81,82,83,84,85,86,87,88,89,90,91,92,93,94,95,96,97,98,99,100,101,102,103,104,105,106,107,108,109,110,111,112,113,114,115,116,117,118,119,120,121,122] (fun k:Nat=>[(6,.d (.int .i64 k))]) (fun k:Nat=>[]) (fun k:Nat=>k≤l.length∧∀ j,j<k→Db t i l j=true) (fun k:Nat=>l.length-k) 0 ?_ ?_ ?_
  ·simp
  ·exact J0
  rintro k ⟨hk,Yx⟩;rcases Z5 k l.length with ⟨Qd,Qs⟩|⟨Qd,Qs⟩
  ·have uQ:=Em (l.getD k 0) (by simp [Qd])
   have lJ:(l.getD k 0).toNat<t.length:=by omega
   have Zt0:=hN (Pw t l k) (by
    show t.getD _ n0∈t;rw [Zg,Zd lJ];exact List.getElem_mem lJ)
   have X5:Db t i l k=true→∀ j,j<k+1→Db t i l j=true:=by
    intro h j hj;by_cases Ay:j=k
    ·subst Ay;exact h
    ·exact Yx j (by omega)
   have Xm:Db t i l k=false→false=Sw t i:=by
    intro h;rw [hlab',eq_comm,Bool.eq_false_iff];intro hc;rw [List.all_eq_true] at hc;have:=hc k (List.mem_range.2 Qd);rw [h] at this;cases this
   have Je:t.getD (l.getD k 0).toNat ⟨0,[],0⟩=Pw t l k:=rfl;have X5:jG (t.getD i n0) (Pw t l k) (Pw t l (k-1)) (Jw 0 k) ((k:Int)==(l.length:Int)-1)=true→∀ j,j<k+1→Db t i l j=true:=X5;have Xm:jG (t.getD i n0) (Pw t l k) (Pw t l (k-1)) (Jw 0 k) ((k:Int)==(l.length:Int)-1)=false→false=Sw t i:=Xm;have Qi:t.getD (l.getD (k-1) 0).toNat ⟨0,[],0⟩=Pw t l (k-1):=rfl;obtain ⟨x,hx⟩:=exq (Pw t l k);obtain ⟨prev,Zxt⟩:=exq (Pw t l (k-1));obtain ⟨p,hp⟩:=exq (t.getD i n0);rw [hx,Zxt,hp] at X5 Xm;rw [hx] at Zt0 Je;rw [Zxt] at Qi;have Q0:t.getD i ⟨0,[],0⟩=p:=hp;have aK:k-1<l.length:=by omega
   have Ztx:=Em (l.getD (k-1) 0) (by simp [aK])
   have Zyw:(l.getD (k-1) 0).toNat<t.length:=by omega
   have Qe:((k:Int)-1).toNat=k-1:=by omega
   have hc:((p.kind==6)=true∧(p.kind==7)=false)∨((p.kind==6)=false∧(p.kind==7)=true)∨((p.kind==6)=false∧(p.kind==7)=false):=by
    simp only [Zi,Za,ne_eq];omega
   rcases hc with ⟨Q6,Q5⟩|⟨Q6,Q5⟩|⟨Q6,Q5⟩
   all_goals
    have Ja:=Z9 (0:Int) Qd;have Jq:=Z9 n0 lJ;have Q9:=Z9 n0 L4;have Qc:=Z9 (0:Int) aK;have Qg:=Z9 n0 Zyw;have Qh:=@Zt;have Qa:=@Zr;have Z2:=@Zu;have Z7:=@Zp;have Qk:=@Wt;have Qm:=@Zs;have Kq:KaF:=⟨⟩;exact Lj
  ·have Qh:=@Zt;have Qa:=@Zr;have Z2:=@Zu;have Z7:=@Zp;have Qk:=@Wt;have Qm:=@Zs;have Kq:KaG:=⟨⟩;exact Nj):p:=h
theorem good_labelled3:Jc Tryz.prog (106,Gt):=by
 obtain ⟨Kx,Kt,Kc,Kd,Kb,Ku,Kw,K,Y6,P7,aV,dF,_⟩:=W5 Qj Z0 [] false (Xa good_IsWord1 Vl.eq_def (Xa good_IsTag1 Gi.eq_def (Xa good_Kids3 Cl.eq_def (Xa good_many3 Gd.eq_def W4))));have Ko:=Gt.eq_def;refine Yv K Tryz.func106 [.tmp 4] rfl 123 rfl (fun c hc Jj Zo=>?_);unfold Gt at Zo;obtain ⟨⟨t⟩,i,rfl,hT,hN,Zv1,Za7⟩:=Jd Zo;simp only at hT hN Zv1 Za7;obtain ⟨i,rfl⟩:∃ n:Nat,i=n:=⟨i.toNat,by omega⟩
 have L4:i<t.length:=by omega
 have Js:=hT.1;obtain ⟨l,Qu⟩:=exq (G4 t i);have Em:∀ x∈l,(i:Int)<x∧x<t.length:=by rw [←Qu];exact zL
 have oM:l.length≤100000:=by
  rw [←Qu];unfold G4;split
  ·simp
  ·have h1:=Fb t (Wa (t.getD (Int.toNat i) ⟨0,[],0⟩)).toNat ((Int.toNat i)+1);have h2:=(hT.2 (t.getD i ⟨0,[],0⟩) (by simp [L4])).2
   simp only [Zn] at h1 ⊢;omega
 have oN:Sw t i=(((l.length:Int)==Wa (t.getD i n0))&&(List.range l.length).all fun k=>Db t i l k):=by
  unfold Sw;rw [Qu]
 cases hc;refine Kn 7 ?_;have Qz:=Z9 n0 L4;have Qh:=@Zt;have Qa:=@Zr;have Z2:=@Zu;have Z7:=@Zp;have Qk:=@Wt;have Qm:=@Zs;have Kq:KaE:=⟨⟩;exact Nj
end Go.Am.Ty
namespace Go.Rose
inductive Rose (α:Type) where
 | mk (n:α) (ks:List (Rose α))
namespace Rose
variable {α:Type}
def root:Rose α→α
 | mk n _=>n
def kids:Rose α→List (Rose α)
 | mk _ ks=>ks
mutual
def nds:Rose α→List α
 | mk n ks=>n::ndss ks
def ndss:List (Rose α)→List α
 | []=>[]
 | x::xs=>nds x++ndss xs
end
mutual
def wf (ar:α→Nat):Rose α→Prop
 | mk n ks=>ks.length=ar n∧wfs ar ks
def wfs (ar:α→Nat):List (Rose α)→Prop
 | []=>True
 | x::xs=>wf ar x∧wfs ar xs
end
mutual
def depth:Rose α→Nat
 | mk _ ks=>1+depths ks
def depths:List (Rose α)→Nat
 | []=>0
 | x::xs=>max (depth x) (depths xs)
end
end Rose
open Rose
variable {α:Type} {ar:α→Nat}
theorem Ye:∀ (a b:List (Rose α)),ndss (a++b)=ndss a++ndss b
 | [],b=>by simp [ndss]
 | x::a,b=>by simp [ndss,Ye a b]
theorem Dt:∀ {a b:List (Rose α)},wfs ar (a++b)↔wfs ar a∧wfs ar b
 | [],b=>by simp [wfs]
 | x::a,b=>by simp only [List.cons_append,wfs,Dt (a:=a),and_assoc]
theorem rP:∀ {a:List (Rose α)},wfs ar a→∀ x∈a,wf ar x
 | [],_,x,hx=>by cases hx
 | y::a,h,x,hx=>by
  rcases Zm.1 hx with rfl|hx
  ·exact h.1
  ·exact rP h.2 x hx
theorem Jt (n:α) (ks:List (Rose α)):nds (mk n ks)=n::ndss ks:=by simp [nds]
theorem Bi (x:Rose α):1≤(nds x).length:=by cases x;simp [nds]
theorem Tp (x:Rose α):nds x=x.root::ndss x.kids:=by cases x;simp [nds,root,kids]
theorem Znv {x:Rose α}:wf ar x↔x.kids.length=ar x.root∧wfs ar x.kids:=by cases x;simp [wf,root,kids]
def Ka (ar:α→Nat):List α→Nat→Option Nat
 | _,0=>some 0
 | [],_+1=>none
 | n::l,o+1=>(Ka ar l (o+ar n)).map (·+1)
theorem Ar (ar:α→Nat):∀ (m:Nat) (ts:List (Rose α)) (r:List α),(ndss ts).length≤m→wfs ar ts→∀ o,Ka ar (ndss ts++r) (ts.length+o)=(Ka ar r o).map (·+(ndss ts).length)
 | m,[],r,_,_,o=>by simp [ndss,Ka]
 | 0,mk n ks::ts,r,hm,_,o=>by simp [ndss,nds] at hm
 | m+1,mk n ks::ts,r,hm,hw,o=>by
  obtain ⟨⟨h1,h2⟩,h3⟩:=hw;simp only [ndss,nds,List.cons_append,Zf,Zj] at hm ⊢;rw [show ts.length+1+o=(ts.length+o)+1 by omega,Ka,List.append_assoc]
  rw [show ts.length+o+ar n=ks.length+(ts.length+o) by omega,Ar ar m ks (ndss ts++r) (by omega) h2 (ts.length+o),Ar ar m ts r (by omega) h3 o]
  cases Ka ar r o with
  | none=>rfl
  | some k=>simp only [Option.map_some];congr 1;omega
theorem Zah {x:Rose α} (h:wf ar x) (r:List α):Ka ar (nds x++r) 1=some (nds x).length:=by
 have:=Ar ar _ [x] r (Zk _) ⟨h,trivial⟩ 0;simpa [ndss,Ka] using this
theorem mA:∀ (m:Nat) {ts us:List (Rose α)} {r s:List α},(ndss ts).length≤m→wfs ar ts→wfs ar us→ts.length=us.length→ndss ts++r=ndss us++s→ts=us∧r=s
 | m,[],us,r,s,_,_,_,hl,h=>by
  have:us=[]:=List.length_eq_zero_iff.1 hl.symm;subst this;exact ⟨rfl,by simpa [ndss] using h⟩
 | m,_::_,[],_,_,_,_,_,hl,_=>by simp at hl
 | 0,mk n ks::ts,_,_,_,hm,_,_,_,_=>by simp [ndss,nds] at hm
 | m+1,mk n ks::ts,mk p qs::us,r,s,hm,ht,hu,hl,h=>by
  obtain ⟨⟨h1,h2⟩,h3⟩:=ht;obtain ⟨⟨g1,g2⟩,g3⟩:=hu;simp only [ndss,nds,List.cons_append,List.cons.injEq,Zf,Zj] at h hm hl;obtain ⟨rfl,h⟩:=h;rw [←Ye,←Ye] at h;obtain ⟨e1,e2⟩:=mA m (ts:=ks++ts) (us:=qs++us) (by rw [Ye,Zj];omega) (Dt.2 ⟨h2,h3⟩) (Dt.2 ⟨g2,g3⟩) (by simp only [Zj];omega) h
  obtain ⟨e3,e4⟩:=List.append_inj e1 (by rw [h1,g1])
  exact ⟨by rw [e3,e4],e2⟩
theorem Zbu {x y:Rose α} {r s:List α} (hx:wf ar x) (hy:wf ar y) (h:nds x++r=nds y++s):x=y∧r=s:=by
 obtain ⟨h1,h2⟩:=mA (ar:=ar) _ (ts:=[x]) (us:=[y]) (Zk _) ⟨hx,trivial⟩ ⟨hy,trivial⟩ rfl (by simpa [ndss] using h)
 injection h1 with h1
 exact ⟨h1,h2⟩
def At (ar:α→Nat) (l:List α) (i:Nat) (x:Rose α):Prop:=wf ar x∧∃ r,l.drop i=nds x++r
theorem At.inj {l:List α} {i:Nat} {x y:Rose α} (hx:At ar l i x) (hy:At ar l i y):x=y:=by
 obtain ⟨h1,r,h2⟩:=hx;obtain ⟨g1,s,g2⟩:=hy;exact (Zbu h1 g1 (h2.symm.trans g2)).1
theorem At.le {l:List α} {i:Nat} {x:Rose α} (h:At ar l i x):i+(nds x).length≤l.length:=by
 obtain ⟨_,r,h2⟩:=h;have h3:=congrArg List.length h2;rw [List.length_drop,Zj] at h3;have:=Bi x;omega
theorem At.lt {l:List α} {i:Nat} {x:Rose α} (h:At ar l i x):i<l.length:=by
 have:=h.le;have:=Bi x;omega
theorem At.root {l:List α} {i:Nat} {x:Rose α} (h:At ar l i x) (d:α):l.getD i d=x.root:=by
 obtain ⟨_,r,h2⟩:=h;have h3:(l.drop i).getD 0 d=x.root:=by rw [h2,Tp];rfl
 simpa [Zg] using h3
def Rx (ar:α→Nat) (l:List α) (i:Nat) (xs:List (Rose α)):Prop:=wfs ar xs∧∃ r,l.drop i=ndss xs++r
theorem At.kids {l:List α} {i:Nat} {x:Rose α} (h:At ar l i x):Rx ar l (i+1) x.kids∧x.kids.length=ar x.root:=by
 obtain ⟨h1,r,h2⟩:=h;rw [Znv] at h1;refine ⟨⟨h1.2,r,?_⟩,h1.1⟩;rw [Tp] at h2;have h3:(l.drop i).drop 1=(ndss x.kids++r):=by rw [h2];rfl
 rwa [List.drop_drop] at h3
theorem Rx.head {l:List α} {i:Nat} {x:Rose α} {xs:List (Rose α)} (h:Rx ar l i (x::xs)):At ar l i x∧Rx ar l (i+(nds x).length) xs:=by
 obtain ⟨⟨h1,h2⟩,r,h3⟩:=h;refine ⟨⟨h1,ndss xs++r,by rw [h3];simp [ndss]⟩,h2,r,?_⟩
 rw [←List.drop_drop,h3];simp [ndss]
theorem Wx {x:Rose α} (h:wf ar x):At ar (nds x) 0 x:=⟨h,[],by simp⟩
theorem kB {l:List α} {i:Nat} {x:Rose α} (h:At ar l i x):Ka ar (l.drop i) 1=some (nds x).length:=by
 obtain ⟨h1,r,h2⟩:=h;rw [h2];exact Zah h1 r
open Classical in
noncomputable def M1 [Inhabited α] (ar:α→Nat) (l:List α) (i:Nat):Rose α:=if h:∃ x,At ar l i x then Classical.choose h else mk default []
theorem Wq [Inhabited α] {l:List α} {i:Nat} {x:Rose α} (h:At ar l i x):M1 ar l i=x:=by
 unfold M1;rw [dif_pos ⟨x,h⟩];exact At.inj (Classical.choose_spec (⟨x,h⟩:∃ x,At ar l i x)) h
theorem At.mem {l:List α} {i:Nat} {x:Rose α} (h:At ar l i x):∀ n∈nds x,n∈l:=fun n hn=>by
 obtain ⟨_,r,h2⟩:=h;exact List.mem_of_mem_drop (i:=i) (by rw [h2];exact List.mem_append_left _ hn)
end Go.Rose
namespace Go.Am.Ty
open Go.Proofs
open Enc (enc dec)
theorem Dz {n:Node} (h:Y1 n=true):0≤Wa n∧Wa n≤50:=by
 unfold Y1 at h;unfold Wa;by_cases h5:n.kind=5
 ·rw [if_pos h5];omega
 ·rw [if_neg h5];by_cases Zyd:n.kind=6∨n.kind=7
  ·rw [if_pos Zyd];rw [if_neg (by omega),if_neg (by omega)] at h
   by_cases h6:n.kind=6
   ·rw [if_pos h6] at h;simpa using h
   ·rw [if_neg h6,if_pos (by omega)] at h
    simp only [Ze,decide_eq_true_eq] at h;omega
  ·rw [if_neg Zyd];omega
def J8 (t:List Node):Bool:=t.length==0||Jw 10000 t.length||!((t.getD 0 n0).name==[])||(t.getD 0 n0).kind==9
def U2 (t:List Node):Bool:=!J8 t&&(t.all Y1&&((Ed t 0==(t.length:Int)&&Nn t)&&(List.range t.length).all fun i=>Sw t i))
theorem U3 {p:Nat→Bool} {n:Nat} (h:∀ j,j<n→p j=true):(List.range n).all p=true:=by
 rw [List.all_eq_true];intro j hj;exact h j (List.mem_range.1 hj)
theorem M5 {p:Nat→Bool} {n:Nat} (j:Nat) (hj:j<n) (h:p j=false):(List.range n).all p=false:=by
 rw [Bool.eq_false_iff];intro hc;rw [List.all_eq_true] at hc;have:=hc j (List.mem_range.2 hj);rw [h] at this;cases this
def B3:Con:=Xd (fun (t:Sl Node)=>t.l.length≤9223372036854775807∧P6 t.l) (fun t=>U2 t.l)
class KaH:Prop
theorem KaH.k (_:KaH) (h:p:=by
 unfold U2 J8;simp [h0]):p:=h
class KaJ:Prop
theorem KaJ.k (_:KaJ) (h:p:=by
 repeat' first|exact Lz|with_reducible apply Z3|intro _
 ·rename_i hb;rw [hr,Rn (p:=Y1) n0 k Qd hb];rfl
 ·rename_i hb;refine ⟨k+1,by exact J0,by omega,fun j hj=>?_,by omega⟩
  by_cases Ay:j=k
  ·subst Ay;exact hb
  ·exact Yx j (by omega)):p:=h
class KaL:Prop
theorem KaL.k (_:KaL) (h:p:=by
 repeat' first|exact Lz|with_reducible apply Z3|intro _
 ·rename_i hb;rw [Le,M5 k Oz hb]
 ·rename_i hb;refine ⟨k+1,by exact J0,by omega,fun j hj=>?_,by omega⟩
  by_cases Ay:j=k
  ·subst Ay;exact hb
  ·exact Za3 j (by omega)):p:=h
class KaM:Prop
theorem KaM.k (_:KaM) (h:p:=by
 rw [Le,U3 fun j hj=>Za3 j (by omega)]):p:=h
class KaK:Prop
theorem KaK.k (_:KaK) (h:p:=by
 repeat' first|exact Lz|with_reducible apply Z3|intro _
 ·rename_i he hs;rw [hr,hs];simp
 ·rename_i he hs;have Le:U2 t=(List.range t.length).all fun i=>Sw t i:=by
   rw [hr,hs,show (Ed t 0==(t.length:Int))=true by simpa using he]
   rfl
  refine Z1 [2,49,50,51,52,53,54,55,56,57,58] (fun k:Nat=>[(4,.d (.int .i64 k))]) (fun k:Nat=>[]) (fun k:Nat=>k≤t.length∧∀ j,j<k→Sw t j=true) (fun k:Nat=>t.length-k) 0 ?_ ?_ ?_
  ·simp
  ·exact J0
  rintro k ⟨eT,Za3⟩;rcases Z5 k t.length with ⟨Oz,Q5⟩|⟨Oz,Q5⟩
  ·have Ja:=@Zt;have Jq:=@Zr;have Q9:=@Zu;have Je:=@Zp;have Qe:=@Wt;have Qc:=@Zs;have Kq:KaL:=⟨⟩;exact Nj
  ·have Ja:=@Zt;have Jq:=@Zr;have Q9:=@Zu;have Je:=@Zp;have Qe:=@Wt;have Qc:=@Zs;have Kq:KaM:=⟨⟩;exact Nj
 ·rename_i he;rw [hr,show (Ed t 0==(t.length:Int))=false by simpa using he]
  rfl):p:=h
class KaI:Prop
theorem KaI.k (_:KaI) (h:p:=by
 repeat' first|exact Lz|with_reducible apply Z3|intro _
 ·rename_i h1 h2 h9;exact Zpe (by unfold J8;rw [show ((t.getD 0 n0).kind==9)=true by rw [Zi];exact h9];simp only [Bool.or_true])
 ·rename_i h1 h3 h9;have Pj:t.length≤10000:=by omega
  have Ls:J8 t=false:=by
   unfold J8;simp only [Bool.or_eq_false_iff,Jl,Za];refine ⟨⟨⟨by omega,by omega⟩,?_⟩,h9⟩
   simpa using h3
  have hr:U2 t=(t.all Y1&&((Ed t 0==(t.length:Int)&&Nn t)&&(List.range t.length).all fun i=>Sw t i)):=by
   unfold U2;rw [Ls];rfl
  refine Z1 [2,27,28,29,30,31,32,33,34,35,36,37,38] (fun k:Nat=>[(3,.d (.int .i64 k))]) (fun k:Nat=>[]) (fun k:Nat=>k≤t.length∧∀ j,j<k→Y1 (t.getD j n0)=true) (fun k:Nat=>t.length-k) 0 ?_ ?_ ?_
  ·simp
  ·exact J0
  rintro k ⟨hk,Yx⟩;rcases Z5 k t.length with ⟨Qd,Qs⟩|⟨Qd,Qs⟩
  ·have Q0:=Z9 n0 Qd;have Ja:=@Zt;have Jq:=@Zr;have Q9:=@Zu;have Je:=@Zp;have Qe:=@Wt;have Qc:=@Zs;have Kq:KaJ:=⟨⟩;exact Nj
  ·have Up:t.all Y1=true:=P4 (p:=Y1) n0 fun j hj=>Yx j (by omega)
   have Q6:rG t:=⟨by omega,fun n hn=>Dz (List.all_eq_true.1 Up n hn)⟩
   rw [Up,Bool.true_and] at hr;have xL:rG t∧eD .i64 0:=⟨Q6,by rw [Qn];omega⟩
   have Ja:=@Zt;have Jq:=@Zr;have Q9:=@Zu;have Je:=@Zp;have Qe:=@Wt;have Qc:=@Zs;have Kq:KaK:=⟨⟩;exact Nj
 ·rename_i h1 h3;exact Zpe (by unfold J8;rw [show ((t.getD 0 n0).name==[])=false by rw [Za];exact h3];simp only [Bool.not_false,Bool.or_true,Bool.true_or])
 ·rename_i h1;exact Zpe (by unfold J8;rw [show Jw 10000 (t.length:Int)=true by rw [Xs];exact h1];simp only [Bool.or_true,Bool.true_or])):p:=h
theorem good_Right3:Jc Tryz.prog (85,B3):=by
 obtain ⟨Kx,Kt,Kc,Kd,Kb,Ku,Kw,K,Y6,P7,aV,dF,_⟩:=W5 Qj Z0 [] false (Xa good_numbered3 Gp.eq_def (Xa good_End3 Td.eq_def (Xa good_shallow3 Hv.eq_def (Xa good_labelled3 Gt.eq_def W4))));have Ko:=B3.eq_def;refine Yv K Tryz.func85 [.tmp 2] rfl 59 rfl (fun c hc Jj Zo=>?_);unfold B3 at Zo;obtain ⟨⟨t⟩,rfl,ht,hN⟩:=Qp Zo;simp only at ht hN;cases hc;refine Kn 3 ?_;by_cases h0:t.length=0
 ·have Qu:((t.length:Int)==0)=true:=by simp [h0]
  have Ja:=@Zt;have Jq:=@Zr;have Q9:=@Zu;have Je:=@Zp;have Qe:=@Wt;have Qc:=@Zs;have Kq:KaH:=⟨⟩;exact Nj
 have Qu:((t.length:Int)==0)=false:=by rw [Za];omega
 have Zo2:0<t.length:=by omega
 have Zpe:J8 t=true→false=U2 t:=by
  intro h;unfold U2;rw [h];rfl
 have Qz:=Z9 n0 Zo2;have Ja:=@Zt;have Jq:=@Zr;have Q9:=@Zu;have Je:=@Zp;have Qe:=@Wt;have Qc:=@Zs;have Kq:KaI:=⟨⟩;exact Nj
open Go.Proofs Go.Rose Go.Rose.Rose
instance inhSl {α:Type}:Inhabited (Sl α):=⟨⟨[]⟩⟩
instance inhNode:Inhabited Node:=⟨n0⟩
def Yj (n:Node):Bool:=n.kind==6||n.kind==7
def N6:Con:=Xd (fun (_:Node)=>True) (fun n=>Yj n)
class KaN:Prop
theorem KaN.k (_:KaN) (h:p:=by
 unfold Yj;repeat' first|exact Lz|with_reducible apply Z3|intro _
 all_goals simp_all):p:=h
theorem good_isRowT:Jc Tryz.prog (137,N6):=by
 obtain ⟨Kx,Kt,Kc,Kd,Kb,Ku,Kw,K,_⟩:=W5 Qj Z0 [] false W4;have Ko:=N6.eq_def;refine Yv K Tryz.func137 [.tmp 2] rfl 11 rfl (fun c hc Jj Zo=>?_);unfold N6 at Zo;obtain ⟨n,rfl,-⟩:=Qp Zo;cases hc;have Qu:=@Zt;have Qz:=@Zr;have Qs:=@Zu;have Q0:=@Zp;have Q6:=@Wt;have Q5:=@Zs;have Kq:KaN:=⟨⟩;exact Nj
def ar (n:Node):Nat:=if n.kind=5 then 2 else if n.kind=6∨n.kind=7 then n.n.toNat else 0
def Cd:Con:=Xd (fun (_:Node)=>True) (fun n=>(ar n:Int))
class KaO:Prop
theorem KaO.k (_:KaO) (h:p:=by
 unfold ar;repeat' first|exact Lz|with_reducible apply Z3|intro _
 ·rename_i h5;rw [if_pos h5];rfl
 ·rename_i h5 h6;rw [if_neg h5,if_pos (by simpa [Yj] using h6)]
  unfold E3;split<;>omega
 ·rename_i h5 h6;rw [if_neg h5,if_neg (by simpa [Yj] using h6)];rfl):p:=h
theorem good_manyT:Jc Tryz.prog (136,Cd):=by
 obtain ⟨Kx,Kt,Kc,Kd,Kb,Ku,Kw,K,Y6,_⟩:=W5 Qj Z0 [] false (Xa good_isRowT N6.eq_def W4);have Ko:=Cd.eq_def;refine Yv K Tryz.func136 [.tmp 2] rfl 13 rfl (fun c hc Jj Zo=>?_);unfold Cd at Zo;obtain ⟨n,rfl,-⟩:=Qp Zo;cases hc;have Qu:=@Zt;have Qz:=@Zr;have Qs:=@Zu;have Q0:=@Zp;have Q6:=@Wt;have Q5:=@Zs;have Kq:KaO:=⟨⟩;exact Nj
theorem Zap {n:Node} (h:0≤Wa n):(ar n:Int)=Wa n:=by
 unfold ar Wa at *;split
 ·rfl
 ·rename_i h5;rw [if_neg h5] at h;split
  ·rename_i h6;rw [if_pos h6] at h;omega
  ·rfl
def Whole (t:List Node) (i:Int):Prop:=0≤i→i<t.length→(Ka ar (t.drop i.toNat) 1).isSome=true
def Ny:Nat→List (Rose Node)→List Int
 | _,[]=>[]
 | q,x::xs=>(q:Int)::Ny (q+(nds x).length) xs
theorem D4:∀ (q:Nat) (xs:List (Rose Node)),(Ny q xs).length=xs.length
 | _,[]=>rfl
 | q,x::xs=>by simp [Ny,D4 _ xs]
theorem gB:∀ (q:Nat) (xs:List (Rose Node)) (j:Nat),j<xs.length→(Ny q xs).getD j 0=((q+(ndss (xs.take j)).length:Nat):Int)
 | _,[],j,h=>by simp at h
 | q,x::xs,0,_=>by simp [Ny,ndss]
 | q,x::xs,j+1,h=>by
  simp only [Ny,List.getD_cons_succ,List.take_succ_cons,ndss,Zj];rw [gB _ xs j (by simpa using h)]
  congr 1
  omega
theorem Zao {t:List Node}:∀ {xs:List (Rose Node)} {i j:Nat},Rx ar t i xs→∀ h:j<xs.length,At ar t (i+(ndss (xs.take j)).length) xs[j]
 | [],_,_,_,h=>by simp at h
 | x::xs,i,0,ha,_=>by simpa [ndss] using ha.head.1
 | x::xs,i,j+1,ha,h=>by
  have:=Zao ha.head.2 (j:=j) (by simpa using h)
  simpa [ndss,Nat.add_assoc] using this
def Md (l:List Node):Prop:=∀ n∈l,Y1 n=true
theorem Bk {n:Node} (h:Y1 n=true):Wa n=(ar n:Int):=(Zap (Dz h).1).symm
theorem nF:∀ {l:List Node} {o k:Nat},Md l→1≤o→Ka ar l o=some k→kX l o=k
 | [],o+1,k,_,_,h=>by simp [Ka] at h
 | n::l,o+1,k,hn,_,h=>by
  rw [Ka,Option.map_eq_some_iff] at h;obtain ⟨k',h1,rfl⟩:=h;have hm:=Bk (hn n (by simp))
  have e:((o+1:Nat):Int)-1+Wa n=((o+ar n:Nat):Int):=by rw [hm];omega
  rw [kX,e];by_cases hz:o+ar n=0
  ·rw [if_pos (by omega)]
   rw [hz] at h1;cases l<;>(simp only [Ka,Zb] at h1;omega)
  ·rw [if_neg (by omega),nF (fun m hm=>hn m (List.mem_cons_of_mem _ hm)) (by omega) h1]
   omega
theorem vZ {l:List Node} {i:Nat} (h:Md l):Md (l.drop i):=fun n hn=>h n (List.mem_of_mem_drop hn)
theorem rQ {t:List Node} {i:Nat} {x:Rose Node} (hn:Md t) (h:At ar t i x):kX (t.drop i) 1=(nds x).length:=nF (o:=1) (vZ hn) (Zk _) (kB h)
theorem tZ {t:List Node} {i:Nat} {x:Rose Node} (hn:Md t) (h:At ar t i x):Ed t i=((i+(nds x).length:Nat):Int):=by
 unfold Ed;have:=h.lt;rw [if_neg (by omega),Zn,rQ hn h]
 simp
theorem Fc {t:List Node} (hn:Md t):∀ {ks:List (Rose Node)} {q:Nat},Rx ar t q ks→Xh t ks.length q=Ny q ks
 | [],_,_=>rfl
 | x::ks,q,h=>by
  have hx:=h.head;rw [Zf,Xh,if_pos hx.1.lt,rQ hn hx.1,Ny,Fc hn hx.2]
theorem zM {t:List Node} {i:Nat} {x:Rose Node} (hn:Md t) (h:At ar t i x):G4 t i=Ny (i+1) x.kids:=by
 unfold G4;have hl:=h.lt;have hk:=h.kids;have hm:=Bk (hn (t.getD i n0) (by simp [hl]))
 rw [if_neg (by omega)]
 simp only [Zn];rw [show (⟨0,[],0⟩:Node)=n0 from rfl,hm,h.root n0,Zn,←hk.2,Fc hn hk.1]
theorem Ob {t:List Node} (hn:Md t):∀ {m q:Nat},(Xh t m q).length=m→(∀ j,q≤j→j<t.length→∃ z,At ar t j z)→q≤t.length→∃ ks:List (Rose Node),ks.length=m∧Rx ar t q ks
 | 0,q,_,_,hq=>⟨[],rfl,trivial,t.drop q,by simp [ndss]⟩
 | m+1,q,h,hz,hq=>by
  rw [Xh] at h;by_cases Qd:q<t.length
  ·rw [if_pos Qd] at h;obtain ⟨x,hx⟩:=hz q (Zk _) Qd;rw [rQ hn hx] at h;obtain ⟨ks,h1,h2,r,h3⟩:=Ob hn (m:=m) (q:=q+(nds x).length) (by simpa using h) (fun j hj=>hz j (by omega)) hx.le
   obtain ⟨h4,r',h5⟩:=hx;refine ⟨x::ks,by simp [h1],⟨h4,h2⟩,r,?_⟩
   rw [←List.drop_drop,h5,List.drop_left'] at h3
   ·rw [h5,h3,ndss,List.append_assoc]
   ·rfl
  ·rw [if_neg Qd] at h;simp at h
theorem C2 {t:List Node} (hn:Md t) (h:∀ i,i<t.length→((G4 t i).length:Int)=Wa (t.getD i n0)):∀ (m i:Nat),t.length-i≤m→i<t.length→∃ z,At ar t i z
 | 0,i,hm,hi=>by omega
 | m+1,i,hm,hi=>by
  have h1:=h i hi;have Ztz:=Bk (hn (t.getD i n0) (by simp [hi]))
  unfold G4 at h1;rw [if_neg (by omega)] at h1
  simp only [Zn] at h1;rw [show (⟨0,[],0⟩:Node)=n0 from rfl,Ztz,Zn] at h1;obtain ⟨ks,k1,k2,r,k3⟩:=Ob hn (m:=ar (t.getD i n0)) (q:=i+1) (by omega) (fun j hj Cw=>C2 hn h m j (by omega) Cw) (by omega)
  refine ⟨mk (t.getD i n0) ks,⟨k1,k2⟩,r,?_⟩;rw [List.drop_eq_getElem_cons hi,k3,Jt];simp [hi]
def N5 (r d:Nat):Bool:=decide (r+d≤100)
theorem Pa {r d:Nat} (h:r+d≤100):N5 r d=true:=decide_eq_true h
theorem Hl {r d:Nat} (h:¬ r+d≤100):N5 r d=false:=decide_eq_false h
theorem tV {r d r' d':Nat} (h:r+d=r'+d'):N5 r d=N5 r' d':=by unfold N5;rw [h]
mutual
theorem shal_tree:∀ (x:Rose Node) (l:List Node) (rs:List Int),wf ar x→Md (nds x)→Oj (nds x++l) rs=(N5 rs.length (depth x)&&Oj l (Mc 0 rs))
 | mk n ks,l,rs,hw,hn=>by
  have hm:=Bk (hn n (by simp [nds]))
  rw [Jt,List.cons_append,Oj,hm,←hw.1];cases ks with
  | nil =>
   have hd:depth (mk n [])=1:=by simp [depth,depths]
   rw [hd];simp only [ndss,List.nil_append,List.length_nil];by_cases h:100≤rs.length
   ·rw [if_pos h,Hl (by omega)];rfl
   ·rw [if_neg h,Pa (by omega)];rfl
  | cons y ys =>
   have hd:depth (mk n (y::ys))=1+depths (y::ys):=by rw [depth]
   rw [hd,H8 (by simp only [Zf];omega),shal_forest (y::ys) l rs (by simp) hw.2 (fun m hm=>hn m (by rw [Jt];exact List.mem_cons_of_mem _ hm))]
   by_cases h:100≤rs.length
   ·rw [if_pos h,Hl (by omega)];rfl
   ·rw [if_neg h]
theorem shal_forest:∀ (xs:List (Rose Node)) (l:List Node) (rs:List Int),xs≠[]→wfs ar xs→Md (ndss xs)→Oj (ndss xs++l) ((xs.length:Int)::rs)=(N5 rs.length (1+depths xs)&&Oj l (Mc 0 rs))
 | [],_,_,h,_,_=>absurd rfl h
 | x::ts,l,rs,_,hw,hn=>by
  have h0:=shal_tree x;cases ts with
  | nil =>
   simp only [ndss,List.append_nil] at hn ⊢;have hd:depths [x]=depth x:=by simp [depths]
   rw [h0 l _ hw.1 hn,hd];simp only [Zf,List.length_nil];rw [tV (r:=rs.length+1) (d:=depth x) (r':=rs.length) (d':=1+depth x) (by omega)]
   rfl
  | cons y ts =>
   have h2:=shal_forest (y::ts) l rs (by simp) hw.2 (fun m hm=>hn m (by rw [ndss];exact List.mem_append_right _ hm))
   rw [ndss,List.append_assoc,h0 _ _ hw.1 (fun m hm=>hn m (by rw [ndss];exact List.mem_append_left _ hm))]
   have e:Mc 0 ((((x::y::ts).length:Nat):Int)::rs)=(((y::ts).length:Nat):Int)::rs:=by
    rw [Mc,if_pos rfl,show (((x::y::ts).length:Nat):Int)-1=(((y::ts).length:Nat):Int) by simp only [Zf];omega,H8 (by simp only [Zf];omega)]
   have hd:depths (x::y::ts)=max (depth x) (depths (y::ts)):=by rw [depths]
   rw [e,h2,hd];simp only [Zf];by_cases h1:rs.length+1+depth x≤100
   ·rw [Pa h1,Bool.true_and];by_cases h2:rs.length+(1+depths (y::ts))≤100
    ·rw [Pa h2,Pa (r:=rs.length) (d:=1+max (depth x) (depths (y::ts))) (by omega)]
    ·rw [Hl h2,Hl (r:=rs.length) (d:=1+max (depth x) (depths (y::ts))) (by omega)]
   ·rw [Hl h1,Hl (r:=rs.length) (d:=1+max (depth x) (depths (y::ts))) (by omega)]
    rfl
end
theorem C6 {x:Rose Node} (hw:wf ar x) (hn:Md (nds x)):Nn (nds x)=N5 0 (depth x):=by
 have:=shal_tree x [] [] hw hn;simp only [List.append_nil,List.length_nil] at this;unfold Nn;rw [this,Oj];simp
def zF (n:Node) (ks:List (Rose Node)):Bool:=(List.range ks.length).all fun k=>jG n (ks.getD k (mk n0 [])).root (ks.getD (k-1) (mk n0 [])).root (Jw 0 k) ((k:Int)==(ks.length:Int)-1)
mutual
def labT:Rose Node→Bool
 | mk n ks=>zF n ks&&labTs ks
def labTs:List (Rose Node)→Bool
 | []=>true
 | x::xs=>labT x&&labTs xs
end
theorem Zb4 {t:List Node} {i:Nat} {x:Rose Node} (hn:Md t) (h:At ar t i x):Sw t i=zF x.root x.kids:=by
 have hk:=h.kids;have hl:=h.lt;have hm:=Bk (hn (t.getD i n0) (by simp [hl]))
 have hr:=h.root n0;unfold Sw;rw [zM hn h,D4,hr];rw [hr] at hm;rw [hm,hk.2];rw [show ((ar x.root:Int)==(ar x.root:Int))=true by simp,Bool.true_and]
 unfold zF;rw [hk.2];apply Bool.eq_iff_iff.2;simp only [List.all_eq_true,List.mem_range];have key:∀ k,k<x.kids.length→Pw t (Ny (i+1) x.kids) k=(x.kids.getD k (mk n0 [])).root:=by
  intro k hk';unfold Pw;rw [gB _ _ k hk',Zn];have:=(Zao hk.1 hk').root n0;rw [this];simp [hk']
 have e:∀ k,k<ar x.root→Db t i (Ny (i+1) x.kids) k=jG x.root (x.kids.getD k (mk n0 [])).root (x.kids.getD (k-1) (mk n0 [])).root (Jw 0 k) ((k:Int)==(ar x.root:Int)-1):=by
  intro k hk';unfold Db;rw [hr,key k (by omega),key (k-1) (by omega),D4,hk.2]
 constructor
 ·intro g k hk';rw [←e k hk'];exact g k hk'
 ·intro g k hk';rw [e k hk'];exact g k hk'
mutual
theorem labT_at {t:List Node} (hn:Md t):∀ {x:Rose Node} {i:Nat},At ar t i x→(labT x=true↔∀ j,i≤j→j<i+(nds x).length→Sw t j=true)
 | mk n ks,i,h=>by
  have h1:=Zb4 hn h;have hk:Rx ar t (i+1) ks:=h.kids.1;rw [labT,Ze,labTs_at hn hk,Jt,Zf];simp only [root,kids] at h1 ⊢;constructor
  ·rintro ⟨g1,g2⟩ j Az uX;by_cases Yd:j=i
   ·subst Yd;rw [h1];exact g1
   ·exact g2 j (by omega) (by omega)
  ·intro g;exact ⟨by rw [←h1];exact g i (Zk _) (by omega),fun j Az uX=>g j (by omega) (by omega)⟩
theorem labTs_at {t:List Node} (hn:Md t):∀ {xs:List (Rose Node)} {i:Nat},Rx ar t i xs→(labTs xs=true↔∀ j,i≤j→j<i+(ndss xs).length→Sw t j=true)
 | [],i,_=>by simp only [labTs,ndss,List.length_nil,true_iff];intro j h1 h2;omega
 | x::xs,i,h=>by
  rw [labTs,Ze,labT_at hn h.head.1,labTs_at hn h.head.2];simp only [ndss,Zj];constructor
  ·rintro ⟨g1,g2⟩ j Az uX;rcases Nat.lt_or_ge j (i+(nds x).length) with Qd|Nd
   ·exact g1 j Az Qd
   ·exact g2 j Nd (by omega)
  ·intro g;exact ⟨fun j Az uX=>g j Az (by omega),fun j Az uX=>g j (by omega) (by omega)⟩
end
structure RT (x:Rose Node):Prop where
 wf:wf ar x
 numb:Md (nds x)
 depth:depth x≤100
 lab:labT x=true
 name:x.root.name=[]
 kind:x.root.kind≠9
 len:(nds x).length≤10000
theorem uO {x:Rose Node} (h:RT x):U2 (nds x)=true:=by
 have ha:=Wx h.wf;have hp:=Bi x;have hr:=ha.root n0;unfold U2;have h1:J8 (nds x)=false:=by
  unfold J8;rw [hr,h.name];have e1:((nds x).length==0)=false:=by rw [Za];omega
  have e2:Jw 10000 ((nds x).length:Int)=false:=by rw [Jl];have:=h.len;omega
  have e3:(x.root.kind==9)=false:=by rw [Za];exact h.kind
  rw [e1,e2,e3];rfl
 have h2:(nds x).all Y1=true:=List.all_eq_true.2 h.numb;have h3:Ed (nds x) 0=((nds x).length:Int):=by have:=tZ h.numb ha;simpa using this
 have h4:Nn (nds x)=true:=by rw [C6 h.wf h.numb];exact Pa (by have:=h.depth;omega)
 have h5:((List.range (nds x).length).all fun i=>Sw (nds x) i)=true:=U3 fun j hj=>(labT_at h.numb ha).1 h.lab j (Nat.zero_le _) (by omega)
 rw [h1,h2,h3,h4,h5];simp
theorem jK {t:List Node} (h:U2 t=true):∃ x,t=nds x∧RT x:=by
 unfold U2 at h;simp only [Ze,Bool.not_eq_true',Zi] at h;obtain ⟨h1,h2,⟨h3,h4⟩,h5⟩:=h;unfold J8 at h1;simp only [Bool.or_eq_false_iff,Za,Bool.not_eq_false',Zi,Jl] at h1;obtain ⟨⟨⟨g1,g2⟩,g3⟩,g4⟩:=h1;have hn:Md t:=List.all_eq_true.1 h2;have hl:∀ i,i<t.length→Sw t i=true:=fun i hi=>List.all_eq_true.1 h5 i (List.mem_range.2 hi);have hk:∀ i,i<t.length→((G4 t i).length:Int)=Wa (t.getD i n0):=by
  intro i hi;have:=hl i hi;unfold Sw at this;rw [Ze,Zi] at this;exact this.1
 obtain ⟨x,hx⟩:=C2 hn hk t.length 0 (by omega) (by omega)
 have he:=tZ hn hx;have he':Ed t 0=((0+(nds x).length:Nat):Int):=he;rw [h3] at he';obtain ⟨hw,r,hr⟩:=id hx;have Zcs:t=nds x:=by
  rw [List.drop_zero] at hr;have:=congrArg List.length hr;rw [Zj] at this;have Ztv:r=[]:=List.length_eq_zero_iff.1 (by omega)
  rw [hr,Ztv,List.append_nil]
 have Th:=hx.root n0;subst Zcs;refine ⟨x,rfl,⟨hw,hn,?_,(labT_at hn hx).2 fun j _ hj=>hl j (by omega),by rw [←Th];exact g3,by rw [←Th];exact g4,by omega⟩⟩
 rw [C6 hw hn] at h4;have:=of_decide_eq_true h4;omega
def Zye:List Node→List Node
 | []=>[]
 | n::r=>⟨n.kind,[],n.n⟩::r
def n5:Node:=⟨5,[],0⟩
def Dk {A R S:Type} [Enc A] [Enc R] [Enc S] (p:A→Prop) (f:A→R×S):Con:=⟨[false],[false,false],fun c=>match c with
 | [.d x]=>Tu A x∧p (dec x)
 | _=>False,fun c=>match c with
 | [.d x]=>.tup [.d (enc (f (dec x)).1),.d (enc (f (dec x)).2)]
 | _=>.d .nilp⟩
theorem wL {A R S:Type} [Enc A] [Enc R] [Enc S] {p:A→Prop} {f:A→R×S} {c:List CV} (h:(Dk p f).pre c):∃ a,c=[.d (enc a)]∧p a:=by
 unfold Dk at h;simp only at h;split at h
 ·next x=>exact ⟨dec x,by rw [←h.1],h.2⟩
 ·exact h.elim
def parts (ks:List (Rose Node)):List (Sl Node):=ks.map fun k=>Sl.mk (Zye (nds k))
structure Fn0 (f:Nat) where
instance encFn0 (f:Nat):Enc (Fn0 f):=⟨fun _=>.clo f [],fun _=>⟨⟩,fun _=>rfl⟩
theorem Gn {f:Nat} {a:Fn0 f}:(enc a:D)=.clo f []:=rfl
theorem Gm {f:Nat}:Tu (Fn0 f) (.clo f [])=True:=eq_true rfl
def lS (x y:Node):Bool:=Uj x==Uj y
def Ch:Con:=Vy (fun (_ _:Node)=>True) lS
class KaP:Prop
theorem KaP.k (_:KaP) (h:p:=by
 repeat' first|exact Lz|with_reducible apply Z3|intro _
 all_goals
  unfold lS;rw [Bool.eq_iff_iff];simp only [Zi];unfold Uj;obtain ⟨xk,xn,xm⟩:=x;obtain ⟨yk,yn,ym⟩:=y;simp only at *;repeat' split
  all_goals
   first|(simp only [Node.mk.injEq];done)|(simp only [Node.mk.injEq];constructor<;>(intro h;simp_all))):p:=h
theorem good_SameN:Jc Tryz.prog (62,Ch):=by
 obtain ⟨Kx,Kt,Kc,Kd,Kb,Ku,Kw,K,_⟩:=W5 Qj Z0 [] false W4;have Ko:=Ch.eq_def;refine Yv K Tryz.func62 [.tmp 4] rfl 21 rfl (fun c hc Jj Zo=>?_);unfold Ch at Zo;obtain ⟨x,y,rfl,-⟩:=Jd Zo;cases hc;have Qu:=@Zt;have Qz:=@Zr;have Qs:=@Zu;have Q0:=@Zp;have Q6:=@Wt;have Q5:=@Zs;have Kq:KaP:=⟨⟩;exact Nj
def Kf:Con:=kJ (fun (a b:Sl Node) (_:Fn0 62)=>a.l.length≤9223372036854775807∧b.l.length≤9223372036854775807) (fun a b _=>Hn a.l b.l)
class KaR:Prop
theorem KaR.k (_:KaR) (h:p:=by
 first|exact ⟨k+1,by exact J0,by omega,X5,by omega⟩):p:=h
class KaS:Prop
theorem KaS.k (_:KaS) (h:p:=by
 symm;unfold Hn;rw [Zi];refine List.ext_getElem (by simp [Js]) fun j h1 h2=>?_
 rw [Qq] at h1 h2;have:=Yx j (by omega)
 simpa [h1,h2] using this):p:=h
class KaQ:Prop
theorem KaQ.k (_:KaQ) (h:p:=by
 refine ⟨fun Gk=>?_,fun eX=>?_⟩
 ·symm;unfold Hn;rw [Za];intro h;have:=congrArg List.length h;rw [Qq,Qq] at this;exact Gk (by rw [this])
 have Js:a.length=b.length:=by omega
 refine Z1 [6,7,8,9,18,19,20,21,22,23,24,25,26,27,28,29,30,31] (fun k:Nat=>[(17,.d (.int .i64 k))]) (fun k:Nat=>[]) (fun k:Nat=>k≤a.length∧∀ j,j<k→Uj (a.getD j ⟨0,[],0⟩)=Uj (b.getD j ⟨0,[],0⟩)) (fun k:Nat=>a.length-k) 0 ?_ ?_ ?_
 ·simp
 ·exact J0
 rintro k ⟨hk,Yx⟩;rcases Z5 k a.length with ⟨Qd,Qu⟩|⟨Qd,Qu⟩
 ·have Qz:=Z9 (⟨0,[],0⟩:Node) Qd;have Qs:=Z9 (⟨0,[],0⟩:Node) (show k<b.length by omega)
  cases Q0:lS (a.getD k ⟨0,[],0⟩) (b.getD k ⟨0,[],0⟩) with
  | false =>
   have Xm:false=Hn a b:=by
    symm;unfold Hn;rw [Za];intro e;unfold lS at Q0;rw [Za] at Q0;apply Q0;have h1:(a.map Uj).getD k ⟨0,[],0⟩=(b.map Uj).getD k ⟨0,[],0⟩:=by rw [e]
    simpa [Qd,show k<b.length by omega] using h1
   have Q6:=@Gn;have Q5:=@Zt;have Ja:=@Zr;have Jq:=@Zu;have Q9:=@Zp;have Je:=@Wt;have Qe:=@Zs;exact uN
  | true =>
   have X5:∀ j,j<k+1→Uj (a.getD j ⟨0,[],0⟩)=Uj (b.getD j ⟨0,[],0⟩):=by
    intro j hj;unfold lS at Q0;rw [Zi] at Q0;by_cases Ay:j=k
    ·subst Ay;exact Q0
    ·exact Yx j (by omega)
   have Q6:=@Gn;have Q5:=@Zt;have Ja:=@Zr;have Jq:=@Zu;have Q9:=@Zp;have Je:=@Wt;have Qe:=@Zs;have Kq:KaR:=⟨⟩;exact Lj
 ·have Q6:=@Zt;have Q5:=@Zr;have Ja:=@Zu;have Jq:=@Zp;have Q9:=@Wt;have Je:=@Zs;have Kq:KaS:=⟨⟩;exact Nj):p:=h
theorem good_equalNodes:Jc Tryz.prog (61,Kf):=by
 obtain ⟨Kx,Kt,Kc,Kd,Kb,Ku,Kw,K,Y6,_⟩:=W5 Qj Z0 [] false (Xa good_SameN Ch.eq_def W4);have Ko:=Kf.eq_def;refine Yv K Tryz.func61 [.tmp 6] rfl 32 rfl (fun c hc Jj Zo=>?_);unfold Kf at Zo;obtain ⟨⟨a⟩,⟨b⟩,f,rfl,ha,hb⟩:=Te Zo;simp only at ha hb;cases hc;refine Kn 2 ?_;have Q6:=@Gn;have Q5:=@Zt;have Ja:=@Zr;have Jq:=@Zu;have Q9:=@Zp;have Je:=@Wt;have Qe:=@Zs;have Kq:KaQ:=⟨⟩;exact Nj
def Cg:Con:=Vy (fun (a b:Sl Node)=>a.l.length≤9223372036854775807∧b.l.length≤9223372036854775807) (fun a b=>Hn a.l b.l)
theorem qN:Jc Tryz.prog (37,Cg):=by
 obtain ⟨Kx,Kt,Kc,Kd,Kb,Ku,Kw,K,Y6,_⟩:=W5 Qj Z0 [] false (Xa good_equalNodes Kf.eq_def W4);have Ko:=Cg.eq_def;refine Yv K Tryz.func37 [.tmp 4] rfl 8 rfl (fun c hc Jj Zo=>?_);unfold Cg at Zo;obtain ⟨⟨a⟩,⟨b⟩,rfl,ha,hb⟩:=Jd Zo;simp only at ha hb;cases hc;have Qu:=@Gm;have Qz:=@Zt;have Qs:=@Zr;have Q0:=@Zu;have Q6:=@Zp;have Q5:=@Wt;have Ja:=@Zs;exact uN
def Fl {α:Type} (p:α→Bool) (l:List α):Int:=match l.findIdx? p with
 | some i=>(i:Int)
 | none=>-1
theorem jL {α:Type} {p:α→Bool} {l:List α} {k:Nat} (d:α) (hk:k<l.length) (Yx:∀ j,j<k→p (l.getD j d)=false) (hp:p (l.getD k d)=true):Fl p l=k:=by
 have h:l.findIdx? p=some k:=by
  rw [List.findIdx?_eq_some_iff_getElem];refine ⟨hk,by simpa [hk] using hp,fun j hj=>?_⟩
  have:=Yx j hj;simpa [show j<l.length by omega] using this
 unfold Fl;rw [h]
theorem Al {α:Type} {p:α→Bool} {l:List α} (d:α) (Yx:∀ j,j<l.length→p (l.getD j d)=false):Fl p l=-1:=by
 have h:l.findIdx? p=none:=by
  rw [List.findIdx?_eq_none_iff];intro x hx;obtain ⟨j,hj,rfl⟩:=List.getElem_of_mem hx;have:=Yx j hj;simpa [hj] using this
 unfold Fl;rw [h]
theorem cY {α:Type} {p:α→Bool} {l:List α}:Ju 0 (Fl p l)=l.any p:=by
 unfold Fl;cases h:l.findIdx? p with
 | none =>
  rw [List.findIdx?_eq_none_iff] at h;have:l.any p=false:=by rw [List.any_eq_false];intro x hx;rw [h x hx];simp
  rw [this];rfl
 | some i =>
  rw [List.findIdx?_eq_some_iff_getElem] at h;obtain ⟨hi,hp,_⟩:=h;have:l.any p=true:=by rw [List.any_eq_true];exact ⟨_,List.getElem_mem hi,hp⟩
  rw [this];simp [Ju]
def Zb7 (v:Int) (x:Int):Bool:=v==x
def H3:Con:=Vy (fun (l:Sl Int) (_:Int)=>l.l.length≤9223372036854775807) (fun l v=>Fl (Zb7 v) l.l)
class KaU:Prop
theorem KaU.k (_:KaU) (h:p:=by
 refine ⟨k+1,by exact J0,by omega,fun j hj=>?_,by omega⟩
 by_cases Ay:j=k
 ·subst Ay;exact hs
 ·exact Yx j (by omega)):p:=h
class KaT:Prop
theorem KaT.k (_:KaT) (h:p:=by
 refine Z1 [4,5,9,10,11,12,13,14,15,16,17,18] (fun k:Nat=>[(8,.d (.int .i64 k))]) (fun k:Nat=>[]) (fun k:Nat=>k≤l.length∧∀ j,j<k→Zb7 v (l.getD j 0)=false) (fun k:Nat=>l.length-k) 0 ?_ ?_ ?_
 ·simp
 ·exact J0
 rintro k ⟨hk,Yx⟩;rcases Z5 k l.length with ⟨Qd,Qu⟩|⟨Qd,Qu⟩
 ·have Qz:=Z9 (0:Int) Qd;cases hs:Zb7 v (l.getD k 0) with
  | false =>
   have Qs:(v==l.getD k 0)=false:=hs;have Q6:=@Zt;have Q5:=@Zr;have Ja:=@Zu;have Jq:=@Zp;have Q9:=@Wt;have Je:=@Zs;have Kq:KaU:=⟨⟩;exact Lj
  | true =>
   have Qs:(v==l.getD k 0)=true:=hs;have Q0:=jL 0 Qd Yx hs;have Q6:=@Zt;have Q5:=@Zr;have Ja:=@Zu;have Jq:=@Zp;have Q9:=@Wt;have Je:=@Zs;exact uN
 ·have Q0:=Al (p:=Zb7 v) (l:=l) 0 (fun j hj=>Yx j (by omega))
  have Q6:=@Zt;have Q5:=@Zr;have Ja:=@Zu;have Jq:=@Zp;have Q9:=@Wt;have Je:=@Zs;exact Zbp):p:=h
theorem good_indexInt:Jc Tryz.prog (172,H3):=by
 obtain ⟨Kx,Kt,Kc,Kd,Kb,Ku,Kw,K,_⟩:=W5 Qj Z0 [] false W4;have Ko:=H3.eq_def;refine Yv K Tryz.func172 [.tmp 4] rfl 19 rfl (fun c hc Jj Zo=>?_);unfold H3 at Zo;obtain ⟨⟨l⟩,v,rfl,hl⟩:=Jd Zo;simp only at hl;cases hc;have Q6:=@Zt;have Q5:=@Zr;have Ja:=@Zu;have Jq:=@Zp;have Q9:=@Wt;have Je:=@Zs;have Kq:KaT:=⟨⟩;exact Nj
def Ue:Con:=Vy (fun (l:Sl Int) (_:Int)=>l.l.length≤9223372036854775807) (fun l v=>l.l.any (Zb7 v))
theorem Ao:Jc Tryz.prog (160,Ue):=by
 obtain ⟨Kx,Kt,Kc,Kd,Kb,Ku,Kw,K,Y6,_⟩:=W5 Qj Z0 [] false (Xa good_indexInt H3.eq_def W4);have Ko:=Ue.eq_def;refine Yv K Tryz.func160 [.tmp 4] rfl 9 rfl (fun c hc Jj Zo=>?_);unfold Ue at Zo;obtain ⟨⟨l⟩,v,rfl,hl⟩:=Jd Zo;simp only at hl;have Qu:=cY (p:=Zb7 v) (l:=l);cases hc;have Qz:=@Zt;have Qs:=@Zr;have Q0:=@Zu;have Q6:=@Zp;have Q5:=@Wt;have Ja:=@Zs;exact uN
structure PI where
 l:List Int
instance encPI:Enc PI:=⟨fun p=>.ptr 1 (.list 1 (p.l.map enc)),fun x=>match x with
 | .ptr _ y=>⟨y.l.map dec⟩
 | _=>⟨[]⟩,fun p=>by
  have h:∀ l:List Int,(l.map (enc:Int→D)).map dec=l:=fun l=>Wv;obtain ⟨l⟩:=p;simp [D.l,h]⟩
theorem Zoa {l:List Int}:(enc (PI.mk l):D)=.ptr 1 (.list 1 (l.map enc)):=rfl
theorem Zol {l:List Int}:(PI.mk l).l=l:=rfl
theorem rJ {l:List Int}:(dec (.ptr 1 (.list 1 (l.map enc))):PI)=⟨l⟩:=Enc.dec_enc (PI.mk l)
theorem zP {l:List Int}:Tu PI (.ptr 1 (.list 1 (l.map enc)))=True:=eq_true (Xi (PI.mk l))
structure NoneF where
 l:List Int
instance encNoneF:Enc NoneF:=⟨fun p=>.clo 159 [.ptr 1 (.list 1 (p.l.map enc))],fun x=>match x with
 | .clo _ [.ptr _ y]=>⟨y.l.map dec⟩
 | _=>⟨[]⟩,fun p=>by
  have h:∀ l:List Int,(l.map (enc:Int→D)).map dec=l:=fun l=>Wv;obtain ⟨l⟩:=p;simp [D.l,h]⟩
theorem T7 {l:List Int}:(enc (NoneF.mk l):D)=.clo 159 [.ptr 1 (.list 1 (l.map enc))]:=rfl
theorem aY {l:List Int}:(NoneF.mk l).l=l:=rfl
theorem As {l:List Int}:(dec (.clo 159 [.ptr 1 (.list 1 (l.map enc))]):NoneF)=⟨l⟩:=Enc.dec_enc (NoneF.mk l)
theorem vO {l:List Int}:Tu NoneF (.clo 159 [.ptr 1 (.list 1 (l.map enc))])=True:=eq_true (Xi (NoneF.mk l))
theorem wG {l:List Int}:(dec (.clo 159 [.ptr 1 (enc (Sl.mk l))]):NoneF)=⟨l⟩:=Enc.dec_enc (NoneF.mk l)
theorem vN {l:List Int}:Tu NoneF (.clo 159 [.ptr 1 (enc (Sl.mk l))])=True:=eq_true (Xi (NoneF.mk l))
def Ns (l:List Int) (n:Node):Bool:=l.any (Zb7 n.kind)
def Cb:Con:=Vy (fun (_:Node) (p:PI)=>p.l.length≤1000000) (fun n p=>Ns p.l n)
theorem qH:Jc Tryz.prog (159,Cb):=by
 obtain ⟨Kx,Kt,Kc,Kd,Kb,Ku,Kw,K,Y6,_⟩:=W5 Qj Z0 [] false (Xa Ao Ue.eq_def W4);have Ko:=Cb.eq_def;refine Yv K Tryz.func159 [.tmp 3] rfl 8 rfl (fun c hc Jj Zo=>?_);unfold Cb at Zo;obtain ⟨n,⟨l⟩,rfl,hl⟩:=Jd Zo;simp only at hl;have Qu:Ns l n=l.any (Zb7 n.kind):=rfl;cases hc;have Qz:=@Zoa;have Qs:=@rJ;have Q0:=@Zol;have Q6:=@Zt;have Q5:=@Zr;have Ja:=@Zu;have Jq:=@Zp;have Q9:=@Wt;have Je:=@Zs;exact uN
def Gu:Con:=Vy (fun (l:Sl Node) (f:NoneF)=>l.l.length≤9223372036854775807∧f.l.length≤1000000) (fun l f=>Fl (Ns f.l) l.l)
class KaW:Prop
theorem KaW.k (_:KaW) (h:p:=by
 refine ⟨k+1,by exact J0,by omega,fun j hj=>?_,by omega⟩
 by_cases Ay:j=k
 ·subst Ay;exact Qs
 ·exact Yx j (by omega)):p:=h
class KaV:Prop
theorem KaV.k (_:KaV) (h:p:=by
 refine Z1 [4,5,9,10,11,12,13,14,15,16,17,18] (fun k:Nat=>[(8,.d (.int .i64 k))]) (fun k:Nat=>[]) (fun k:Nat=>k≤l.length∧∀ j,j<k→Ns v (l.getD j ⟨0,[],0⟩)=false) (fun k:Nat=>l.length-k) 0 ?_ ?_ ?_
 ·simp
 ·exact J0
 rintro k ⟨hk,Yx⟩;rcases Z5 k l.length with ⟨Qd,Qu⟩|⟨Qd,Qu⟩
 ·have Qz:=Z9 (⟨0,[],0⟩:Node) Qd;cases Qs:Ns v (l.getD k ⟨0,[],0⟩) with
  | false =>
   have Q6:=@T7;have Q5:=@rJ;have Ja:=@zP;have Jq:=@Zol;have Q9:=@Zt;have Je:=@Zr;have Qe:=@Zu;have Qc:=@Zp;have Qg:=@Wt;have Qi:=@Zs;have Kq:KaW:=⟨⟩;exact Lj
  | true =>
   have Q0:=jL ⟨0,[],0⟩ Qd Yx Qs;have Q6:=@T7;have Q5:=@As;have Ja:=@rJ;have Jq:=@zP;have Q9:=@Zol;have Je:=@aY;have Qe:=@Zt;have Qc:=@Zr;have Qg:=@Zu;have Qi:=@Zp;have Qh:=@Wt;have Qa:=@Zs;exact uN
 ·have Q0:=Al (p:=Ns v) (l:=l) ⟨0,[],0⟩ (fun j hj=>Yx j (by omega))
  have Q6:=@As;have Q5:=@aY;have Ja:=@Zt;have Jq:=@Zr;have Q9:=@Zu;have Je:=@Zp;have Qe:=@Wt;have Qc:=@Zs;exact Zbp):p:=h
theorem good_indexNode:Jc Tryz.prog (171,Gu):=by
 obtain ⟨Kx,Kt,Kc,Kd,Kb,Ku,Kw,K,Y6,_⟩:=W5 Qj Z0 [] false (Xa qH Cb.eq_def W4);have Ko:=Gu.eq_def;refine Yv K Tryz.func171 [.tmp 4] rfl 19 rfl (fun c hc Jj Zo=>?_);unfold Gu at Zo;obtain ⟨⟨l⟩,⟨v⟩,rfl,hl,hv⟩:=Jd Zo;simp only at hl hv;cases hc;have Q6:=@T7;have Q5:=@Zt;have Ja:=@Zr;have Jq:=@Zu;have Q9:=@Zp;have Je:=@Wt;have Qe:=@Zs;have Kq:KaV:=⟨⟩;exact Nj
def Vx:Con:=Vy (fun (l:Sl Node) (f:NoneF)=>l.l.length≤9223372036854775807∧f.l.length≤1000000) (fun l f=>l.l.any (Ns f.l))
theorem Fr:Jc Tryz.prog (158,Vx):=by
 obtain ⟨Kx,Kt,Kc,Kd,Kb,Ku,Kw,K,Y6,_⟩:=W5 Qj Z0 [] false (Xa good_indexNode Gu.eq_def W4);have Ko:=Vx.eq_def;refine Yv K Tryz.func158 [.tmp 4] rfl 9 rfl (fun c hc Jj Zo=>?_);unfold Vx at Zo;obtain ⟨⟨l⟩,⟨v⟩,rfl,hl,hv⟩:=Jd Zo;simp only at hl hv;have Qu:=cY (p:=Ns v) (l:=l);cases hc;have Qz:=@T7;have Qs:=@As;have Q0:=@vO;have Q6:=@aY;have Q5:=@Zt;have Ja:=@Zr;have Jq:=@Zu;have Q9:=@Zp;have Je:=@Wt;have Qe:=@Zs;exact uN
def Ca:Con:=Vy (fun (l:Sl Node) (f:Sl Int)=>l.l.length≤9223372036854775807∧f.l.length≤1000000) (fun l f=>!l.l.any (Ns f.l))
theorem qG:Jc Tryz.prog (139,Ca):=by
 obtain ⟨Kx,Kt,Kc,Kd,Kb,Ku,Kw,K,Y6,_⟩:=W5 Qj Z0 [] false (Xa Fr Vx.eq_def W4);have Ko:=Ca.eq_def;refine Yv K Tryz.func139 [.tmp 4] rfl 9 rfl (fun c hc Jj Zo=>?_);unfold Ca at Zo;obtain ⟨⟨l⟩,⟨v⟩,rfl,hl,hv⟩:=Jd Zo;simp only at hl hv;cases hc;have Qu:=@wG;have Qz:=@vN;have Qs:=@aY;have Q0:=@Zt;have Q6:=@Zr;have Q5:=@Zu;have Ja:=@Zp;have Jq:=@Wt;have Q9:=@Zs;exact uN
theorem pL (t:List Node):(!t.any (Ns [8,9]))=Sq t:=by
 unfold Sq;rw [List.not_any_eq_all_not]
 congr 1
 funext n
 simp [Ns,Zb7,bne]
def B6:Con:=Xd (fun (t:Sl Node)=>t.l.length≤9223372036854775807) (fun t=>Sq t.l)
theorem nJ:Jc Tryz.prog (100,B6):=by
 obtain ⟨Kx,Kt,Kc,Kd,Kb,Ku,Kw,K,Y6,_⟩:=W5 Qj Z0 [] false (Xa qG Ca.eq_def W4);have Ko:=B6.eq_def;refine Yv K Tryz.func100 [.tmp 2] rfl 6 rfl (fun c hc Jj Zo=>?_);unfold B6 at Zo;obtain ⟨⟨t⟩,rfl,ht⟩:=Qp Zo;simp only at ht;have Qu:=pL t;cases hc;have Qz:=@Zt;have Qs:=@Zr;have Q0:=@Zu;have Q6:=@Zp;have Q5:=@Wt;have Ja:=@Zs;exact uN
structure Rune where
 v:Int
instance encRune:Enc Rune:=⟨fun a=>.int .i32 a.v,fun x=>⟨x.i⟩,fun _=>rfl⟩
theorem cH {a:Rune}:(enc a:D)=.int .i32 a.v:=rfl
theorem cM {v:Int}:(dec (.int .i32 v):Rune)=⟨v⟩:=rfl
theorem cX {v:Int}:Tu Rune (.int .i32 v)=True:=eq_true rfl
theorem Zoi {v:Int}:(Rune.mk v).v=v:=rfl
theorem aT {a:Rune}:Rune.mk a.v=a:=rfl
def K5 (r:Int):Bool:=Ju 97 r&&Ju r 122
def K9 (r:Int):Bool:=Ju 65 r&&Ju r 90
def Gw (r:Int):Bool:=K5 r||(K9 r||((Ju 48 r&&Ju r 57)||r==95))
def Hx:Con:=Xd (fun (_:Rune)=>True) (fun a=>K5 a.v)
class KaX:Prop
theorem KaX.k (_:KaX) (h:p:=by
 unfold K5;repeat' first|exact Lz|with_reducible apply Z3|intro _
 all_goals first|(simp_all [Ju];done)|(simp_all [Ju];omega)):p:=h
theorem good_isSmallG:Jc Tryz.prog (82,Hx):=by
 obtain ⟨Kx,Kt,Kc,Kd,Kb,Ku,Kw,K,_⟩:=W5 Qj Z0 [] false W4;have Ko:=Hx.eq_def;refine Yv K Tryz.func82 [.tmp 2] rfl 9 rfl (fun c hc Jj Zo=>?_);unfold Hx at Zo;obtain ⟨a,rfl,-⟩:=Qp Zo;cases hc;have Qu:=@cH;have Qz:=@cM;have Qs:=@cX;have Q0:=@aT;have Kq:KaX:=⟨⟩;exact Nj
def H2:Con:=Xd (fun (_:Rune)=>True) (fun a=>K9 a.v)
class KaY:Prop
theorem KaY.k (_:KaY) (h:p:=by
 unfold K9;repeat' first|exact Lz|with_reducible apply Z3|intro _
 all_goals first|(simp_all [Ju];done)|(simp_all [Ju];omega)):p:=h
theorem good_isGreatG:Jc Tryz.prog (81,H2):=by
 obtain ⟨Kx,Kt,Kc,Kd,Kb,Ku,Kw,K,_⟩:=W5 Qj Z0 [] false W4;have Ko:=H2.eq_def;refine Yv K Tryz.func81 [.tmp 2] rfl 9 rfl (fun c hc Jj Zo=>?_);unfold H2 at Zo;obtain ⟨a,rfl,-⟩:=Qp Zo;cases hc;have Qu:=@cH;have Qz:=@cM;have Qs:=@cX;have Q0:=@aT;have Kq:KaY:=⟨⟩;exact Nj
def Pc:Con:=Xd (fun (_:Rune)=>True) (fun a=>Gw a.v)
class KaZ:Prop
theorem KaZ.k (_:KaZ) (h:p:=by
 unfold Gw;repeat' first|exact Lz|with_reducible apply Z3|intro _
 all_goals first|(simp_all [Ju];done)|(simp_all [Ju];omega)):p:=h
theorem good_isBehindG:Jc Tryz.prog (101,Pc):=by
 obtain ⟨Kx,Kt,Kc,Kd,Kb,Ku,Kw,K,Y6,P7,_⟩:=W5 Qj Z0 [] false (Xa good_isGreatG H2.eq_def (Xa good_isSmallG Hx.eq_def W4));have Ko:=Pc.eq_def;refine Yv K Tryz.func101 [.tmp 2] rfl 21 rfl (fun c hc Jj Zo=>?_);unfold Pc at Zo;obtain ⟨a,rfl,-⟩:=Qp Zo;cases hc;have Qu:=@cH;have Qz:=@cM;have Qs:=@cX;have Q0:=@aT;have Q6:=@Zoi;have Kq:KaZ:=⟨⟩;exact Nj
theorem cT {P:Program} {f:FuncId} {con:Con} {b:Bool} (hg:Jc P (f,con)) (W:World) (xs:List D) (args:Array Value) (hR:Rs (K2 W) xs args.toList) (Zo:con.pre (xs.map .d)) (dR:con.fn (xs.map .d)=.d (.bool b)) :
  Calls P f args W fun e W'=>e=.returned (.bool b)∧Go.RowKit.Below W.heap.size W W':=by
 have h:=hg.2 (K2 W).m W (xs.map .d) args.toList Zo (Eh hR) (by rw [Pp];exact List.nodup_nil) (gS W)
 rw [show args.toList.toArray=args by simp] at h
 refine h.mono ?_;rintro e W' ⟨v,m',rfl,O2,_,_,dL⟩
 change oC _ _ _ (con.fn (xs.map .d)) v at dL
 rw [dR] at dL;simp only [oC,Wn,eP,R] at dL;obtain ⟨⟨v1,r,Zay,rfl,rfl⟩,_⟩:=dL;injection Zay with Zay _
 subst Zay;refine ⟨rfl,O2.os,O2.tape,O2.output,O2.size,fun k hk=>O2.block k hk ?_⟩;rw [Pp];exact Wp
theorem Dv {f:FuncId} {p:Int→Bool} (hg:Jc Tryz.prog (f,Xd (fun (_:Rune)=>True) (fun a=>p a.v))) (r:Int) (W:World) :
  Calls Tryz.prog f #[.int .i32 r] W fun e W'=>e=.returned (.bool (p r))∧Go.RowKit.Below W.heap.size W W' :=
 cT (con:=Xd (fun (_:Rune)=>True) (fun a=>p a.v)) hg W [.int .i32 r] #[.int .i32 r] ⟨_,_,rfl,rfl,rfl⟩ ⟨rfl,trivial⟩ rfl
theorem Dm (r:Int) (W:World):Calls Tryz.prog 82 #[.int .i32 r] W fun e W'=>e=.returned (.bool (K5 r))∧Go.RowKit.Below W.heap.size W W':=Dv good_isSmallG r W
theorem Dn (r:Int) (W:World):Calls Tryz.prog 81 #[.int .i32 r] W fun e W'=>e=.returned (.bool (K9 r))∧Go.RowKit.Below W.heap.size W W':=Dv good_isGreatG r W
theorem Ki (r:Int) (W:World):Calls Tryz.prog 101 #[.int .i32 r] W fun e W'=>e=.returned (.bool (Gw r))∧Go.RowKit.Below W.heap.size W W':=Dv good_isBehindG r W
open Go.Proofs Go.RowKit
theorem fJ (s:ByteArray) (pos:Nat) (h:pos<s.size):1≤(Utf8.decode s pos).2:=by
 simp only [Utf8.decode];repeat' split
 all_goals simp
def Xq (p:Int→Bool) (s:ByteArray):Nat→Nat→Bool
 | 0,_=>true
 | n+1,pos=>if pos<s.size then (cond (pos==0) (p ((Utf8.decode s pos).1:Int)) (Gw ((Utf8.decode s pos).1:Int))&&Xq p s n (pos+(Utf8.decode s pos).2)) else true
theorem Eb {p:Int→Bool} {s:ByteArray} {n pos:Nat} (h:¬ pos<s.size):Xq p s n pos=true:=by
 cases n with
 | zero=>rfl
 | succ n=>rw [Xq,if_neg h]
theorem Hb {B B':Nat} {a b:World} (h:Below B' a b) (hl:B≤B'):Below B a b:=⟨h.os,h.tape,h.output,h.size,fun k hk=>h.block k (by omega)⟩
set_option maxRecDepth 1000000 in
set_option maxHeartbeats 4000000 in
theorem qT (s:ByteArray) (w:World) :
  Calls Tryz.prog 80 #[.string s,.func (.func 82) #[] #[]] w fun e w'=>e=.returned (.bool (Xq K5 s s.size 0&&!(s.data.toList==[])))∧Below w.heap.size w w':=by
 go_enter Tryz.func80,Tryz.ntmps80
 go_wp2
 go_loopw [] (fun wr=>∃ pos fuel:Nat,wr.heap[w.heap.size]?=some (.stringIter s pos)∧Below w.heap.size w wr∧Hid (Xq K5 s fuel pos=Xq K5 s s.size 0)∧s.size≤pos+fuel) (fun wr=>s.size-wr.iterPos w.heap.size)
 case atStart=>exact ⟨0,s.size,World.iter_heap w s 0,(Below.refl _ _).alloc (Zk _) _,rfl,by omega⟩
 case round =>
  obtain ⟨pos,fuel,O0,Zpl,HS,hb⟩:=hrel;have oH:=iterPos_of O0;by_cases hp:pos<s.size
  ·have eR:∀ ty,(Instr.next (.pointer (some ⟨w.heap.size,0,none⟩)) true ty).run Tryz.prog wr=_:=fun ty=>Lib.run_next_any_at wr w.heap.size s pos ty O0 hp;have Zyo:=fJ s pos hp;obtain ⟨fuel,rfl⟩:∃ f',fuel=f'+1:=⟨fuel-1,by omega⟩
   have Ru:=Lib.iterAt_heap wr w.heap.size s pos (pos+(Utf8.decode s pos).2) O0;have dS:=Lib.below_iterAt Zpl (k:=w.heap.size) (Zk _) s (pos+(Utf8.decode s pos).2);obtain ⟨W1,Ztd⟩:∃ W1,W1=wr.iterAt w.heap.size s (pos+(Utf8.decode s pos).2):=⟨_,rfl⟩;rw [←Ztd] at eR Ru dS;have Qd:w.heap.size<W1.heap.size:=lt_of_block Ru;clear Ztd O0 Zpl;by_cases h0:pos=0
   ·subst h0;cases hr:K5 ((Utf8.decode s 0).1:Int) with
    | false =>
     go_wp2_with (go_at_call 82;refine (Dm _ _).mono ?_;rintro e W2 ⟨rfl,Dq⟩;simp only [hr])
     go_ret
     refine ⟨?_,dS.trans (Hb Dq (by first|omega|(simp;omega)|exact Qd|exact Nat.le_of_lt Qd))⟩
     have e0:Xq K5 s s.size 0=false:=by rw [←HS.out];simp [Xq,hp,hr]
     rw [e0,Bool.false_and];rfl
    | true =>
     go_wp2_with (go_at_call 82;refine (Dm _ _).mono ?_;rintro e W2 ⟨rfl,Dq⟩;simp only [hr])
     have dP:W2.heap[w.heap.size]?=some (.stringIter s (0+(Utf8.decode s 0).2)):=(Dq.block w.heap.size (by first|omega|(simp;omega)|exact Qd|exact Nat.le_of_lt Qd)).trans Ru
     refine ⟨⟨_,fuel,dP,dS.trans (Hb Dq (by first|omega|(simp;omega)|exact Qd|exact Nat.le_of_lt Qd)),?_,by omega⟩,?_⟩
     ·show _=_;rw [←HS.out];simp [Xq,hp,hr]
     ·rw [iterPos_of dP,oH];omega
   ·have Zyz:((pos:Int)==0)=false:=by rw [Za];omega
    have Zyx:(decide ((pos:Int) > 0))=true:=by rw [decide_eq_true_eq];omega
    have Zoz:(pos==0)=false:=by rw [Za];exact h0
    cases hr:Gw ((Utf8.decode s pos).1:Int) with
    | false =>
     go_wp2_with (go_at_call 101;refine (Ki _ _).mono ?_;rintro e W2 ⟨rfl,Dq⟩;simp only [hr])
     go_ret
     refine ⟨?_,dS.trans (Hb Dq (by first|omega|(simp;omega)|exact Qd|exact Nat.le_of_lt Qd))⟩
     have e0:Xq K5 s s.size 0=false:=by rw [←HS.out];simp [Xq,hp,hr,Zoz]
     rw [e0,Bool.false_and];rfl
    | true =>
     go_wp2_with (go_at_call 101;refine (Ki _ _).mono ?_;rintro e W2 ⟨rfl,Dq⟩;simp only [hr])
     have dP:W2.heap[w.heap.size]?=some (.stringIter s (pos+(Utf8.decode s pos).2)):=(Dq.block w.heap.size (by first|omega|(simp;omega)|exact Qd|exact Nat.le_of_lt Qd)).trans Ru
     refine ⟨⟨_,fuel,dP,dS.trans (Hb Dq (by first|omega|(simp;omega)|exact Qd|exact Nat.le_of_lt Qd)),?_,by omega⟩,?_⟩
     ·show _=_;rw [←HS.out];simp [Xq,hp,hr,Zoz]
     ·rw [iterPos_of dP,oH];omega
  ·have eR:∀ ty,(Instr.next (.pointer (some ⟨w.heap.size,0,none⟩)) true ty).run Tryz.prog wr=_:=fun ty=>Lib.run_next_end_at wr w.heap.size s pos ty O0 hp
   go_wp2
   go_ret
   refine ⟨?_,Zpl⟩;rw [←HS.out,Eb hp,Bool.true_and]
   congr 2
   rw [ByteArray.toList_mk];cases s.data.toList<;>rfl
set_option maxRecDepth 1000000 in
set_option maxHeartbeats 4000000 in
theorem qU (s:ByteArray) (w:World) :
  Calls Tryz.prog 80 #[.string s,.func (.func 81) #[] #[]] w fun e w'=>e=.returned (.bool (Xq K9 s s.size 0&&!(s.data.toList==[])))∧Below w.heap.size w w':=by
 go_enter Tryz.func80,Tryz.ntmps80
 go_wp2
 go_loopw [] (fun wr=>∃ pos fuel:Nat,wr.heap[w.heap.size]?=some (.stringIter s pos)∧Below w.heap.size w wr∧Hid (Xq K9 s fuel pos=Xq K9 s s.size 0)∧s.size≤pos+fuel) (fun wr=>s.size-wr.iterPos w.heap.size)
 case atStart=>exact ⟨0,s.size,World.iter_heap w s 0,(Below.refl _ _).alloc (Zk _) _,rfl,by omega⟩
 case round =>
  obtain ⟨pos,fuel,O0,Zpl,HS,hb⟩:=hrel;have oH:=iterPos_of O0;by_cases hp:pos<s.size
  ·have eR:∀ ty,(Instr.next (.pointer (some ⟨w.heap.size,0,none⟩)) true ty).run Tryz.prog wr=_:=fun ty=>Lib.run_next_any_at wr w.heap.size s pos ty O0 hp;have Zyo:=fJ s pos hp;obtain ⟨fuel,rfl⟩:∃ f',fuel=f'+1:=⟨fuel-1,by omega⟩
   have Ru:=Lib.iterAt_heap wr w.heap.size s pos (pos+(Utf8.decode s pos).2) O0;have dS:=Lib.below_iterAt Zpl (k:=w.heap.size) (Zk _) s (pos+(Utf8.decode s pos).2);obtain ⟨W1,Ztd⟩:∃ W1,W1=wr.iterAt w.heap.size s (pos+(Utf8.decode s pos).2):=⟨_,rfl⟩;rw [←Ztd] at eR Ru dS;have Qd:w.heap.size<W1.heap.size:=lt_of_block Ru;clear Ztd O0 Zpl;by_cases h0:pos=0
   ·subst h0;cases hr:K9 ((Utf8.decode s 0).1:Int) with
    | false =>
     go_wp2_with (go_at_call 81;refine (Dn _ _).mono ?_;rintro e W2 ⟨rfl,Dq⟩;simp only [hr])
     go_ret
     refine ⟨?_,dS.trans (Hb Dq (by first|omega|(simp;omega)|exact Qd|exact Nat.le_of_lt Qd))⟩
     have e0:Xq K9 s s.size 0=false:=by rw [←HS.out];simp [Xq,hp,hr]
     rw [e0,Bool.false_and];rfl
    | true =>
     go_wp2_with (go_at_call 81;refine (Dn _ _).mono ?_;rintro e W2 ⟨rfl,Dq⟩;simp only [hr])
     have dP:W2.heap[w.heap.size]?=some (.stringIter s (0+(Utf8.decode s 0).2)):=(Dq.block w.heap.size (by first|omega|(simp;omega)|exact Qd|exact Nat.le_of_lt Qd)).trans Ru
     refine ⟨⟨_,fuel,dP,dS.trans (Hb Dq (by first|omega|(simp;omega)|exact Qd|exact Nat.le_of_lt Qd)),?_,by omega⟩,?_⟩
     ·show _=_;rw [←HS.out];simp [Xq,hp,hr]
     ·rw [iterPos_of dP,oH];omega
   ·have Zyz:((pos:Int)==0)=false:=by rw [Za];omega
    have Zyx:(decide ((pos:Int) > 0))=true:=by rw [decide_eq_true_eq];omega
    have Zoz:(pos==0)=false:=by rw [Za];exact h0
    cases hr:Gw ((Utf8.decode s pos).1:Int) with
    | false =>
     go_wp2_with (go_at_call 101;refine (Ki _ _).mono ?_;rintro e W2 ⟨rfl,Dq⟩;simp only [hr])
     go_ret
     refine ⟨?_,dS.trans (Hb Dq (by first|omega|(simp;omega)|exact Qd|exact Nat.le_of_lt Qd))⟩
     have e0:Xq K9 s s.size 0=false:=by rw [←HS.out];simp [Xq,hp,hr,Zoz]
     rw [e0,Bool.false_and];rfl
    | true =>
     go_wp2_with (go_at_call 101;refine (Ki _ _).mono ?_;rintro e W2 ⟨rfl,Dq⟩;simp only [hr])
     have dP:W2.heap[w.heap.size]?=some (.stringIter s (pos+(Utf8.decode s pos).2)):=(Dq.block w.heap.size (by first|omega|(simp;omega)|exact Qd|exact Nat.le_of_lt Qd)).trans Ru
     refine ⟨⟨_,fuel,dP,dS.trans (Hb Dq (by first|omega|(simp;omega)|exact Qd|exact Nat.le_of_lt Qd)),?_,by omega⟩,?_⟩
     ·show _=_;rw [←HS.out];simp [Xq,hp,hr,Zoz]
     ·rw [iterPos_of dP,oH];omega
  ·have eR:∀ ty,(Instr.next (.pointer (some ⟨w.heap.size,0,none⟩)) true ty).run Tryz.prog wr=_:=fun ty=>Lib.run_next_end_at wr w.heap.size s pos ty O0 hp
   go_wp2
   go_ret
   refine ⟨?_,Zpl⟩;rw [←HS.out,Eb hp,Bool.true_and]
   congr 2
   rw [ByteArray.toList_mk];cases s.data.toList<;>rfl
theorem zT (s:ByteArray) (pos:Nat) (h:pos<s.size):s.get! (pos+0)=s.data.toList[pos]'(by simpa using h):=by
 show s.get! pos=_;simp [ByteArray.get!,getElem!_pos,h]
theorem cL {s:ByteArray} {pos:Nat} (h:pos<s.size) (hc:(s.data.toList[pos]'(by simpa using h)).toNat<128):Utf8.decode s pos=((s.data.toList[pos]'(by simpa using h)).toNat,1):=by
 simp only [Utf8.decode,zT s pos h,if_pos hc]
theorem I8 {s:ByteArray} {pos:Nat} (h:pos<s.size) (hc:¬ (s.data.toList[pos]'(by simpa using h)).toNat<128):128≤(Utf8.decode s pos).1:=by
 simp only [Utf8.decode,zT s pos h,if_neg hc,Utf8.runeError];repeat' split
 all_goals simp_all
 all_goals omega
theorem nU {c:UInt8} (h:c.toNat<128):Gw (c.toNat:Int)=behind c:=by
 have:∀ c:Fin 256,Gw ((c.val:Nat):Int)=behind (UInt8.ofNat c.val):=by decide +kernel
 have:=this ⟨c.toNat,c.toNat_lt⟩;simpa using this
theorem kK {r:Nat} (h:128≤r):Gw (r:Int)=false:=by
 simp [Gw,K5,K9,Ju];omega
theorem nT {c:UInt8} (h:¬ c.toNat<128):behind c=false:=by
 have:∀ c:Fin 256,128≤c.val→behind (UInt8.ofNat c.val)=false:=by decide +kernel
 have:=this ⟨c.toNat,c.toNat_lt⟩ (by simp;omega)
 simpa using this
theorem Di {p:Int→Bool} {s:ByteArray}:∀ {n pos:Nat},0<pos→s.size≤pos+n→Xq p s n pos=Uv (s.data.toList.drop pos)
 | 0,pos,h0,h=>by
  rw [List.drop_eq_nil_of_le (by simpa using h)]
  rfl
 | n+1,pos,h0,h=>by
  by_cases hp:pos<s.size
  ·have hl:pos<s.data.toList.length:=by simpa using hp
   rw [Xq,if_pos hp,List.drop_eq_getElem_cons hl];have hz:(pos==0)=false:=by rw [Za];omega
   rw [hz,cond_false];unfold Uv;rw [List.all_cons];by_cases hc:(s.data.toList[pos]'hl).toNat<128
   ·rw [cL hp hc,nU hc];simp only;rw [Di (by omega) (by omega)]
    rfl
   ·rw [kK (I8 hp hc),nT hc,Bool.false_and,Bool.false_and]
  ·rw [Eb hp,List.drop_eq_nil_of_le (by simpa using hp)]
   rfl
theorem sU {p:Int→Bool} {q:UInt8→Bool} (h1:∀ c:UInt8,c.toNat<128→p (c.toNat:Int)=q c) (h2:∀ r:Nat,128≤r→p (r:Int)=false) (h3:∀ c:UInt8,¬ c.toNat<128→q c=false) (s:ByteArray) :
  (Xq p s s.size 0&&!(s.data.toList==[]))=match s.data.toList with
  | []=>false
  | c::r=>q c&&Uv r:=by
 have V2:s.size=s.data.toList.length:=by simp
 obtain ⟨l,hl⟩:=exq (s.data.toList);cases l with
 | nil=>rw [hl];simp
 | cons c r =>
  have hn:s.size=r.length+1:=by rw [V2,hl];simp
  have h0:0<s.size:=by omega
  have hc:s.data.toList[0]'(by rw [←V2];exact h0)=c:=by simp [hl]
  have hd:s.data.toList.drop 1=r:=by rw [hl];rfl
  rw [show Xq p s s.size 0=Xq p s (r.length+1) 0 by rw [hn],Xq,if_pos h0,hl]
  simp only [beq_self_eq_true,cond_true];by_cases h:c.toNat<128
  ·rw [cL h0 (by rw [hc];exact h),hc,h1 c h]
   simp only [Nat.zero_add];rw [Di (by omega) (by omega),hd]
   simp
  ·rw [h2 _ (I8 h0 (by rw [hc];exact h)),h3 c h]
   simp
theorem Dg {f:FuncId} {con:Con} (he:Ph Tryz.prog f)
  (h:∀ Jj,con.pre Jj→∃ (xs:List D) (b:Bool),Jj=xs.map .d∧con.fn Jj=.d (.bool b)∧∀ (F:Fix) (vs:List Value) (w:World),Wn F (xs.map .d) vs→Calls Tryz.prog f vs.toArray w fun e w'=>e=.returned (.bool b)∧Below w.heap.size w w'):Jc Tryz.prog (f,con):=by
 refine ⟨he,?_⟩;intro m w Jj vs Zo kR Ek Yl;obtain ⟨xs,b,rfl,dR,hc⟩:=h Jj Zo;refine (hc _ vs w kR).mono ?_;rintro e w' ⟨rfl,hb⟩;refine ⟨_,m,rfl,⟨hb.os,hb.tape,hb.output,hb.size,fun k hk _=>hb.block k hk⟩,fun _ _ _=>rfl,fun k hk=>Yl k (by have:=hb.size;omega),?_⟩
 change oC _ _ _ (con.fn (xs.map .d)) _
 rw [dR];simp only [oC,Wn,eP,R];refine ⟨⟨_,[],rfl,rfl,rfl⟩,fun k hk=>?_⟩;have:Qf ([D.bool b].map .d) [Value.bool b]=[]:=Pp _ _
 change k∈Qf ([D.bool b].map .d) [Value.bool b] at hk
 rw [this] at hk;cases hk
theorem Er (a b c:UInt8):Ng c a b=(Ju (a.toNat:Int) (c.toNat:Int)&&Ju (c.toNat:Int) (b.toNat:Int)):=by rw [Ho,Ho];rfl
def iW:Con:=Vy (fun (_:List UInt8) (_:Fn0 82)=>True) (fun s _=>J4 s)
theorem qM:Jc Tryz.prog (80,iW):=by
 refine Dg (Xc Tryz.func80 (by kernel_rfl) rfl) fun Jj Zo=>?_
 obtain ⟨s,f,rfl,-⟩:=Jd Zo;refine ⟨[.str s,.clo 82 []],J4 s,rfl,rfl,fun F vs w kR=>?_⟩;simp only [List.map,Wn,eP,R,Rs] at kR;obtain ⟨v1,r1,rfl,rfl,v2,r2,rfl,⟨cs,rfl,rfl⟩,rfl⟩:=kR;have h:=sU (p:=K5) (q:=fun c=>Ng c 97 122) (fun c _=>(Er 97 122 c).symm) (fun r hr=>by simp [K5,Ju];omega) (fun c hc=>by rw [Er];simp [Ju];omega) ⟨s.toArray⟩
 refine (qT ⟨s.toArray⟩ w).mono ?_;rintro e w' ⟨rfl,hb⟩;refine ⟨?_,hb⟩;rw [h];cases s<;>rfl
def iV:Con:=Vy (fun (_:List UInt8) (_:Fn0 81)=>True) (fun s _=>K1 s)
theorem qL:Jc Tryz.prog (80,iV):=by
 refine Dg (Xc Tryz.func80 (by kernel_rfl) rfl) fun Jj Zo=>?_
 obtain ⟨s,f,rfl,-⟩:=Jd Zo;refine ⟨[.str s,.clo 81 []],K1 s,rfl,rfl,fun F vs w kR=>?_⟩;simp only [List.map,Wn,eP,R,Rs] at kR;obtain ⟨v1,r1,rfl,rfl,v2,r2,rfl,⟨cs,rfl,rfl⟩,rfl⟩:=kR;have h:=sU (p:=K9) (q:=fun c=>Ng c 65 90) (fun c _=>(Er 65 90 c).symm) (fun r hr=>by simp [K9,Ju];omega) (fun c hc=>by rw [Er];simp [Ju];omega) ⟨s.toArray⟩
 refine (qU ⟨s.toArray⟩ w).mono ?_;rintro e w' ⟨rfl,hb⟩;refine ⟨?_,hb⟩;rw [h];cases s<;>rfl
def Vk:Con:=Xd (fun (_:List UInt8)=>True) (fun s=>J4 s)
theorem Ht:Jc Tryz.prog (54,Vk):=by
 obtain ⟨Kx,Kt,Kc,Kd,Kb,Ku,Kw,K,Y6,_⟩:=W5 Qj Z0 [] false (Xa qM iW.eq_def W4);have Ko:=Vk.eq_def;refine Yv K Tryz.func54 [.tmp 2] rfl 5 rfl (fun c hc Jj Zo=>?_);unfold Vk at Zo;obtain ⟨s,rfl,-⟩:=Qp Zo;cases hc;have Qu:=@Gm;exact Zbp
def Gg:Con:=Xd (fun (_:List UInt8)=>True) (fun s=>K1 s)
theorem S4:Jc Tryz.prog (53,Gg):=by
 obtain ⟨Kx,Kt,Kc,Kd,Kb,Ku,Kw,K,Y6,_⟩:=W5 Qj Z0 [] false (Xa qL iV.eq_def W4);have Ko:=Gg.eq_def;refine Yv K Tryz.func53 [.tmp 2] rfl 5 rfl (fun c hc Jj Zo=>?_);unfold Gg at Zo;obtain ⟨s,rfl,-⟩:=Qp Zo;cases hc;have Qu:=@Gm;exact Zbp
def Mw:Con:=Xd (fun (_:Node)=>True) (fun n=>Y1 n)
class Kba:Prop
theorem Kba.k (_:Kba) (h:p:=by
 unfold Y1;repeat' first|exact Lz|with_reducible apply Z3|intro _
 all_goals
  rw [Bool.eq_iff_iff];repeat' split
  all_goals first|(exfalso;omega)|(simp only [Ju,Jw,Ze,decide_eq_true_eq,Zi,Zl];omega)|(simp only [Ju,Jw,Ze,decide_eq_true_eq,Zi,Zl,false_iff];omega)|(simp only [Ju,Jw,Ze,decide_eq_true_eq,Zi,Zl];done)):p:=h
theorem good_isNodeT:Jc Tryz.prog (135,Mw):=by
 obtain ⟨Kx,Kt,Kc,Kd,Kb,Ku,Kw,K,_⟩:=W5 Qj Z0 [] false W4;have Ko:=Mw.eq_def;refine Yv K Tryz.func135 [.tmp 2] rfl 45 rfl (fun c hc Jj Zo=>?_);unfold Mw at Zo;obtain ⟨n,rfl,-⟩:=Qp Zo;cases hc;refine Kn 2 ?_;have Qu:=@Zt;have Qz:=@Zr;have Qs:=@Zu;have Q0:=@Zp;have Q6:=@Wt;have Q5:=@Zs;have Kq:Kba:=⟨⟩;exact Nj
def qB (k:Int) (s:List UInt8):Bool:=if k=6 then J4 s else if k=7 then K1 s else s==[]
def Hz:Con:=Vy (fun (_:Int) (_:List UInt8)=>True) qB
class Kbb:Prop
theorem Kbb.k (_:Kbb) (h:p:=by
 unfold qB;repeat' first|exact Lz|with_reducible apply Z3|intro _
 all_goals simp_all):p:=h
theorem good_isLabelT:Jc Tryz.prog (138,Hz):=by
 obtain ⟨Kx,Kt,Kc,Kd,Kb,Ku,Kw,K,Y6,P7,_⟩:=W5 Qj Z0 [] false (Xa Ht Vk.eq_def (Xa S4 Gg.eq_def W4));have Ko:=Hz.eq_def;refine Yv K Tryz.func138 [.tmp 4] rfl 16 rfl (fun c hc Jj Zo=>?_);unfold Hz at Zo;obtain ⟨k,s,rfl,-⟩:=Jd Zo;cases hc;have Qu:=@Zt;have Qz:=@Zr;have Qs:=@Zu;have Q0:=@Zp;have Q6:=@Wt;have Q5:=@Zs;have Kq:Kbb:=⟨⟩;exact Nj
end Go.Am.Ty
