/-
  The statement 'ScopeOnceSaid': for every input the law returns true, and its arguments read as before.
  Conditions: none beyond the row's own.
-/
import Derived.Test.YtilpfkjhahnfaaaRows
import Derived.Test.YtilpfkjhahnfaaaK6
namespace Go.Proofs.Ytilpfkjhahnfaaa.scopeOnce
open Go.Am Go.ChangeShapes Go.WideShapes Go.ChangeAt Go.RowKit
theorem own:ownKnob Try.prog.godebug=none:=by kernel_rfl
theorem laid:laidOutB Try.prog=true:=by kernel_rfl
set_option maxRecDepth 100000 in
theorem reads {H:Type} (enc:TypeId×Value→H) (W:World) (base:Nat) (args:Array Value) (ds:List (DataW H))
  (hval:∀ (j:Nat) t v,Try.f3.params[j]?=some t→args[j]?=some v→Value.okWide Try.prog W .any base t v) (ps:List MemPlace)
  (hA:DataW.TrodAll enc Try.prog W 0 (fun _=>true) true Try.f3.params.toList args.toList ds ps) :
  ∃ xs:List D,Rs (fixOf W) xs args.toList∧Go.Am.Ty.con_ScopeOnce.pre (xs.map .d)∧Go.Am.Ty.con_ScopeOnce.fn (xs.map .d)=.d (.bool true):=by
 rw [Try.params3] at hA hval
 obtain ⟨v0,vs0,d0,ds0,p0,q0,hargs,rfl,rfl,h0,r0⟩:=trodAll_cons hA
 obtain ⟨v1,vs1,d1,ds1,p1,q1,rfl,rfl,rfl,h1,r1⟩:=trodAll_cons r0
 obtain ⟨rfl,rfl,rfl⟩:=trodAll_nil r1
 obtain rfl:args=#[v0,v1]:=by cases args;simp_all
 obtain ⟨x0,⟨a0,rfl,o0⟩,g0⟩:=arg_agg Go.Am.Ty.rdTx9 (.inl ⟨_,Try.underlying24⟩) (hval 0 24 v0 rfl rfl) h0
 obtain ⟨x1,⟨a1,rfl,o1⟩,g1⟩:=arg_flat Go.Am.Ty.rdN (by rw [Try.underlying3];intro _ h;cases h) (by rw [Try.underlying3];intro _ _ h;cases h) (hval 1 3 v1 rfl rfl) h1
 refine ⟨[Enc.enc a0,Enc.enc a1],?_,?_,rfl⟩
 ·simp only [Rs]
  exact ⟨v0,_,rfl,g0,⟨v1,_,rfl,g1,rfl⟩⟩
 ·show Go.Am.Ty.con_ScopeOnce.pre [.d (Enc.enc a0),.d (Enc.enc a1)]
  unfold Go.Am.Ty.con_ScopeOnce
  unfold maxLen at *
  refine ⟨Cp a0,Cp a1,?_⟩
  simp only [Enc.dec_enc]
  exact o1
theorem spec_eq (H:Type) (ds:List (DataW H)) (h:ds.length=Try.f3.params.toList.length):Rows.scopeOnceSpec.fn H ds={ results:=[.lit (.bool true)],args:=ds }:=by
 rw [Try.params3] at h
 match ds,h with
 | [_,_],_=>rfl
theorem fits_types:∀ t∈Try.f3.params.toList,Try.prog.readableRec t=true∧t<Try.prog.types.size:=by
 rw [Try.params3]
 intro t ht
 simp only [bQ,bZ,or_false] at ht
 rcases ht with rfl|rfl
 all_goals exact ⟨by kernel_rfl,of_decide_eq_true (by kernel_rfl)⟩
set_option maxRecDepth 100000 in
theorem lifted (os:Os) (started:os.Started) (H:Type) (enc:TypeId×Value→H) :
  ReturnsInHanded {} Try.checked os 3 .any (Rows.scopeOnceSpec.pre6 enc Try.prog Try.f3 Rows.scopeOnceRow.domain false) (Rows.scopeOnceSpec.post enc Try.prog Try.f3 false true false false):=by
 refine returnsInHanded_of_change (C:=Try.checked) own started (by kernel_rfl) Try.func3
  (ChangeSpec.witness6 (enc:=enc) (C:=Try.checked) false ⟨#[],#[.agg #[.slice none 0 0,.slice none 0 0],.int .i64 0],[]⟩ 8 (by kernel_rfl) (by kernel_rfl) (by kernel_rfl) (by kernel_rfl)) ?_
 intro W base args ds gs before hval hW _ _
 exact law_contract Go.Am.Ty.good_ScopeOnce rfl laid fits_types (by kernel_rfl) Try.underlying4 spec_eq enc W args ds gs before (reads enc W base args ds hval) hW
theorem over:Rows.scopeOnceRow.holds Try.pinned (OpenSpec.ofChange Rows.scopeOnceSpec) :=
 OpenClaim.holds_of_wide 3 Try.f3 rfl rfl rfl rfl rfl rfl rfl ⟨rfl,rfl,rfl,rfl,rfl⟩ rfl rfl rfl rfl rfl (by kernel_rfl) Try.func3 (by kernel_rfl)
  (of_decide_eq_true (by kernel_rfl)) (by unfold Func.isWrapper;first|(rw [if_pos (by decide +kernel)];kernel_rfl)|(rw [if_neg (by decide +kernel)];exact ⟨rfl,rfl⟩))
  (fun os started H enc _=>lifted os started H enc)
theorem proved:Rows.ScopeOnceSaid :=
 over
end Go.Proofs.Ytilpfkjhahnfaaa.scopeOnce
