/-
  The statement 'ScopeTurnedSaid': for every input the law returns true, and its arguments read as before.
  Conditions: none beyond the row's own.
-/
import Derived.Test.YtilpfkjhahnfaaaGreatRows
import Derived.Test.YtilpfkjhahnfaaaGreatF12
set_option linter.unusedSimpArgs false
namespace Go.Proofs.YtilpfkjhahnfaaaGreat.scopeTurned
open Go.Am Go.ChangeShapes Go.WideShapes Go.ChangeAt Go.RowKit
theorem own:ownKnob Tryz.prog.godebug=none:=by kernel_rfl
theorem laid:laidOutB Tryz.prog=true:=by kernel_rfl
set_option maxRecDepth 100000 in
theorem reads {H:Type} (enc:TypeId×Value→H) (W:World) (base:Nat) (args:Array Value) (ds:List (DataW H))
  (hval:∀ (j:Nat) t v,Tryz.f8.params[j]?=some t→args[j]?=some v→Value.okWide Tryz.prog W .any base t v) (ps:List MemPlace)
  (hA:DataW.TrodAll enc Tryz.prog W 0 (fun _=>true) true Tryz.f8.params.toList args.toList ds ps) :
  ∃ xs:List D,Rs (Cz W) xs args.toList∧Go.Am.Ty.con_ScopeTurned.pre (xs.map .d)∧Go.Am.Ty.con_ScopeTurned.fn (xs.map .d)=.d (.bool true):=by
 rw [Tryz.params8] at hA hval;obtain ⟨v0,vs0,d0,ds0,p0,q0,hargs,rfl,rfl,h0,r0⟩:=trodAll_cons hA;obtain ⟨rfl,rfl,rfl⟩:=trodAll_nil r0;obtain rfl:args=#[v0]:=by cases args;simp_all
 obtain ⟨x0,⟨a0,rfl,o0⟩,g0⟩:=Zca Go.Am.Ty.rdTx9 (.inl ⟨_,Tryz.underlying24⟩) (hval 0 24 v0 rfl rfl) h0;refine ⟨[Enc.enc a0],?_,?_,rfl⟩
 ·simp only [Rs];exact ⟨v0,_,rfl,g0,rfl⟩
 ·show Go.Am.Ty.con_ScopeTurned.pre [.d (Enc.enc a0)];unfold Go.Am.Ty.con_ScopeTurned;unfold maxLen at *;refine ⟨Wg a0,?_⟩;simp only [Enc.dec_enc];all_goals trivial
theorem spec_eq (H:Type) (ds:List (DataW H)) (h:ds.length=Tryz.f8.params.toList.length):Rows.scopeTurnedSpec.fn H ds={ results:=[.lit (.bool true)],args:=ds }:=by
 rw [Tryz.params8] at h
 match ds,h with
 | [_],_=>rfl
theorem fits_types:∀ t∈Tryz.f8.params.toList,Tryz.prog.readableRec t=true∧t<Tryz.prog.types.size:=by
 rw [Tryz.params8];intro t ht;simp only [Zu,Kl,or_false] at ht;rcases ht with rfl
 all_goals exact ⟨by kernel_rfl,of_decide_eq_true (by kernel_rfl)⟩
set_option maxRecDepth 100000 in
theorem lifted (os:Os) (started:os.Started) (H:Type) (enc:TypeId×Value→H) :
  ReturnsInHanded {} Tryz.checked os 8 .any (Rows.scopeTurnedSpec.pre6 enc Tryz.prog Tryz.f8 Rows.scopeTurnedRow.domain false) (Rows.scopeTurnedSpec.post enc Tryz.prog Tryz.f8 false true false false):=by
 refine returnsInHanded_of_change (C:=Tryz.checked) own started (by kernel_rfl) Tryz.func8
  (ChangeSpec.witness6 (enc:=enc) (C:=Tryz.checked) false ⟨#[],#[.agg #[.slice none 0 0,.slice none 0 0]],[]⟩ 8 (by kernel_rfl) (by kernel_rfl) (by kernel_rfl) (by kernel_rfl)) ?_
 intro W base args ds gs before hval hW _ _;exact Ti Go.Am.Ty.good_ScopeTurned rfl laid fits_types (by kernel_rfl) Tryz.underlying4 spec_eq enc W args ds gs before (reads enc W base args ds hval) hW
theorem over:Rows.scopeTurnedRow.holds Tryz.pinned (OpenSpec.ofChange Rows.scopeTurnedSpec) :=
 OpenClaim.holds_of_wide 8 Tryz.f8 rfl rfl rfl rfl rfl rfl rfl ⟨rfl,rfl,rfl,rfl,rfl⟩ rfl rfl rfl rfl rfl (by kernel_rfl) Tryz.func8 (by kernel_rfl)
  (of_decide_eq_true (by kernel_rfl)) (by unfold Func.isWrapper;first|(rw [if_pos (by decide +kernel)];kernel_rfl)|(rw [if_neg (by decide +kernel)];exact ⟨rfl,rfl⟩))
  (fun os started H enc _=>lifted os started H enc)
theorem proved:Rows.ScopeTurnedSaid :=
 over
end Go.Proofs.YtilpfkjhahnfaaaGreat.scopeTurned
