/-
  The statement 'AssignMoreSaid': for every input the law returns true, and its arguments read as before.
  Conditions: none beyond the row's own.
-/
import Derived.Test.YtilpfkjhahnfaaaGreatRows
import Derived.Test.YtilpfkjhahnfaaaGreatH12
namespace Go.Proofs.YtilpfkjhahnfaaaGreat.assignMore
open Go.Am Go.ChangeShapes Go.WideShapes Go.ChangeAt Go.RowKit
theorem own:ownKnob Tryz.prog.godebug=none:=by kernel_rfl
theorem laid:laidOutB Tryz.prog=true:=by kernel_rfl
set_option maxRecDepth 100000 in
theorem reads {H:Type} (enc:TypeId×Value→H) (W:World) (base:Nat) (args:Array Value) (ds:List (DataW H))
  (hval:∀ (j:Nat) t v,Tryz.f10.params[j]?=some t→args[j]?=some v→Value.okWide Tryz.prog W .any base t v) (ps:List MemPlace)
  (hA:DataW.TrodAll enc Tryz.prog W 0 (fun _=>true) true Tryz.f10.params.toList args.toList ds ps) :
  ∃ xs:List D,Rs (Tz W) xs args.toList∧Go.Am.Ty.con_AssignMore.pre (xs.map .d)∧Go.Am.Ty.con_AssignMore.fn (xs.map .d)=.d (.bool true):=by
 rw [Tryz.params10] at hA hval;obtain ⟨v0,vs0,d0,ds0,p0,q0,hargs,rfl,rfl,h0,r0⟩:=trodAll_cons hA;obtain ⟨v1,vs1,d1,ds1,p1,q1,rfl,rfl,rfl,h1,r1⟩:=trodAll_cons r0;obtain ⟨rfl,rfl,rfl⟩:=trodAll_nil r1;obtain rfl:args=#[v0,v1]:=by cases args;simp_all
 obtain ⟨x0,⟨a0,rfl,o0⟩,g0⟩:=Zt1 Go.Am.Ty.rdTx9 (.inl ⟨_,Tryz.underlying24⟩) (hval 0 24 v0 rfl rfl) h0;obtain ⟨x1,⟨a1,rfl,o1⟩,g1⟩:=uN Go.Am.Ty.rdChs (by rw [Tryz.underlying59];intro _ h;cases h) (by rw [Tryz.underlying59];intro _ _ h;cases h) (hval 1 59 v1 rfl rfl) h1
 refine ⟨[Enc.enc a0,Enc.enc a1],?_,?_,rfl⟩
 ·simp only [Rs];exact ⟨v0,_,rfl,g0,⟨v1,_,rfl,g1,rfl⟩⟩
 ·show Go.Am.Ty.con_AssignMore.pre [.d (Enc.enc a0),.d (Enc.enc a1)];unfold Go.Am.Ty.con_AssignMore;unfold maxLen at *;refine ⟨Xq a0,Xq a1,?_⟩;simp only [Enc.dec_enc];exact Go.Am.Ty.fitC_of o1
theorem spec_eq (H:Type) (ds:List (DataW H)) (h:ds.length=Tryz.f10.params.toList.length):Rows.assignMoreSpec.fn H ds={ results:=[.lit (.bool true)],args:=ds }:=by
 rw [Tryz.params10] at h
 match ds,h with
 | [_,_],_=>rfl
theorem fits_types:∀ t∈Tryz.f10.params.toList,Tryz.prog.readableRec t=true∧t<Tryz.prog.types.size:=by
 rw [Tryz.params10];intro t ht;simp only [Zs,Pc,or_false] at ht;rcases ht with rfl|rfl
 all_goals exact ⟨by kernel_rfl,of_decide_eq_true (by kernel_rfl)⟩
set_option maxRecDepth 100000 in
theorem lifted (os:Os) (started:os.Started) (H:Type) (enc:TypeId×Value→H) :
  ReturnsInHanded {} Tryz.checked os 10 .any (Rows.assignMoreSpec.pre6 enc Tryz.prog Tryz.f10 Rows.assignMoreRow.domain false) (Rows.assignMoreSpec.post enc Tryz.prog Tryz.f10 false true false false):=by
 refine returnsInHanded_of_change (C:=Tryz.checked) own started (by kernel_rfl) Tryz.func10
  (ChangeSpec.witness6 (enc:=enc) (C:=Tryz.checked) false ⟨#[],#[.agg #[.slice none 0 0,.slice none 0 0],.slice none 0 0],[]⟩ 8 (by kernel_rfl) (by kernel_rfl) (by kernel_rfl) (by kernel_rfl)) ?_
 intro W base args ds gs before hval hW _ _;exact gR Go.Am.Ty.good_AssignMore rfl laid fits_types (by kernel_rfl) Tryz.underlying4 spec_eq enc W args ds gs before (reads enc W base args ds hval) hW
theorem over:Rows.assignMoreRow.holds Tryz.pinned (OpenSpec.ofChange Rows.assignMoreSpec) :=
 OpenClaim.holds_of_wide 10 Tryz.f10 rfl rfl rfl rfl rfl rfl rfl ⟨rfl,rfl,rfl,rfl,rfl⟩ rfl rfl rfl rfl rfl (by kernel_rfl) Tryz.func10 (by kernel_rfl)
  (of_decide_eq_true (by kernel_rfl)) (by unfold Func.isWrapper;first|(rw [if_pos (by decide +kernel)];kernel_rfl)|(rw [if_neg (by decide +kernel)];exact ⟨rfl,rfl⟩))
  (fun os started H enc _=>lifted os started H enc)
theorem proved:Rows.AssignMoreSaid :=
 over
end Go.Proofs.YtilpfkjhahnfaaaGreat.assignMore
