/-
  The statement 'AssignProgramsSaid': for every input the law returns true, and its arguments read as before.
  Conditions: none beyond the row's own.
-/
import Derived.Test.YtilpfkjhahnfaaaGreatRows
import Derived.Test.YtilpfkjhahnfaaaGreatP12
set_option linter.unusedSimpArgs false
namespace Go.Proofs.YtilpfkjhahnfaaaGreat.assignPrograms
open Go.Am Go.ChangeShapes Go.WideShapes Go.ChangeAt Go.RowKit
theorem own:ownKnob Tryz.prog.godebug=none:=by kernel_rfl
theorem laid:laidOutB Tryz.prog=true:=by kernel_rfl
set_option maxRecDepth 100000 in
theorem reads {H:Type} (enc:TypeId×Value→H) (W:World) (base:Nat) (args:Array Value) (ds:List (DataW H))
  (dQ:∀ (j:Nat) t v,Tryz.f9.params[j]?=some t→args[j]?=some v→Value.okWide Tryz.prog W .any base t v) (ps:List MemPlace)
  (hA:DataW.TrodAll enc Tryz.prog W 0 (fun _=>true) true Tryz.f9.params.toList args.toList ds ps) :
  ∃ xs:List D,Rs (Rb W) xs args.toList∧Go.Am.Ty.con_AssignPrograms.pre (xs.map .d)∧Go.Am.Ty.con_AssignPrograms.fn (xs.map .d)=.d (.bool true):=by
 rw [Tryz.params9] at hA dQ;obtain ⟨v0,vs0,d0,ds0,p0,q0,Qmu,rfl,rfl,h0,r0⟩:=trodAll_cons hA;obtain ⟨v1,vs1,d1,ds1,p1,q1,rfl,rfl,rfl,h1,r1⟩:=trodAll_cons r0;obtain ⟨v2,vs2,d2,ds2,p2,q2,rfl,rfl,rfl,h2,r2⟩:=trodAll_cons r1;obtain ⟨rfl,rfl,rfl⟩:=trodAll_nil r2;obtain rfl:args=#[v0,v1,v2]:=by cases args;simp_all
 obtain ⟨x0,⟨a0,rfl,o0⟩,g0⟩:=Qbs Go.Am.Ty.rdTx9 (.inl ⟨_,Tryz.underlying24⟩) (dQ 0 24 v0 rfl rfl) h0;obtain ⟨x1,⟨a1,rfl,o1⟩,g1⟩:=Qbs Go.Am.Ty.rdTx9 (.inl ⟨_,Tryz.underlying24⟩) (dQ 1 24 v1 rfl rfl) h1;obtain ⟨x2,⟨a2,rfl,o2⟩,g2⟩:=Qh7 Go.Am.Ty.rdChs (by rw [Tryz.underlying59];intro _ h;cases h) (by rw [Tryz.underlying59];intro _ _ h;cases h) (dQ 2 59 v2 rfl rfl) h2
 refine ⟨[Enc.enc a0,Enc.enc a1,Enc.enc a2],?_,?_,rfl⟩
 ·simp only [Rs];exact ⟨v0,_,rfl,g0,⟨v1,_,rfl,g1,⟨v2,_,rfl,g2,rfl⟩⟩⟩
 ·show Go.Am.Ty.con_AssignPrograms.pre [.d (Enc.enc a0),.d (Enc.enc a1),.d (Enc.enc a2)];unfold Go.Am.Ty.con_AssignPrograms;unfold maxLen at *;refine ⟨Wc a0,Wc a1,Wc a2,?_⟩;simp only [Enc.dec_enc];exact Go.Am.Ty.fitC_of o2
theorem spec_eq (H:Type) (ds:List (DataW H)) (h:ds.length=Tryz.f9.params.toList.length):Rows.assignProgramsSpec.fn H ds={ results:=[.lit (.bool true)],args:=ds }:=by
 rw [Tryz.params9] at h
 match ds,h with
 | [_,_,_],_=>rfl
theorem fits_types:∀ t∈Tryz.f9.params.toList,Tryz.prog.readableRec t=true∧t<Tryz.prog.types.size:=by
 rw [Tryz.params9];intro t ht;simp only [Zs,Ee,or_false] at ht;rcases ht with rfl|rfl|rfl
 all_goals exact ⟨by kernel_rfl,of_decide_eq_true (by kernel_rfl)⟩
set_option maxRecDepth 100000 in
theorem lifted (os:Os) (started:os.Started) (H:Type) (enc:TypeId×Value→H) :
  ReturnsInHanded {} Tryz.checked os 9 .any (Rows.assignProgramsSpec.pre6 enc Tryz.prog Tryz.f9 Rows.assignProgramsRow.domain false) (Rows.assignProgramsSpec.post enc Tryz.prog Tryz.f9 false true false false):=by
 refine returnsInHanded_of_change (C:=Tryz.checked) own started (by kernel_rfl) Tryz.func9
  (ChangeSpec.witness6 (enc:=enc) (C:=Tryz.checked) false ⟨#[],#[.agg #[.slice none 0 0,.slice none 0 0],.agg #[.slice none 0 0,.slice none 0 0],.slice none 0 0],[]⟩ 8 (by kernel_rfl) (by kernel_rfl) (by kernel_rfl) (by kernel_rfl)) ?_
 intro W base args ds gs before dQ hW _ _;exact Zf9 Go.Am.Ty.good_AssignPrograms rfl laid fits_types (by kernel_rfl) Tryz.underlying4 spec_eq enc W args ds gs before (reads enc W base args ds dQ) hW
theorem over:Rows.assignProgramsRow.holds Tryz.pinned (OpenSpec.ofChange Rows.assignProgramsSpec) :=
 OpenClaim.holds_of_wide 9 Tryz.f9 rfl rfl rfl rfl rfl rfl rfl ⟨rfl,rfl,rfl,rfl,rfl⟩ rfl rfl rfl rfl rfl (by kernel_rfl) Tryz.func9 (by kernel_rfl)
  (of_decide_eq_true (by kernel_rfl)) (by unfold Func.isWrapper;first|(rw [if_pos (by decide +kernel)];kernel_rfl)|(rw [if_neg (by decide +kernel)];exact ⟨rfl,rfl⟩))
  (fun os started H enc _=>lifted os started H enc)
theorem proved:Rows.AssignProgramsSaid :=
 over
end Go.Proofs.YtilpfkjhahnfaaaGreat.assignPrograms
