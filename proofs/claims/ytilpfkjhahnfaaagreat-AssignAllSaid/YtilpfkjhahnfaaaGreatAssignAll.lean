/-
  The statement 'AssignAllSaid': for every input the law returns true, and its arguments read as before.
  Conditions: none beyond the row's own.
-/
import Derived.Test.YtilpfkjhahnfaaaGreatRows
import Derived.Test.YtilpfkjhahnfaaaGreatH12
namespace Go.Proofs.YtilpfkjhahnfaaaGreat.assignAll
open Go.Am Go.ChangeShapes Go.WideShapes Go.ChangeAt Go.RowKit
theorem own:ownKnob Tryz.prog.godebug=none:=by kernel_rfl
theorem laid:laidOutB Tryz.prog=true:=by kernel_rfl
set_option maxRecDepth 100000 in
theorem reads {H:Type} (enc:TypeId×Value→H) (W:World) (base:Nat) (args:Array Value) (ds:List (DataW H))
  (hval:∀ (j:Nat) t v,Tryz.f11.params[j]?=some t→args[j]?=some v→Value.okWide Tryz.prog W .any base t v) (ps:List MemPlace)
  (hA:DataW.TrodAll enc Tryz.prog W 0 (fun _=>true) true Tryz.f11.params.toList args.toList ds ps) :
  ∃ xs:List D,Rs (Tz W) xs args.toList∧Go.Am.Ty.con_AssignAll.pre (xs.map .d)∧Go.Am.Ty.con_AssignAll.fn (xs.map .d)=.d (.bool true):=by
 rw [Tryz.params11] at hA hval;obtain ⟨v0,vs0,d0,ds0,p0,q0,hargs,rfl,rfl,h0,r0⟩:=trodAll_cons hA;obtain ⟨v1,vs1,d1,ds1,p1,q1,rfl,rfl,rfl,h1,r1⟩:=trodAll_cons r0;obtain ⟨v2,vs2,d2,ds2,p2,q2,rfl,rfl,rfl,h2,r2⟩:=trodAll_cons r1;obtain ⟨rfl,rfl,rfl⟩:=trodAll_nil r2;obtain rfl:args=#[v0,v1,v2]:=by cases args;simp_all
 obtain ⟨x0,⟨a0,rfl,o0⟩,g0⟩:=Zt1 Go.Am.Ty.rdTx9 (.inl ⟨_,Tryz.underlying24⟩) (hval 0 24 v0 rfl rfl) h0;obtain ⟨x1,⟨a1,rfl,o1⟩,g1⟩:=uN Go.Am.Ty.rdTys (by rw [Tryz.underlying69];intro _ h;cases h) (by rw [Tryz.underlying69];intro _ _ h;cases h) (hval 1 69 v1 rfl rfl) h1
 obtain ⟨x2,⟨a2,rfl,o2⟩,g2⟩:=uN Go.Am.Ty.rdBools (by rw [Tryz.underlying70];intro _ h;cases h) (by rw [Tryz.underlying70];intro _ _ h;cases h) (hval 2 70 v2 rfl rfl) h2
 refine ⟨[Enc.enc a0,Enc.enc a1,Enc.enc a2],?_,?_,rfl⟩
 ·simp only [Rs];exact ⟨v0,_,rfl,g0,⟨v1,_,rfl,g1,⟨v2,_,rfl,g2,rfl⟩⟩⟩
 ·show Go.Am.Ty.con_AssignAll.pre [.d (Enc.enc a0),.d (Enc.enc a1),.d (Enc.enc a2)];unfold Go.Am.Ty.con_AssignAll;unfold maxLen at *;refine ⟨Xq a0,Xq a1,Xq a2,?_⟩;simp only [Enc.dec_enc];exact Go.Am.Ty.allPre_of o1 o2
theorem spec_eq (H:Type) (ds:List (DataW H)) (h:ds.length=Tryz.f11.params.toList.length):Rows.assignAllSpec.fn H ds={ results:=[.lit (.bool true)],args:=ds }:=by
 rw [Tryz.params11] at h
 match ds,h with
 | [_,_,_],_=>rfl
theorem fits_types:∀ t∈Tryz.f11.params.toList,Tryz.prog.readableRec t=true∧t<Tryz.prog.types.size:=by
 rw [Tryz.params11];intro t ht;simp only [Zs,Pc,or_false] at ht;rcases ht with rfl|rfl|rfl
 all_goals exact ⟨by kernel_rfl,of_decide_eq_true (by kernel_rfl)⟩
set_option maxRecDepth 100000 in
theorem lifted (os:Os) (started:os.Started) (H:Type) (enc:TypeId×Value→H) :
  ReturnsInHanded {} Tryz.checked os 11 .any (Rows.assignAllSpec.pre6 enc Tryz.prog Tryz.f11 Rows.assignAllRow.domain false) (Rows.assignAllSpec.post enc Tryz.prog Tryz.f11 false true false false):=by
 refine returnsInHanded_of_change (C:=Tryz.checked) own started (by kernel_rfl) Tryz.func11
  (ChangeSpec.witness6 (enc:=enc) (C:=Tryz.checked) false ⟨#[],#[.agg #[.slice none 0 0,.slice none 0 0],.slice none 0 0,.slice none 0 0],[]⟩ 8 (by kernel_rfl) (by kernel_rfl) (by kernel_rfl) (by kernel_rfl)) ?_
 intro W base args ds gs before hval hW _ _;exact gR Go.Am.Ty.good_AssignAll rfl laid fits_types (by kernel_rfl) Tryz.underlying4 spec_eq enc W args ds gs before (reads enc W base args ds hval) hW
theorem over:Rows.assignAllRow.holds Tryz.pinned (OpenSpec.ofChange Rows.assignAllSpec) :=
 OpenClaim.holds_of_wide 11 Tryz.f11 rfl rfl rfl rfl rfl rfl rfl ⟨rfl,rfl,rfl,rfl,rfl⟩ rfl rfl rfl rfl rfl (by kernel_rfl) Tryz.func11 (by kernel_rfl)
  (of_decide_eq_true (by kernel_rfl)) (by unfold Func.isWrapper;first|(rw [if_pos (by decide +kernel)];kernel_rfl)|(rw [if_neg (by decide +kernel)];exact ⟨rfl,rfl⟩))
  (fun os started H enc _=>lifted os started H enc)
theorem proved:Rows.AssignAllSaid :=
 over
end Go.Proofs.YtilpfkjhahnfaaaGreat.assignAll
