/- Contracts of functions that the law reaches, and plain laws. Conditions: those that each contract states. -/
import Derived.Test.YtilpfkjhahnfaaaGreatF10
import Derived.Shelf.SlIter.Nil
import Derived.Shelf.SlIterI.Nil
import Derived.Shelf.SortM.Plain
import Derived.Shelf.SortM.SortNone
set_option maxHeartbeats 8000000
set_option linter.unusedVariables false
set_option linter.unusedSimpArgs false
variable {p:Prop}
set_option maxRecDepth 100000
namespace Go.Am.Ty
open Go.Proofs Go.Rose Go.Rose.Rose Gr
open Enc (enc dec)
theorem Qdv {x:List UInt8} {ks vs:List (List UInt8)} (h:Vd x ks=vs):Oh (.str x) (ks.map enc)=vs.map enc:=by rw [Dx,h]
theorem Zxk {l:List (List UInt8)} {v:List UInt8}:l.any (Zfq v)=R0 l v:=by
 unfold R0
 induction l with
 | nil=>rfl
 | cons x l ih =>
  rw [List.any_cons,List.any_cons,ih];have:Zfq v x=(x==v):=by
   unfold Zfq;rw [Bool.eq_iff_iff,Zm,Zm];exact eq_comm
  rw [this]
theorem jK {o:Option (List (List UInt8))} {v:List UInt8}:Y9.res (o,v)=.bool (R0 (Bu o) v):=by
 show D.bool ((Bu o).any (Zfq v))=_;rw [Zxk]
theorem Zpi {v:List UInt8}:Y9.post (none,v)=[]:=rfl
theorem Zef {b:List (List UInt8)} {v:List UInt8}:Y9.post (some b,v)=[.row 1 (b.map enc) 0]:=rfl
theorem Ziy {α:Type}:∀ {l:List α},l.length=2→∃ a b,l=[a,b]
 | [a,b],_=>⟨a,b,rfl⟩
 | [],h=>by simp at h
 | [_],h=>by simp at h
 | _::_::_::_,h=>by simp at h
theorem mI {p:Part} {ks:List (Rose Part)} {k:Nat} {b S:List (List UInt8)} (h:k<ks.length):partTs p (ks.drop k) k b S=partTs p (ks.drop (k+1)) (k+1) b (partT ks[k] (dK p k b) S):=by
 rw [List.drop_eq_getElem_cons h,partTs]
theorem Zdz {ks:List (Rose Part)} {k:Nat} (h:k<ks.length):hasBs (ks.drop k)=(hasB ks[k]||hasBs (ks.drop (k+1))):=by
 rw [List.drop_eq_getElem_cons h,hasBs]
theorem Zg0 {ks:List (Rose Part)} {k:Nat} (h:k<ks.length):(ndss (ks.take (k+1))).length=(ndss (ks.take k)).length+(nds ks[k]).length:=by
 rw [List.take_add_one,Zg h,N0,Zh];simp [ndss]
def Qcd:Bool→List (Nat×Obj)
 | false=>[(90002,.box false [.nils 1])]
 | true=>[(90002,.box false [.sl 60000 0]),(60000,.row 1 [] 0)]
theorem Zdc:Qcd false=[(90002,.box false [.nils 1])]:=rfl
theorem Zg3:Qcd true=[(90002,.box false [.sl 60000 0]),(60000,.row 1 [] 0)]:=rfl
theorem Iv {a b:Nat×Obj} {l:List (Nat×Obj)}:[a,b]++l=a::b::l:=rfl
def Qce (b:List (List UInt8)):Bool→List (Nat×Obj)
 | false=>[(90002,.box false [.sl 90007 b.length]),(90007,.row 1 (b.map enc) 0)]
 | true=>[(90002,.box false [.sl 60000 b.length]),(90007,.gone),(60000,.row 1 (b.map enc) 0)]
theorem Zdd {b:List (List UInt8)}:Qce b false=[(90002,.box false [.sl 90007 b.length]),(90007,.row 1 (b.map enc) 0)]:=rfl
theorem Zg4 {b:List (List UInt8)}:Qce b true=[(90002,.box false [.sl 60000 b.length]),(90007,.gone),(60000,.row 1 (b.map enc) 0)]:=rfl
structure Khc:Prop
theorem Khc.k (_:Khc) (h:p:=by
 repeat' first|exact Z1|with_reducible apply Zb|intro _
 all_goals first|contradiction|with_reducible exact Qo|omega|skip
 refine ⟨[90000,90001,90002,90003,90004,90005,90006],by simp,rfl,K9 (by decide),?_⟩
 simp [Zs,lk,Uu,rnA,rnAs,rk]):p:=h
structure Khb:Prop
theorem Khb.k (_:Khb) (h:p:=by
 repeat' first|exact Z1|with_reducible apply Zb|intro _
 all_goals first|contradiction|with_reducible exact Qo|omega|skip
 refine Qw (bc:=Y9) (none,pn) [] (by show (([]:List (List UInt8))).length≤1000000000;simp) rfl (by simp) rfl ?_ ?_ ?_
 ·exact trivial
 ·exact trivial
 have Z6:=jK (o:=none) (v:=pn);rw [show Bu none=([]:List (List UInt8)) from rfl] at Z6;cases hin:R0 ([]:List (List UInt8)) pn with
 | true =>
  exact absurd hin (by simp [R0])
 | false =>
  simp only [hin,Zt,if_false] at hV;have Qc:Bh (.str pn) (.bool true) (S.map enc) ((mY S).map enc)=(mY V).map enc:=by rw [L7,lH,hV]
  have Qh:=Qdv hV;rw [hin] at Z6;have Dx:=Kt;have Zv:=@Zpi;have Kq:Khc:=⟨⟩;exact Yh):p:=h
structure Khe:Prop
theorem Khe.k (_:Khe) (h:p:=by
 repeat' first|exact Z1|with_reducible apply Zb|intro _
 all_goals first|contradiction|with_reducible exact Qo|omega|skip
 refine ⟨[90000,90001,90002,90003,90004,90005,90006,60000],by simp,rfl,K9 (by decide),?_⟩
 simp [Zs,lk,Uu,rnA,rnAs,rk]):p:=h
structure Khd:Prop
theorem Khd.k (_:Khd) (h:p:=by
 repeat' first|exact Z1|with_reducible apply Zb|intro _
 all_goals first|contradiction|with_reducible exact Qo|omega|skip
 refine Qw (bc:=Z2 n) (⟨t,i+1,none,S⟩,[pb]) [38,90002,90005,90000,90001,90003,90004,90006,60000] hok2 rfl (by simp) (by rw [Qv];rfl) ?_ ?_ ?_
 ·show Zs _ _ (wN t (i+1) [pb] S) _;rw [nL];simp [Zs,lk,Uu,rnA,rnAs,rk]
 ·show Qf (List.drop (wN t (i+1) [pb] S).length _) _;rw [nL];simp [Qf,lk]
 have Qp:(Z2 n).post (⟨t,i+1,none,S⟩,[pb])=wB t j [] [pb] V:=Qv;have Dx:=Kt;have Zv:=@Hg;have Zw:=@B0;have Kq:Khe:=⟨⟩;exact Yh):p:=h
structure Khg:Prop
theorem Khg.k (_:Khg) (h:p:=by
 repeat' first|exact Z1|with_reducible apply Zb|intro _
 all_goals first|contradiction|with_reducible exact Qo|omega|skip
 refine ⟨[90000,90001,90002,90003,90004,90005,90006,60000],by simp,rfl,K9 (by decide),?_⟩
 simp [Zs,lk,Uu,rnA,rnAs,rk]):p:=h
structure Khf:Prop
theorem Khf.k (_:Khf) (h:p:=by
 repeat' first|exact Z1|with_reducible apply Zb|intro _
 all_goals first|contradiction|with_reducible exact Qo|omega|skip
 refine Qw (bc:=Z2 n) (⟨t,i+1,none,S⟩,[pb]) [38,90002,90005,90000,90001,90003,90004,90006,60000] hok2 rfl (by simp) (by rw [Qv];rfl) ?_ ?_ ?_
 ·show Zs _ _ (wN t (i+1) [pb] S) _;rw [nL];simp [Zs,lk,Uu,rnA,rnAs,rk]
 ·show Qf (List.drop (wN t (i+1) [pb] S).length _) _;rw [nL];simp [Qf,lk]
 have Qp:(Z2 n).post (⟨t,i+1,none,S⟩,[pb])=wB t j [] [pb] V:=Qv;have Dx:=Kt;have Zv:=@Hg;have Zw:=@B0;have Kq:Khg:=⟨⟩;exact Yh):p:=h
structure Khj:Prop
theorem Khj.k (_:Khj) (h:p:=by
 repeat' first|exact Z1|with_reducible apply Zb|intro _
 all_goals first|contradiction|with_reducible exact Qo|omega|skip
 refine ⟨[90000,90001,90002,90003,90004,90005,90006,60000],by simp,rfl,K9 (by decide),?_⟩
 simp [Zs,lk,Uu,rnA,rnAs,rk]):p:=h
structure Khi:Prop
theorem Khi.k (_:Khi) (h:p:=by
 repeat' first|exact Z1|with_reducible apply Zb|intro _
 all_goals first|contradiction|with_reducible exact Qo|omega|skip
 have Qz:(Z2 n).post (⟨t,j1,none,V1⟩,[pb])=wB t j [] [pb] V:=Uo (n:=n) (o:=none) a2 (show j1+(nds x2).length=j by omega) hV2
 have hok3:(Z2 n).ok (⟨t,j1,none,V1⟩,[pb]):=⟨hT,x2,a2,by omega,by show (([]:List (List UInt8))).length+1+_≤_;simp;omega,by show V1.length+_≤_;omega⟩
 refine Qw (bc:=Z2 n) (⟨t,j1,none,V1⟩,[pb]) [47,90002,90005,90000,90001,90003,90004,90006,60000] hok3 rfl (by simp) (by rw [Qz];rfl) ?_ ?_ ?_
 ·show Zs _ _ (wN t j1 [pb] V1) _;rw [nL];simp [Zs,lk,Uu,rnA,rnAs,rk]
 ·show Qf (List.drop (wN t j1 [pb] V1).length _) _;rw [nL];simp [Qf,lk]
 have Dx:=Kt;have Zv:=@Hg;have Zw:=@B0;have Kq:Khj:=⟨⟩;exact Yh):p:=h
structure Khl:Prop
theorem Khl.k (_:Khl) (h:p:=by
 repeat' first|exact Z1|with_reducible apply Zb|intro _
 all_goals first|contradiction|with_reducible exact Qo|omega|skip
 refine ⟨[90000,90001,90002,90003,90004,90005,90006,60001],by simp,rfl,K9 (by decide),?_⟩
 simp [Zs,lk,Uu,rnA,rnAs,rk]):p:=h
structure Khk:Prop
theorem Khk.k (_:Khk) (h:p:=by
 repeat' first|exact Z1|with_reducible apply Zb|intro _
 all_goals first|contradiction|with_reducible exact Qo|omega|skip
 have Qz:(Z2 n).post (⟨t,j1,(some ([]:List (List UInt8))),V1⟩,[pb])=wM t j ([]:List (List UInt8)) [pb] V:=Uo (n:=n) (o:=(some ([]:List (List UInt8)))) a2 (show j1+(nds x2).length=j by omega) hV2
 have hok3:(Z2 n).ok (⟨t,j1,(some ([]:List (List UInt8))),V1⟩,[pb]):=⟨hT,x2,a2,by omega,by show (([]:List (List UInt8))).length+1+_≤_;simp;omega,by show V1.length+_≤_;omega⟩
 refine Qw (bc:=Z2 n) (⟨t,j1,(some ([]:List (List UInt8))),V1⟩,[pb]) [47,90002,90005,90000,90001,90003,90004,90006,60000,60001] hok3 rfl (by simp) (by rw [Qz];rfl) ?_ ?_ ?_
 ·show Zs _ _ (wB t j1 ([]:List (List UInt8)) [pb] V1) _;rw [B0];simp [Zs,lk,Uu,rnA,rnAs,rk]
 ·show Qf (List.drop (wB t j1 ([]:List (List UInt8)) [pb] V1).length _) _;rw [B0];simp [Qf,lk]
 have Dx:=Kt;have Zv:=@Hg;have Zw:=@Zch;have Kq:Khl:=⟨⟩;exact Yh):p:=h
structure Khh:Prop
theorem Khh.k (_:Khh) (h:p:=by
 repeat' first|exact Z1|with_reducible apply Zb|intro _
 all_goals first|contradiction|with_reducible exact Qo|omega|skip
 cases H1 with
 | false =>
  have Qp:(Zy n).post ⟨t,i+1,none,S⟩=pN t j1 V1:=Qv;refine Qw (bc:=Zy n) ⟨t,i+1,none,S⟩ [90000,90001,90002,90003,90004,90005,90006] hok2 rfl (by simp) (by rw [Qp];rfl) ?_ ?_ ?_
  ·show Zs _ _ (pN t (i+1) S) _;rw [Tg];simp [Zs,lk,Uu,rnA,rnAs,rk]
  ·show Qf (List.drop (pN t (i+1) S).length _) _;rw [Tg];simp [Qf,lk]
  have Dx:=Kt;have Zv:=@Vb;have Zw:=@Tg;have Kq:Khi:=⟨⟩;exact Yh
 | true =>
  have Qp:(Zy n).post ⟨t,i+1,none,S⟩=pB t j1 [] V1:=Qv;refine Qw (bc:=Zy n) ⟨t,i+1,none,S⟩ [90000,90001,90002,90003,90004,90005,90006,60000] hok2 rfl (by simp) (by rw [Qp];rfl) ?_ ?_ ?_
  ·show Zs _ _ (pN t (i+1) S) _;rw [Tg];simp [Zs,lk,Uu,rnA,rnAs,rk]
  ·show Qf (List.drop (pN t (i+1) S).length _) _;rw [Tg];simp [Qf,lk]
  have Dx:=Kt;have Zv:=@Vb;have Zw:=@Ue;have Kq:Khk:=⟨⟩;exact Yh):p:=h
structure Kho:Prop
theorem Kho.k (_:Kho) (h:p:=by
 repeat' first|exact Z1|with_reducible apply Zb|intro _
 all_goals first|contradiction|with_reducible exact Qo|omega|skip
 refine ⟨[90000,90001,90002,90003,90004,90005,90006,60001],by simp,rfl,K9 (by decide),?_⟩
 simp [Zs,lk,Uu,rnA,rnAs,rk]):p:=h
structure Khn:Prop
theorem Khn.k (_:Khn) (h:p:=by
 repeat' first|exact Z1|with_reducible apply Zb|intro _
 all_goals first|contradiction|with_reducible exact Qo|omega|skip
 have Qz:(Z2 n).post (⟨t,j1,some ([]:List (List UInt8)),V1⟩,[pn])=wM t j ([]:List (List UInt8)) [pn] V:=Uo (n:=n) (o:=some ([]:List (List UInt8))) a2 (show j1+(nds x2).length=j by omega) hV2
 have hok3:(Z2 n).ok (⟨t,j1,some ([]:List (List UInt8)),V1⟩,[pn]):=⟨hT,x2,a2,by omega,by show (([]:List (List UInt8))).length+1+_≤_;simp;omega,by show V1.length+_≤_;omega⟩
 refine Qw (bc:=Z2 n) (⟨t,j1,some ([]:List (List UInt8)),V1⟩,[pn]) [61,90002,90005,90000,90001,90003,90004,90006,60000,60001] hok3 rfl (by simp) (by rw [Qz];rfl) ?_ ?_ ?_
 ·show Zs _ _ (wB t j1 ([]:List (List UInt8)) [pn] V1) _;rw [B0];simp [Zs,lk,Uu,rnA,rnAs,rk]
 ·show Qf (List.drop (wB t j1 ([]:List (List UInt8)) [pn] V1).length _) _;rw [B0];simp [Qf,lk]
 have Dx:=Kt;have Zv:=@Hg;have Zw:=@Zch;have Kq:Kho:=⟨⟩;exact Yh):p:=h
structure Khm:Prop
theorem Khm.k (_:Khm) (h:p:=by
 repeat' first|exact Z1|with_reducible apply Zb|intro _
 all_goals first|contradiction|with_reducible exact Qo|omega|skip
 refine Qw (bc:=Z2 n) (⟨t,i+1,none,S⟩,[pn,pb]) [56,90002,90005,90000,90001,90003,90004,90006,60000] hok2 rfl (by simp) (by rw [Qv];rfl) ?_ ?_ ?_
 ·show Zs _ _ (wN t (i+1) [pn,pb] S) _;rw [nL];simp [Zs,lk,Uu,rnA,rnAs,rk]
 ·show Qf (List.drop (wN t (i+1) [pn,pb] S).length _) _;rw [nL];simp [Qf,lk]
 have Dx:=Kt;have Zv:=@Hg;have Zw:=@B0;have Kq:Khn:=⟨⟩;exact Yh):p:=h
structure Khq:Prop
theorem Khq.k (_:Khq) (h:p:=by
 repeat' first|exact Z1|with_reducible apply Zb|intro _
 all_goals first|contradiction|with_reducible exact Qo|omega|skip
 refine ⟨[90000,90001,90002,90003,90004,90005,90006],by simp,rfl,K9 (by decide),?_⟩
 simp [Zs,lk,Uu,rnA,rnAs,rk]):p:=h
structure Khr:Prop
theorem Khr.k (_:Khr) (h:p:=by
 repeat' first|exact Z1|with_reducible apply Zb|intro _
 all_goals first|contradiction|with_reducible exact Qo|omega|skip
 refine ⟨[90000,90001,90002,90003,90004,90005,90006,60000],by simp,rfl,K9 (by decide),?_⟩
 simp [Zs,lk,Uu,rnA,rnAs,rk]):p:=h
structure Kht:Prop
theorem Kht.k (_:Kht) (h:p:=by
 repeat' first|exact Z1|with_reducible apply Zb|intro _
 all_goals first|contradiction|with_reducible exact Qo|omega|skip
 refine ⟨(k+1,U1,false),.inl (by rw [hnx];simp only [Zdc,Zg3,Iv];exact Qk),by simp only;omega,hU,hM,by simp only;omega,by simp only;omega⟩):p:=h
structure Khu:Prop
theorem Khu.k (_:Khu) (h:p:=by
 repeat' first|exact Z1|with_reducible apply Zb|intro _
 all_goals first|contradiction|with_reducible exact Qo|omega|skip
 refine ⟨(k+1,U1,true),.inl (by rw [hnx];simp only [Zdc,Zg3,Iv];exact Qk),by simp only;omega,hU,hM,by simp only;omega,by simp only;omega⟩):p:=h
structure Khs:Prop
theorem Khs.k (_:Khs) (h:p:=by
 repeat' first|exact Z1|with_reducible apply Zb|intro _
 all_goals first|contradiction|with_reducible exact Qo|omega|skip
 cases H1 with
 | false =>
  have Qp:(Zy n).post ⟨t,c0,none,U⟩=pN t c1 U1:=Qv;refine Qw (bc:=Zy n) ⟨t,c0,none,U⟩ [90000,90001,90002,90003,90004,90005,90006] hok2 rfl (by simp) (by rw [Qp];rfl) ?_ ?_ ?_
  ·show Zs _ _ (pN t c0 U) _;rw [Tg];simp [Zs,lk,Uu,rnA,rnAs,rk]
  ·show Qf (List.drop (pN t c0 U).length _) _;rw [Tg];simp [Qf,lk]
  have Dx:=Kt;have Zv:=@Vb;have Zw:=@Tg;have Kq:Kht:=⟨⟩;exact Yh
 | true =>
  have Qp:(Zy n).post ⟨t,c0,none,U⟩=pB t c1 [] U1:=Qv;refine Qw (bc:=Zy n) ⟨t,c0,none,U⟩ [90000,90001,90002,90003,90004,90005,90006,60000] hok2 rfl (by simp) (by rw [Qp];rfl) ?_ ?_ ?_
  ·show Zs _ _ (pN t c0 U) _;rw [Tg];simp [Zs,lk,Uu,rnA,rnAs,rk]
  ·show Qf (List.drop (pN t c0 U).length _) _;rw [Tg];simp [Qf,lk]
  have Dx:=Kt;have Zv:=@Vb;have Zw:=@Ue;have Kq:Khu:=⟨⟩;exact Yh):p:=h
structure Khw:Prop
theorem Khw.k (_:Khw) (h:p:=by
 repeat' first|exact Z1|with_reducible apply Zb|intro _
 all_goals first|contradiction|with_reducible exact Qo|omega|skip
 refine ⟨(k+1,U1,true),.inl (by rw [hnx];simp only [Zdc,Zg3,Iv];exact Qk),by simp only;omega,hU,hM,by simp only;omega,by simp only;omega⟩):p:=h
structure Khx:Prop
theorem Khx.k (_:Khx) (h:p:=by
 repeat' first|exact Z1|with_reducible apply Zb|intro _
 all_goals first|contradiction|with_reducible exact Qo|omega|skip
 refine ⟨(k+1,U1,true),.inr (by rw [hnx];simp only [Zdc,Zg3,Iv];exact Qct),by simp only;omega,hU,hM,by simp only;omega,by simp only;omega⟩):p:=h
structure Khv:Prop
theorem Khv.k (_:Khv) (h:p:=by
 repeat' first|exact Z1|with_reducible apply Zb|intro _
 all_goals first|contradiction|with_reducible exact Qo|omega|skip
 cases H1 with
 | false =>
  have Qp:(Zy n).post ⟨t,c0,(some []),U⟩=pB t c1 [] U1:=Qv;refine Qw (bc:=Zy n) ⟨t,c0,(some []),U⟩ [90000,90001,90002,90003,90004,90005,90006,60000] hok2 rfl (by simp) (by rw [Qp];rfl) ?_ ?_ ?_
  ·show Zs _ _ (pB t c0 [] U) _;rw [Ue];simp [Zs,lk,Uu,rnA,rnAs,rk]
  ·show Qf (List.drop (pB t c0 [] U).length _) _;rw [Ue];simp [Qf,lk]
  have Dx:=Kt;have Zv:=@Vb;have Zw:=@Ue;have Kq:Khw:=⟨⟩;exact Yh
 | true =>
  have Qp:(Zy n).post ⟨t,c0,(some []),U⟩=pM t c1 [] U1:=Qv;refine Qw (bc:=Zy n) ⟨t,c0,(some []),U⟩ [90000,90001,90002,90003,90004,90005,90006,60000,60001] hok2 rfl (by simp) (by rw [Qp];rfl) ?_ ?_ ?_
  ·show Zs _ _ (pB t c0 [] U) _;rw [Ue];simp [Zs,lk,Uu,rnA,rnAs,rk]
  ·show Qf (List.drop (pB t c0 [] U).length _) _;rw [Ue];simp [Qf,lk]
  have Dx:=Kt;have Zv:=@Vb;have Zw:=@lZ;have Kq:Khx:=⟨⟩;exact Yh):p:=h
structure Khp:Prop
theorem Khp.k (_:Khp) (h:p:=by
 repeat' first|exact Z1|with_reducible apply Zb|intro _
 all_goals first|contradiction|with_reducible exact Qo|omega|skip
 refine nI 90002 60000 60001 [18,19,20,21] (fun q:Nat×List (List UInt8)×Bool=>[(17,.d (.int .i64 q.1))]) (fun q:Nat×List (List UInt8)×Bool=>[(90001,.box false [.d (.int .i64 (i+1+(ndss (ks.take q.1)).length:Nat))]),(90006,.mp (q.2.1.map enc) ((mY q.2.1).map enc) false)]++Qcd q.2.2) (fun q:Nat×List (List UInt8)×Bool=>q.1≤ks.length∧partTs ⟨pk,pl,pn,pb,pm,pq,pt,pu⟩ (ks.drop q.1) q.1 ([]:List (List UInt8)) q.2.1=V∧(q.2.2||hasBs (ks.drop q.1))=H∧q.2.1.length≤S.length+(ndss (ks.take q.1)).length) (fun q:Nat×List (List UInt8)×Bool=>ks.length-q.1) (0,S,false) ?_ ?_ ?_
 ·exact ⟨Nat.zero_le _,hV,by simpa using hH2,by simp⟩
 ·simp only [Zdc,Iv,List.take_zero,ndss];exact Qk
 rintro ⟨k,U,mv⟩ ⟨hk,hU,hM,hUl⟩;simp only at hk hU hM hUl;rcases Zn k ks.length with ⟨hlt,Qg⟩|⟨hlt,Qg⟩
 rotate_left
 ·have hke:k=ks.length:=by omega
  rw [hke,List.drop_length] at hU hM;rw [partTs] at hU;rw [hasBs,Bool.or_false] at hM;subst hU hM;rw [hke,List.take_length];have Qe:i+1+(ndss ks).length=j:=by omega
  rw [Qe];rw [hke] at Qg;cases mv with
  | false =>
   have Qa:pP t j none false U=_:=(show pP t j none false U=pN t j U from rfl).trans (Tg _ _ _);have Dx:=Kt;have Zv:=@Zdc;have Zw:=@Iv;have Kq:Khq:=⟨⟩;exact Yh
  | true =>
   have Qa:pP t j none true U=_:=(show pP t j none true U=pB t j [] U from rfl).trans (Ue _ _ _ _);have Dx:=Kt;have Zv:=@Zg3;have Zw:=@Iv;have Kq:Khr:=⟨⟩;exact Yh
 have ax:=Zb9 hks hlt;have hsz:=Du hlt;have htk:=Zg0 hlt;rw [mI hlt,hmo] at hU;rw [Zdz hlt,←Bool.or_assoc] at hM;obtain ⟨c0,hc0⟩:=exq (i+1+(ndss (ks.take k)).length);rw [hc0] at ax ⊢;have hnx:i+1+(ndss (ks.take (k+1))).length=c0+(nds ks[k]).length:=by omega
 have hcle:=N0 (ks.take (k+1)) (ks.drop (k+1));have hcl2:=congrArg List.length hcle;rw [List.take_append_drop,Zh] at hcl2;have hpl:=partT_len ks[k] ([]:List (List UInt8)) U;obtain ⟨y,hyk⟩:=exq (ks[k]);rw [hyk] at ax hsz htk hU hM hnx hpl;obtain ⟨U1,hU1⟩:=exq (partT y ([]:List (List UInt8)) U);obtain ⟨H1,hH1⟩:=exq (hasB y);obtain ⟨c1,hc1⟩:=exq (c0+(nds y).length);rw [hU1] at hU hpl;rw [hH1] at hM;rw [hc1] at hnx;clear hcle;cases mv with
 | false =>
  have hok2:(PX.mk t c0 none U).Ok n 0:=⟨hT,y,ax,by omega,by show (([]:List (List UInt8))).length+0+_≤_;simp;omega,by show U.length+_≤_;omega⟩
  have Qv:=Hm (n:=n) (o:=none) ax hc1 hH1 hU1;have Dx:=Kt;have Zv:=@Zdc;have Zw:=@Iv;have Kq:Khs:=⟨⟩;exact Yh
 | true =>
  have hok2:(PX.mk t c0 (some []) U).Ok n 0:=⟨hT,y,ax,by omega,by show (([]:List (List UInt8))).length+0+_≤_;simp;omega,by show U.length+_≤_;omega⟩
  have Qv:=Hm (n:=n) (o:=(some [])) ax hc1 hH1 hU1;have Dx:=Kt;have Zv:=@Zg3;have Zw:=@Iv;have Kq:Khv:=⟨⟩;exact Yh):p:=h
structure Khz:Prop
theorem Khz.k (_:Khz) (h:p:=by
 repeat' first|exact Z1|with_reducible apply Zb|intro _
 all_goals first|contradiction|with_reducible exact Qo|omega|skip
 refine ⟨[90000,90001,90002,90003,90004,90005,90006,90007],by simp,rfl,K9 (by decide),?_⟩
 simp [Zs,lk,Uu,rnA,rnAs,rk]):p:=h
structure KhA:Prop
theorem KhA.k (_:KhA) (h:p:=by
 repeat' first|exact Z1|with_reducible apply Zb|intro _
 all_goals first|contradiction|with_reducible exact Qo|omega|skip
 refine ⟨[90000,90001,90002,90003,90004,90005,90006,90007],by simp,rfl,K9 (by decide),?_⟩
 simp [Zs,lk,Uu,rnA,rnAs,rk]):p:=h
structure Khy:Prop
theorem Khy.k (_:Khy) (h:p:=by
 repeat' first|exact Z1|with_reducible apply Zb|intro _
 all_goals first|contradiction|with_reducible exact Qo|omega|skip
 refine Qw (bc:=Y9) (some b,pn) [90007] (by show (b).length≤1000000000;omega) rfl (by simp) rfl ?_ ?_ ?_
 ·show Zs _ _ [Obj.row 1 (b.map (enc:List UInt8→D)) 0] _;simp [Zs,lk,Uu,rnA,rnAs,rk]
 ·exact trivial
 have Z6:=jK (o:=(some b)) (v:=pn);rw [show Bu (some b)=b from rfl] at Z6;cases hin:R0 b pn with
 | true =>
  simp only [hin,if_true] at hV;subst hV;rw [hin] at Z6;have Dx:=Kt;have Zv:=@Zef;have Kq:Khz:=⟨⟩;exact Yh
 | false =>
  simp only [hin,Zt,if_false] at hV;have Qc:Bh (.str pn) (.bool true) (S.map enc) ((mY S).map enc)=(mY V).map enc:=by rw [L7,lH,hV]
  have Qh:=Qdv hV;rw [hin] at Z6;have Dx:=Kt;have Zv:=@Zef;have Kq:KhA:=⟨⟩;exact Yh):p:=h
structure KhC:Prop
theorem KhC.k (_:KhC) (h:p:=by
 repeat' first|exact Z1|with_reducible apply Zb|intro _
 all_goals first|contradiction|with_reducible exact Qo|omega|skip
 refine ⟨[90000,90001,90002,90003,90004,90005,90006,90007,60000],by simp,rfl,K9 (by decide),?_⟩
 simp [Zs,lk,Uu,rnA,rnAs,rk]):p:=h
structure KhB:Prop
theorem KhB.k (_:KhB) (h:p:=by
 repeat' first|exact Z1|with_reducible apply Zb|intro _
 all_goals first|contradiction|with_reducible exact Qo|omega|skip
 refine Qw (bc:=Z2 n) (⟨t,i+1,(some b),S⟩,[pb]) [38,90002,90005,90000,90001,90003,90004,90006,90007,60000] hok2 rfl (by simp) (by rw [Qv];rfl) ?_ ?_ ?_
 ·show Zs _ _ (wB t (i+1) b [pb] S) _;rw [B0];simp [Zs,lk,Uu,rnA,rnAs,rk]
 ·show Qf (List.drop (wB t (i+1) b [pb] S).length _) _;rw [B0];simp [Qf,lk]
 have Qp:(Z2 n).post (⟨t,i+1,(some b),S⟩,[pb])=wM t j b [pb] V:=Qv;have Dx:=Kt;have Zv:=@Hg;have Zw:=@Zch;have Kq:KhC:=⟨⟩;exact Yh):p:=h
structure KhE:Prop
theorem KhE.k (_:KhE) (h:p:=by
 repeat' first|exact Z1|with_reducible apply Zb|intro _
 all_goals first|contradiction|with_reducible exact Qo|omega|skip
 refine ⟨[90000,90001,90002,90003,90004,90005,90006,90007,60000],by simp,rfl,K9 (by decide),?_⟩
 simp [Zs,lk,Uu,rnA,rnAs,rk]):p:=h
structure KhD:Prop
theorem KhD.k (_:KhD) (h:p:=by
 repeat' first|exact Z1|with_reducible apply Zb|intro _
 all_goals first|contradiction|with_reducible exact Qo|omega|skip
 refine Qw (bc:=Z2 n) (⟨t,i+1,(some b),S⟩,[pb]) [38,90002,90005,90000,90001,90003,90004,90006,90007,60000] hok2 rfl (by simp) (by rw [Qv];rfl) ?_ ?_ ?_
 ·show Zs _ _ (wB t (i+1) b [pb] S) _;rw [B0];simp [Zs,lk,Uu,rnA,rnAs,rk]
 ·show Qf (List.drop (wB t (i+1) b [pb] S).length _) _;rw [B0];simp [Qf,lk]
 have Qp:(Z2 n).post (⟨t,i+1,(some b),S⟩,[pb])=wM t j b [pb] V:=Qv;have Dx:=Kt;have Zv:=@Hg;have Zw:=@Zch;have Kq:KhE:=⟨⟩;exact Yh):p:=h
structure KhH:Prop
theorem KhH.k (_:KhH) (h:p:=by
 repeat' first|exact Z1|with_reducible apply Zb|intro _
 all_goals first|contradiction|with_reducible exact Qo|omega|skip
 refine ⟨[90000,90001,90002,90003,90004,90005,90006,90007,60000],by simp,rfl,K9 (by decide),?_⟩
 simp [Zs,lk,Uu,rnA,rnAs,rk]):p:=h
structure KhG:Prop
theorem KhG.k (_:KhG) (h:p:=by
 repeat' first|exact Z1|with_reducible apply Zb|intro _
 all_goals first|contradiction|with_reducible exact Qo|omega|skip
 have Qz:(Z2 n).post (⟨t,j1,(some b),V1⟩,[pb])=wM t j b [pb] V:=Uo (n:=n) (o:=(some b)) a2 (show j1+(nds x2).length=j by omega) hV2
 have hok3:(Z2 n).ok (⟨t,j1,(some b),V1⟩,[pb]):=⟨hT,x2,a2,by omega,by show (b).length+1+_≤_;omega,by show V1.length+_≤_;omega⟩
 refine Qw (bc:=Z2 n) (⟨t,j1,(some b),V1⟩,[pb]) [47,90002,90005,90000,90001,90003,90004,90006,90007,60000] hok3 rfl (by simp) (by rw [Qz];rfl) ?_ ?_ ?_
 ·show Zs _ _ (wB t j1 b [pb] V1) _;rw [B0];simp [Zs,lk,Uu,rnA,rnAs,rk]
 ·show Qf (List.drop (wB t j1 b [pb] V1).length _) _;rw [B0];simp [Qf,lk]
 have Dx:=Kt;have Zv:=@Hg;have Zw:=@Zch;have Kq:KhH:=⟨⟩;exact Yh):p:=h
structure KhJ:Prop
theorem KhJ.k (_:KhJ) (h:p:=by
 repeat' first|exact Z1|with_reducible apply Zb|intro _
 all_goals first|contradiction|with_reducible exact Qo|omega|skip
 refine ⟨[90000,90001,90002,90003,90004,90005,90006,90007,60001],by simp,rfl,K9 (by decide),?_⟩
 simp [Zs,lk,Uu,rnA,rnAs,rk]):p:=h
structure KhI:Prop
theorem KhI.k (_:KhI) (h:p:=by
 repeat' first|exact Z1|with_reducible apply Zb|intro _
 all_goals first|contradiction|with_reducible exact Qo|omega|skip
 have Qz:(Z2 n).post (⟨t,j1,(some b),V1⟩,[pb])=wM t j b [pb] V:=Uo (n:=n) (o:=(some b)) a2 (show j1+(nds x2).length=j by omega) hV2
 have hok3:(Z2 n).ok (⟨t,j1,(some b),V1⟩,[pb]):=⟨hT,x2,a2,by omega,by show (b).length+1+_≤_;omega,by show V1.length+_≤_;omega⟩
 refine Qw (bc:=Z2 n) (⟨t,j1,(some b),V1⟩,[pb]) [47,90002,90005,90000,90001,90003,90004,90006,60000,60001] hok3 rfl (by simp) (by rw [Qz];rfl) ?_ ?_ ?_
 ·show Zs _ _ (wB t j1 b [pb] V1) _;rw [B0];simp [Zs,lk,Uu,rnA,rnAs,rk]
 ·show Qf (List.drop (wB t j1 b [pb] V1).length _) _;rw [B0];simp [Qf,lk]
 have Dx:=Kt;have Zv:=@Hg;have Zw:=@Zch;have Kq:KhJ:=⟨⟩;exact Yh):p:=h
structure KhF:Prop
theorem KhF.k (_:KhF) (h:p:=by
 repeat' first|exact Z1|with_reducible apply Zb|intro _
 all_goals first|contradiction|with_reducible exact Qo|omega|skip
 cases H1 with
 | false =>
  have Qp:(Zy n).post ⟨t,i+1,(some b),S⟩=pB t j1 b V1:=Qv;refine Qw (bc:=Zy n) ⟨t,i+1,(some b),S⟩ [90000,90001,90002,90003,90004,90005,90006,90007] hok2 rfl (by simp) (by rw [Qp];rfl) ?_ ?_ ?_
  ·show Zs _ _ (pB t (i+1) b S) _;rw [Ue];simp [Zs,lk,Uu,rnA,rnAs,rk]
  ·show Qf (List.drop (pB t (i+1) b S).length _) _;rw [Ue];simp [Qf,lk]
  have Dx:=Kt;have Zv:=@Vb;have Zw:=@Ue;have Kq:KhG:=⟨⟩;exact Yh
 | true =>
  have Qp:(Zy n).post ⟨t,i+1,(some b),S⟩=pM t j1 b V1:=Qv;refine Qw (bc:=Zy n) ⟨t,i+1,(some b),S⟩ [90000,90001,90002,90003,90004,90005,90006,90007,60000] hok2 rfl (by simp) (by rw [Qp];rfl) ?_ ?_ ?_
  ·show Zs _ _ (pB t (i+1) b S) _;rw [Ue];simp [Zs,lk,Uu,rnA,rnAs,rk]
  ·show Qf (List.drop (pB t (i+1) b S).length _) _;rw [Ue];simp [Qf,lk]
  have Dx:=Kt;have Zv:=@Vb;have Zw:=@lZ;have Kq:KhI:=⟨⟩;exact Yh):p:=h
structure KhM:Prop
theorem KhM.k (_:KhM) (h:p:=by
 repeat' first|exact Z1|with_reducible apply Zb|intro _
 all_goals first|contradiction|with_reducible exact Qo|omega|skip
 refine ⟨[90000,90001,90002,90003,90004,90005,90006,90007,60001],by simp,rfl,K9 (by decide),?_⟩
 simp [Zs,lk,Uu,rnA,rnAs,rk]):p:=h
structure KhL:Prop
theorem KhL.k (_:KhL) (h:p:=by
 repeat' first|exact Z1|with_reducible apply Zb|intro _
 all_goals first|contradiction|with_reducible exact Qo|omega|skip
 have Qz:(Z2 n).post (⟨t,j1,some b,V1⟩,[pn])=wM t j b [pn] V:=Uo (n:=n) (o:=some b) a2 (show j1+(nds x2).length=j by omega) hV2
 have hok3:(Z2 n).ok (⟨t,j1,some b,V1⟩,[pn]):=⟨hT,x2,a2,by omega,by show (b).length+1+_≤_;omega,by show V1.length+_≤_;omega⟩
 refine Qw (bc:=Z2 n) (⟨t,j1,some b,V1⟩,[pn]) [61,90002,90005,90000,90001,90003,90004,90006,60000,60001] hok3 rfl (by simp) (by rw [Qz];rfl) ?_ ?_ ?_
 ·show Zs _ _ (wB t j1 b [pn] V1) _;rw [B0];simp [Zs,lk,Uu,rnA,rnAs,rk]
 ·show Qf (List.drop (wB t j1 b [pn] V1).length _) _;rw [B0];simp [Qf,lk]
 have Dx:=Kt;have Zv:=@Hg;have Zw:=@Zch;have Kq:KhM:=⟨⟩;exact Yh):p:=h
structure KhK:Prop
theorem KhK.k (_:KhK) (h:p:=by
 repeat' first|exact Z1|with_reducible apply Zb|intro _
 all_goals first|contradiction|with_reducible exact Qo|omega|skip
 refine Qw (bc:=Z2 n) (⟨t,i+1,(some b),S⟩,[pn,pb]) [56,90002,90005,90000,90001,90003,90004,90006,90007,60000] hok2 rfl (by simp) (by rw [Qv];rfl) ?_ ?_ ?_
 ·show Zs _ _ (wB t (i+1) b [pn,pb] S) _;rw [B0];simp [Zs,lk,Uu,rnA,rnAs,rk]
 ·show Qf (List.drop (wB t (i+1) b [pn,pb] S).length _) _;rw [B0];simp [Qf,lk]
 have Dx:=Kt;have Zv:=@Hg;have Zw:=@Zch;have Kq:KhL:=⟨⟩;exact Yh):p:=h
structure KhO:Prop
theorem KhO.k (_:KhO) (h:p:=by
 repeat' first|exact Z1|with_reducible apply Zb|intro _
 all_goals first|contradiction|with_reducible exact Qo|omega|skip
 refine ⟨[90000,90001,90002,90003,90004,90005,90006,90007],by simp,rfl,K9 (by decide),?_⟩
 simp [Zs,lk,Uu,rnA,rnAs,rk]):p:=h
structure KhP:Prop
theorem KhP.k (_:KhP) (h:p:=by
 repeat' first|exact Z1|with_reducible apply Zb|intro _
 all_goals first|contradiction|with_reducible exact Qo|omega|skip
 refine ⟨[90000,90001,90002,90003,90004,90005,90006,90007,60000],by simp,rfl,K9 (by decide),?_⟩
 simp [Zs,lk,Uu,rnA,rnAs,rk]):p:=h
structure KhR:Prop
theorem KhR.k (_:KhR) (h:p:=by
 repeat' first|exact Z1|with_reducible apply Zb|intro _
 all_goals first|contradiction|with_reducible exact Qo|omega|skip
 refine ⟨(k+1,U1,false),.inl (by rw [hnx];simp only [Zdd,Zg4,Iv];exact Qk),by simp only;omega,hU,hM,by simp only;omega,by simp only;omega⟩):p:=h
structure KhS:Prop
theorem KhS.k (_:KhS) (h:p:=by
 repeat' first|exact Z1|with_reducible apply Zb|intro _
 all_goals first|contradiction|with_reducible exact Qo|omega|skip
 refine ⟨(k+1,U1,true),.inl (by rw [hnx];simp only [Zdd,Zg4,Iv];exact Qk),by simp only;omega,hU,hM,by simp only;omega,by simp only;omega⟩):p:=h
structure KhQ:Prop
theorem KhQ.k (_:KhQ) (h:p:=by
 repeat' first|exact Z1|with_reducible apply Zb|intro _
 all_goals first|contradiction|with_reducible exact Qo|omega|skip
 cases H1 with
 | false =>
  have Qp:(Zy n).post ⟨t,c0,(some b),U⟩=pB t c1 b U1:=Qv;refine Qw (bc:=Zy n) ⟨t,c0,(some b),U⟩ [90000,90001,90002,90003,90004,90005,90006,90007] hok2 rfl (by simp) (by rw [Qp];rfl) ?_ ?_ ?_
  ·show Zs _ _ (pB t c0 b U) _;rw [Ue];simp [Zs,lk,Uu,rnA,rnAs,rk]
  ·show Qf (List.drop (pB t c0 b U).length _) _;rw [Ue];simp [Qf,lk]
  have Dx:=Kt;have Zv:=@Vb;have Zw:=@Ue;have Kq:KhR:=⟨⟩;exact Yh
 | true =>
  have Qp:(Zy n).post ⟨t,c0,(some b),U⟩=pM t c1 b U1:=Qv;refine Qw (bc:=Zy n) ⟨t,c0,(some b),U⟩ [90000,90001,90002,90003,90004,90005,90006,90007,60000] hok2 rfl (by simp) (by rw [Qp];rfl) ?_ ?_ ?_
  ·show Zs _ _ (pB t c0 b U) _;rw [Ue];simp [Zs,lk,Uu,rnA,rnAs,rk]
  ·show Qf (List.drop (pB t c0 b U).length _) _;rw [Ue];simp [Qf,lk]
  have Dx:=Kt;have Zv:=@Vb;have Zw:=@lZ;have Kq:KhS:=⟨⟩;exact Yh):p:=h
structure KhU:Prop
theorem KhU.k (_:KhU) (h:p:=by
 repeat' first|exact Z1|with_reducible apply Zb|intro _
 all_goals first|contradiction|with_reducible exact Qo|omega|skip
 refine ⟨(k+1,U1,true),.inl (by rw [hnx];simp only [Zdd,Zg4,Iv];exact Qk),by simp only;omega,hU,hM,by simp only;omega,by simp only;omega⟩):p:=h
structure KhV:Prop
theorem KhV.k (_:KhV) (h:p:=by
 repeat' first|exact Z1|with_reducible apply Zb|intro _
 all_goals first|contradiction|with_reducible exact Qo|omega|skip
 refine ⟨(k+1,U1,true),.inr (by rw [hnx];simp only [Zdd,Zg4,Iv];exact Qct),by simp only;omega,hU,hM,by simp only;omega,by simp only;omega⟩):p:=h
structure KhT:Prop
theorem KhT.k (_:KhT) (h:p:=by
 repeat' first|exact Z1|with_reducible apply Zb|intro _
 all_goals first|contradiction|with_reducible exact Qo|omega|skip
 cases H1 with
 | false =>
  have Qp:(Zy n).post ⟨t,c0,(some b),U⟩=pB t c1 b U1:=Qv;refine Qw (bc:=Zy n) ⟨t,c0,(some b),U⟩ [90000,90001,90002,90003,90004,90005,90006,60000] hok2 rfl (by simp) (by rw [Qp];rfl) ?_ ?_ ?_
  ·show Zs _ _ (pB t c0 b U) _;rw [Ue];simp [Zs,lk,Uu,rnA,rnAs,rk]
  ·show Qf (List.drop (pB t c0 b U).length _) _;rw [Ue];simp [Qf,lk]
  have Dx:=Kt;have Zv:=@Vb;have Zw:=@Ue;have Kq:KhU:=⟨⟩;exact Yh
 | true =>
  have Qp:(Zy n).post ⟨t,c0,(some b),U⟩=pM t c1 b U1:=Qv;refine Qw (bc:=Zy n) ⟨t,c0,(some b),U⟩ [90000,90001,90002,90003,90004,90005,90006,60000,60001] hok2 rfl (by simp) (by rw [Qp];rfl) ?_ ?_ ?_
  ·show Zs _ _ (pB t c0 b U) _;rw [Ue];simp [Zs,lk,Uu,rnA,rnAs,rk]
  ·show Qf (List.drop (pB t c0 b U).length _) _;rw [Ue];simp [Qf,lk]
  have Dx:=Kt;have Zv:=@Vb;have Zw:=@lZ;have Kq:KhV:=⟨⟩;exact Yh):p:=h
structure KhN:Prop
theorem KhN.k (_:KhN) (h:p:=by
 repeat' first|exact Z1|with_reducible apply Zb|intro _
 all_goals first|contradiction|with_reducible exact Qo|omega|skip
 refine nI 90002 60000 60001 [18,19,20,21] (fun q:Nat×List (List UInt8)×Bool=>[(17,.d (.int .i64 q.1))]) (fun q:Nat×List (List UInt8)×Bool=>[(90001,.box false [.d (.int .i64 (i+1+(ndss (ks.take q.1)).length:Nat))]),(90006,.mp (q.2.1.map enc) ((mY q.2.1).map enc) false)]++(Qce b) q.2.2) (fun q:Nat×List (List UInt8)×Bool=>q.1≤ks.length∧partTs ⟨pk,pl,pn,pb,pm,pq,pt,pu⟩ (ks.drop q.1) q.1 b q.2.1=V∧(q.2.2||hasBs (ks.drop q.1))=H∧q.2.1.length≤S.length+(ndss (ks.take q.1)).length) (fun q:Nat×List (List UInt8)×Bool=>ks.length-q.1) (0,S,false) ?_ ?_ ?_
 ·exact ⟨Nat.zero_le _,hV,by simpa using hH2,by simp⟩
 ·simp only [Zdd,Iv,List.take_zero,ndss];exact Qk
 rintro ⟨k,U,mv⟩ ⟨hk,hU,hM,hUl⟩;simp only at hk hU hM hUl;rcases Zn k ks.length with ⟨hlt,Qg⟩|⟨hlt,Qg⟩
 rotate_left
 ·have hke:k=ks.length:=by omega
  rw [hke,List.drop_length] at hU hM;rw [partTs] at hU;rw [hasBs,Bool.or_false] at hM;subst hU hM;rw [hke,List.take_length];have Qe:i+1+(ndss ks).length=j:=by omega
  rw [Qe];rw [hke] at Qg;cases mv with
  | false =>
   have Qa:pP t j (some b) false U=_:=(show pP t j (some b) false U=pB t j b U from rfl).trans (Ue _ _ _ _);have Dx:=Kt;have Zv:=@Zdd;have Zw:=@Iv;have Kq:KhO:=⟨⟩;exact Yh
  | true =>
   have Qa:pP t j (some b) true U=_:=(show pP t j (some b) true U=pM t j b U from rfl).trans (lZ _ _ _ _);have Dx:=Kt;have Zv:=@Zg4;have Zw:=@Iv;have Kq:KhP:=⟨⟩;exact Yh
 have ax:=Zb9 hks hlt;have hsz:=Du hlt;have htk:=Zg0 hlt;rw [mI hlt,hmo] at hU;rw [Zdz hlt,←Bool.or_assoc] at hM;obtain ⟨c0,hc0⟩:=exq (i+1+(ndss (ks.take k)).length);rw [hc0] at ax ⊢;have hnx:i+1+(ndss (ks.take (k+1))).length=c0+(nds ks[k]).length:=by omega
 have hcle:=N0 (ks.take (k+1)) (ks.drop (k+1));have hcl2:=congrArg List.length hcle;rw [List.take_append_drop,Zh] at hcl2;have hpl:=partT_len ks[k] b U;obtain ⟨y,hyk⟩:=exq (ks[k]);rw [hyk] at ax hsz htk hU hM hnx hpl;obtain ⟨U1,hU1⟩:=exq (partT y b U);obtain ⟨H1,hH1⟩:=exq (hasB y);obtain ⟨c1,hc1⟩:=exq (c0+(nds y).length);rw [hU1] at hU hpl;rw [hH1] at hM;rw [hc1] at hnx;clear hcle;cases mv with
 | false =>
  have hok2:(PX.mk t c0 (some b) U).Ok n 0:=⟨hT,y,ax,by omega,by show (b).length+0+_≤_;omega,by show U.length+_≤_;omega⟩
  have Qv:=Hm (n:=n) (o:=(some b)) ax hc1 hH1 hU1;have Dx:=Kt;have Zv:=@Zdd;have Zw:=@Iv;have Kq:KhQ:=⟨⟩;exact Yh
 | true =>
  have hok2:(PX.mk t c0 (some b) U).Ok n 0:=⟨hT,y,ax,by omega,by show (b).length+0+_≤_;omega,by show U.length+_≤_;omega⟩
  have Qv:=Hm (n:=n) (o:=(some b)) ax hc1 hH1 hU1;have Dx:=Kt;have Zv:=@Zg4;have Zw:=@Iv;have Kq:KhT:=⟨⟩;exact Yh):p:=h
theorem stepb_FreePart (n:Nat) (ih:Nu Tryz.prog (96,Zy n)):Nu Tryz.prog (96,(Zy (n+1))):=by
 obtain ⟨Kx,Kt,Kc,Kd,Kb,Ku,Kw,K,W4,Gd,M4,Ln,_⟩:=X2 Z4 Zq [] false (Jh Zo2 bI.eq_def (Zpj goodb_containsSt Y9.eq_def (Zpj (stepbm_FreeWith n ih) (Z2.eq_def n) (Zpj ih (Zy.eq_def n) X1))));refine Zfu K Tryz.func96 [] rfl 63 rfl (fun c hc x hok=>?_);obtain ⟨t,i,bd,S⟩:=x;obtain ⟨hT,y,hy,hn,hb,hS⟩:=hok;simp only at hT hy hb hS;obtain ⟨V,hV⟩:=exq (partT y (Bu bd) S);obtain ⟨j,hj⟩:=exq (i+(nds y).length);obtain ⟨H,hH⟩:=exq (hasB y);have hpost:=Hm (n:=n+1) (o:=bd) hy hj hH hV;have hil:=hy.lt;have Qd:=Zr e0 hil;have hr:=hy.root e0;have hks:=hy.kids;have hpm:=(hT.2 (t.getD i e0) (by simp [hil])).2.2
 have hle:=hy.le;have htl:=hT.1;obtain ⟨p,ks⟩:=y;rw [show (mk p ks).kids=ks from rfl,show (mk p ks).root=p from rfl] at hks;rw [show (mk p ks).root=p from rfl] at hr;obtain ⟨hks,hks2⟩:=hks;rw [hr] at Qd hpm;rw [Rp,Zj] at hn hb hS hj hle;rw [partT] at hV;rw [hasB] at hH;have Z9:=gA p;have hkl:=lK (xs:=ks);obtain ⟨pk,pl,pn,pb,pm,pq,pt,pu⟩:=p;simp only at hV hH hpm;rw [←hks2] at Z9;clear hy hr;cases bd with
 | none =>
  simp only [Bu,List.length_nil] at hb hV;refine ⟨?_,?_,?_,?_,?_⟩
  ·show Xz [.ref 90000 0,.ref 90001 0,.ref 90002 0,.ref 90003 0,.ref 90004 0,.ref 90005 0] (pN t i S);rw [Tg];simp [Xz,J9,Obj.tied,Zx,keptAll,AV.kept,Z8,Xp,lk]
  ·show Zx (pN t i S);rw [Tg];simp [Zx]
  ·rw [hpost];cases H with
   | false =>
    show Xz [] (pN t j V);rw [Tg];simp [Xz,J9,Obj.tied,Zx,keptAll,AV.kept,Z8,Xp,lk]
   | true =>
    show Xz [] (pB t j [] V);rw [Ue];simp [Xz,J9,Obj.tied,Zx,keptAll,AV.kept,Z8,Xp,lk]
  ·rw [hpost];cases H with
   | false =>
    show (pN t i S).length≤(pN t j V).length;rw [Tg,Tg];simp
   | true =>
    show (pN t i S).length≤(pB t j [] V).length;rw [Tg,Ue];simp
  show Mi Kx c (P3 _ _ (pN t i S).length (.tup []) ((Zy (n+1)).post ⟨t,i,none,S⟩)) ⟨[.ref 90000 0,.ref 90001 0,.ref 90002 0,.ref 90003 0,.ref 90004 0,.ref 90005 0]++U8 57,Z8 (pN t i S)⟩;rw [hpost,Tg];cases hc;refine Yv 3 ?_;by_cases h1:pk=1
  ·subst h1;have hz:ks=[]:=List.length_eq_zero_iff.1 (by rw [hks2];rfl)
   subst hz;rw [if_pos rfl] at hV;obtain rfl:H=false:=by rw [←hH];rfl
   have hjj:i+1=j:=by rw [←hj];simp [ndss]
   have Qe:(i:Int)+1=(j:Int):=by omega
   have Qa:pP t j none false V=_:=(show pP t j none false V=pN t j V from rfl).trans (Tg _ _ _);have Dx:=Kt;have Kq:Khb:=⟨⟩;exact Yh
  rw [if_neg h1] at hV;have Q4:(pk==1)=false:=Za.2 h1;by_cases h2:pk=2
  ·subst h2;obtain ⟨x1,rfl⟩:∃ x1,ks=[x1]:=List.length_eq_one_iff.1 (by rw [hks2];rfl)
   have a1:=hks.head.1;simp only [ndss,List.append_nil] at hn hb hS hj;obtain rfl:H=true:=by rw [←hH];rfl
   have hV1:partT x1 (([]:List (List UInt8))++[pb]) S=V:=by rw [←hV,partTs,partTs];rfl
   have Qv:=Uo (n:=n) (o:=none) a1 (show i+1+(nds x1).length=j by omega) hV1
   have hok2:(Z2 n).ok (⟨t,i+1,none,S⟩,[pb]):=⟨hT,x1,a1,by omega,by show (([]:List (List UInt8))).length+1+_≤_;simp;omega,by show S.length+_≤_;omega⟩
   have Qa:pP t j none true V=_:=(show pP t j none true V=pB t j [] V from rfl).trans (Ue _ _ _ _);have Dx:=Kt;have Kq:Khd:=⟨⟩;exact Yh
  have Z0:(pk==2)=false:=Za.2 h2;by_cases h8:pk=8
  ·subst h8;obtain ⟨x1,rfl⟩:∃ x1,ks=[x1]:=List.length_eq_one_iff.1 (by rw [hks2];rfl)
   have a1:=hks.head.1;simp only [ndss,List.append_nil] at hn hb hS hj;obtain rfl:H=true:=by rw [←hH];rfl
   have hV1:partT x1 (([]:List (List UInt8))++[pb]) S=V:=by rw [←hV,partTs,partTs];rfl
   have Qv:=Uo (n:=n) (o:=none) a1 (show i+1+(nds x1).length=j by omega) hV1
   have hok2:(Z2 n).ok (⟨t,i+1,none,S⟩,[pb]):=⟨hT,x1,a1,by omega,by show (([]:List (List UInt8))).length+1+_≤_;simp;omega,by show S.length+_≤_;omega⟩
   have Qa:pP t j none true V=_:=(show pP t j none true V=pB t j [] V from rfl).trans (Ue _ _ _ _);have Dx:=Kt;have Kq:Khf:=⟨⟩;exact Yh
  have Z3:(pk==8)=false:=Za.2 h8;by_cases h4:pk=4
  ·subst h4;obtain ⟨x1,x2,rfl⟩:∃ x1 x2,ks=[x1,x2]:=Ziy (by rw [hks2];rfl)
   have a1:=hks.head.1;have a2:=hks.head.2.head.1;simp only [ndss,List.append_nil,Zh] at hn hb hS hj;obtain rfl:H=true:=by rw [←hH];rfl
   obtain ⟨j1,hj1⟩:=exq (i+1+(nds x1).length);rw [hj1] at a2;obtain ⟨V1,hV1⟩:=exq (partT x1 ([]:List (List UInt8)) S);have hl1:=partT_len x1 ([]:List (List UInt8)) S;rw [hV1] at hl1;have hV2:partT x2 (([]:List (List UInt8))++[pb]) V1=V:=by rw [←hV,partTs,partTs,partTs,←hV1];rfl
   obtain ⟨H1,hH1⟩:=exq (hasB x1);have Qv:=Hm (n:=n) (o:=none) a1 hj1 hH1 hV1;have hok2:(PX.mk t (i+1) none S).Ok n 0:=⟨hT,x1,a1,by omega,by show (([]:List (List UInt8))).length+0+_≤_;simp;omega,by show S.length+_≤_;omega⟩
   have Qa:pP t j none true V=_:=(show pP t j none true V=pB t j [] V from rfl).trans (Ue _ _ _ _);have Dx:=Kt;have Kq:Khh:=⟨⟩;exact Yh
  have Zz:(pk==4)=false:=Za.2 h4;by_cases h5:pk=5
  ·subst h5;obtain ⟨x1,x2,rfl⟩:∃ x1 x2,ks=[x1,x2]:=Ziy (by rw [hks2];rfl)
   have a1:=hks.head.1;have a2:=hks.head.2.head.1;simp only [ndss,List.append_nil,Zh] at hn hb hS hj;obtain rfl:H=true:=by rw [←hH];rfl
   obtain ⟨j1,hj1⟩:=exq (i+1+(nds x1).length);rw [hj1] at a2;obtain ⟨V1,hV1⟩:=exq (partT x1 (([]:List (List UInt8))++[pn,pb]) S);have hl1:=partT_len x1 (([]:List (List UInt8))++[pn,pb]) S;rw [hV1] at hl1;have hV2:partT x2 (([]:List (List UInt8))++[pn]) V1=V:=by rw [←hV,partTs,partTs,partTs,←hV1];rfl
   have Qv:(Z2 n).post (⟨t,i+1,none,S⟩,[pn,pb])=wB t j1 [] [pn,pb] V1:=Uo (n:=n) (o:=none) a1 hj1 hV1;have hok2:(Z2 n).ok (⟨t,i+1,none,S⟩,[pn,pb]):=⟨hT,x1,a1,by omega,by show (([]:List (List UInt8))).length+2+_≤_;simp;omega,by show S.length+_≤_;omega⟩
   have Qa:pP t j none true V=_:=(show pP t j none true V=pB t j [] V from rfl).trans (Ue _ _ _ _);have Dx:=Kt;have Kq:Khm:=⟨⟩;exact Yh
  have Z7:(pk==5)=false:=Za.2 h5;have hmo:∀ k,dK ⟨pk,pl,pn,pb,pm,pq,pt,pu⟩ k ([]:List (List UInt8))=([]:List (List UInt8)):=fun k=>by unfold dK;rw [if_neg (by simp only;omega),if_neg h5]
  have hH2:hasBs ks=H:=by rw [←hH,Z0,Z3,Zz,Z7];rfl
  have Dx:=Kt;have Kq:Khp:=⟨⟩;exact Yh
 | some b =>
  simp only [Bu] at hb hV;refine ⟨?_,?_,?_,?_,?_⟩
  ·show Xz [.ref 90000 0,.ref 90001 0,.ref 90002 0,.ref 90003 0,.ref 90004 0,.ref 90005 0] (pB t i b S);rw [Ue];simp [Xz,J9,Obj.tied,Zx,keptAll,AV.kept,Z8,Xp,lk]
  ·show Zx (pB t i b S);rw [Ue];simp [Zx]
  ·rw [hpost];cases H with
   | false =>
    show Xz [] (pB t j b V);rw [Ue];simp [Xz,J9,Obj.tied,Zx,keptAll,AV.kept,Z8,Xp,lk]
   | true =>
    show Xz [] (pM t j b V);rw [lZ];simp [Xz,J9,Obj.tied,Zx,keptAll,AV.kept,Z8,Xp,lk]
  ·rw [hpost];cases H with
   | false =>
    show (pB t i b S).length≤(pB t j b V).length;rw [Ue,Ue];simp
   | true =>
    show (pB t i b S).length≤(pM t j b V).length;rw [Ue,lZ];simp
  show Mi Kx c (P3 _ _ (pB t i b S).length (.tup []) ((Zy (n+1)).post ⟨t,i,(some b),S⟩)) ⟨[.ref 90000 0,.ref 90001 0,.ref 90002 0,.ref 90003 0,.ref 90004 0,.ref 90005 0]++U8 57,Z8 (pB t i b S)⟩;rw [hpost,Ue];cases hc;refine Yv 3 ?_;by_cases h1:pk=1
  ·subst h1;have hz:ks=[]:=List.length_eq_zero_iff.1 (by rw [hks2];rfl)
   subst hz;rw [if_pos rfl] at hV;obtain rfl:H=false:=by rw [←hH];rfl
   have hjj:i+1=j:=by rw [←hj];simp [ndss]
   have Qe:(i:Int)+1=(j:Int):=by omega
   have Qa:pP t j (some b) false V=_:=(show pP t j (some b) false V=pB t j b V from rfl).trans (Ue _ _ _ _);have Dx:=Kt;have Kq:Khy:=⟨⟩;exact Yh
  rw [if_neg h1] at hV;have Q4:(pk==1)=false:=Za.2 h1;by_cases h2:pk=2
  ·subst h2;obtain ⟨x1,rfl⟩:∃ x1,ks=[x1]:=List.length_eq_one_iff.1 (by rw [hks2];rfl)
   have a1:=hks.head.1;simp only [ndss,List.append_nil] at hn hb hS hj;obtain rfl:H=true:=by rw [←hH];rfl
   have hV1:partT x1 (b++[pb]) S=V:=by rw [←hV,partTs,partTs];rfl
   have Qv:=Uo (n:=n) (o:=(some b)) a1 (show i+1+(nds x1).length=j by omega) hV1
   have hok2:(Z2 n).ok (⟨t,i+1,(some b),S⟩,[pb]):=⟨hT,x1,a1,by omega,by show (b).length+1+_≤_;omega,by show S.length+_≤_;omega⟩
   have Qa:pP t j (some b) true V=_:=(show pP t j (some b) true V=pM t j b V from rfl).trans (lZ _ _ _ _);have Dx:=Kt;have Kq:KhB:=⟨⟩;exact Yh
  have Z0:(pk==2)=false:=Za.2 h2;by_cases h8:pk=8
  ·subst h8;obtain ⟨x1,rfl⟩:∃ x1,ks=[x1]:=List.length_eq_one_iff.1 (by rw [hks2];rfl)
   have a1:=hks.head.1;simp only [ndss,List.append_nil] at hn hb hS hj;obtain rfl:H=true:=by rw [←hH];rfl
   have hV1:partT x1 (b++[pb]) S=V:=by rw [←hV,partTs,partTs];rfl
   have Qv:=Uo (n:=n) (o:=(some b)) a1 (show i+1+(nds x1).length=j by omega) hV1
   have hok2:(Z2 n).ok (⟨t,i+1,(some b),S⟩,[pb]):=⟨hT,x1,a1,by omega,by show (b).length+1+_≤_;omega,by show S.length+_≤_;omega⟩
   have Qa:pP t j (some b) true V=_:=(show pP t j (some b) true V=pM t j b V from rfl).trans (lZ _ _ _ _);have Dx:=Kt;have Kq:KhD:=⟨⟩;exact Yh
  have Z3:(pk==8)=false:=Za.2 h8;by_cases h4:pk=4
  ·subst h4;obtain ⟨x1,x2,rfl⟩:∃ x1 x2,ks=[x1,x2]:=Ziy (by rw [hks2];rfl)
   have a1:=hks.head.1;have a2:=hks.head.2.head.1;simp only [ndss,List.append_nil,Zh] at hn hb hS hj;obtain rfl:H=true:=by rw [←hH];rfl
   obtain ⟨j1,hj1⟩:=exq (i+1+(nds x1).length);rw [hj1] at a2;obtain ⟨V1,hV1⟩:=exq (partT x1 b S);have hl1:=partT_len x1 b S;rw [hV1] at hl1;have hV2:partT x2 (b++[pb]) V1=V:=by rw [←hV,partTs,partTs,partTs,←hV1];rfl
   obtain ⟨H1,hH1⟩:=exq (hasB x1);have Qv:=Hm (n:=n) (o:=(some b)) a1 hj1 hH1 hV1;have hok2:(PX.mk t (i+1) (some b) S).Ok n 0:=⟨hT,x1,a1,by omega,by show (b).length+0+_≤_;omega,by show S.length+_≤_;omega⟩
   have Qa:pP t j (some b) true V=_:=(show pP t j (some b) true V=pM t j b V from rfl).trans (lZ _ _ _ _);have Dx:=Kt;have Kq:KhF:=⟨⟩;exact Yh
  have Zz:(pk==4)=false:=Za.2 h4;by_cases h5:pk=5
  ·subst h5;obtain ⟨x1,x2,rfl⟩:∃ x1 x2,ks=[x1,x2]:=Ziy (by rw [hks2];rfl)
   have a1:=hks.head.1;have a2:=hks.head.2.head.1;simp only [ndss,List.append_nil,Zh] at hn hb hS hj;obtain rfl:H=true:=by rw [←hH];rfl
   obtain ⟨j1,hj1⟩:=exq (i+1+(nds x1).length);rw [hj1] at a2;obtain ⟨V1,hV1⟩:=exq (partT x1 (b++[pn,pb]) S);have hl1:=partT_len x1 (b++[pn,pb]) S;rw [hV1] at hl1;have hV2:partT x2 (b++[pn]) V1=V:=by rw [←hV,partTs,partTs,partTs,←hV1];rfl
   have Qv:(Z2 n).post (⟨t,i+1,(some b),S⟩,[pn,pb])=wM t j1 b [pn,pb] V1:=Uo (n:=n) (o:=(some b)) a1 hj1 hV1;have hok2:(Z2 n).ok (⟨t,i+1,(some b),S⟩,[pn,pb]):=⟨hT,x1,a1,by omega,by show (b).length+2+_≤_;omega,by show S.length+_≤_;omega⟩
   have Qa:pP t j (some b) true V=_:=(show pP t j (some b) true V=pM t j b V from rfl).trans (lZ _ _ _ _);have Dx:=Kt;have Kq:KhK:=⟨⟩;exact Yh
  have Z7:(pk==5)=false:=Za.2 h5;have hmo:∀ k,dK ⟨pk,pl,pn,pb,pm,pq,pt,pu⟩ k b=b:=fun k=>by unfold dK;rw [if_neg (by simp only;omega),if_neg h5]
  have hH2:hasBs ks=H:=by rw [←hH,Z0,Z3,Zz,Z7];rfl
  have Dx:=Kt;have Kq:KhN:=⟨⟩;exact Yh
theorem Ii:∀ n,Nu Tryz.prog (96,Zy n)
 | 0=>Zd2 (Jz Tryz.func96 (by kernel_rfl) rfl) eU
 | n+1=>stepb_FreePart n (Ii n)
open Go.Proofs Go.Shelf Go.RowKit
def Zgl:Ren:=⟨fun x=>if x=7 then 100 else if x=10 then 139 else x,fun x=>if x=3 then 4 else if x=23 then 124 else if x=26 then 9 else if x=27 then 129 else if x=28 then 130 else if x=33 then 92 else x,fun x=>x⟩
theorem Qcp : Bears Tryz.prog (Zgl.f 7) (SlBodyZ.n7 Zgl) := ⟨"maps.Keys[map[string]bool,string,bool]", by decide, by show Tryz.prog.funcs[100]? = _; rw [Tryz.func100]; kernel_rfl⟩
theorem Qbi : Bears Tryz.prog (Zgl.f 10) (SlBodyZ.n10 Zgl) := ⟨"maps.Keys[map[string]bool,string,bool]$1", by decide, by show Tryz.prog.funcs[139]? = _; rw [Tryz.func139]; kernel_rfl⟩
theorem Qbh:SlLaysZ.n7 Tryz.prog Zgl:=⟨by kernel_rfl,Qcp,Qbi,Tryz.underlying0,Tryz.isAgg0,Tryz.sizeOf0,Tryz.zeroValue0,Tryz.underlying4,Tryz.isAgg4,Tryz.sizeOf4,Tryz.zeroValue4,Tryz.underlying124,Tryz.isAgg124,Tryz.sizeOf124,Tryz.zeroValue124,Tryz.underlying9,Tryz.isAgg9,Tryz.sizeOf9,Tryz.zeroValue9,Tryz.underlying129,Tryz.isAgg129,Tryz.sizeOf129,Tryz.zeroValue129,Tryz.underlying130,Tryz.isAgg130,Tryz.sizeOf130,Tryz.zeroValue130,Tryz.underlying92,Tryz.isAgg92,Tryz.sizeOf92,Tryz.zeroValue92⟩
def Zgk:Ren:=⟨fun x=>if x=7 then 108 else if x=10 then 153 else x,fun x=>if x=23 then 143 else if x=26 then 9 else if x=27 then 129 else if x=28 then 130 else if x=33 then 92 else x,fun x=>x⟩
theorem Qco : Bears Tryz.prog (Zgk.f 7) (SlBodyZ.n7 Zgk) := ⟨"maps.Keys[map[string]int,string,int]", by decide, by show Tryz.prog.funcs[108]? = _; rw [Tryz.func108]; kernel_rfl⟩
theorem Qbg : Bears Tryz.prog (Zgk.f 10) (SlBodyZ.n10 Zgk) := ⟨"maps.Keys[map[string]int,string,int]$1", by decide, by show Tryz.prog.funcs[153]? = _; rw [Tryz.func153]; kernel_rfl⟩
theorem Qbf:SlLaysZ.n7 Tryz.prog Zgk:=⟨by kernel_rfl,Qco,Qbg,Tryz.underlying0,Tryz.isAgg0,Tryz.sizeOf0,Tryz.zeroValue0,Tryz.underlying4,Tryz.isAgg4,Tryz.sizeOf4,Tryz.zeroValue4,Tryz.underlying143,Tryz.isAgg143,Tryz.sizeOf143,Tryz.zeroValue143,Tryz.underlying9,Tryz.isAgg9,Tryz.sizeOf9,Tryz.zeroValue9,Tryz.underlying129,Tryz.isAgg129,Tryz.sizeOf129,Tryz.zeroValue129,Tryz.underlying130,Tryz.isAgg130,Tryz.sizeOf130,Tryz.zeroValue130,Tryz.underlying92,Tryz.isAgg92,Tryz.sizeOf92,Tryz.zeroValue92⟩
def mF:Ren:=⟨fun x=>if x=6 then 99 else if x=8 then 137 else if x=9 then 138 else if x=11 then 175 else x,fun x=>if x=24 then 22 else if x=26 then 9 else if x=28 then 130 else if x=33 then 92 else x,fun x=>x⟩
theorem Qck : Bears Tryz.prog (mF.f 6) (SlBodyZ.n6 mF) := ⟨"slices.Sorted[string]", by decide, by show Tryz.prog.funcs[99]? = _; rw [Tryz.func99]; kernel_rfl⟩
theorem Qcj : Bears Tryz.prog (mF.f 8) (SlBodyZ.n8 mF) := ⟨"slices.Collect[string]", by decide, by show Tryz.prog.funcs[137]? = _; rw [Tryz.func137]; kernel_rfl⟩
theorem Qav : Bears Tryz.prog (mF.f 11) (SlBodyZ.n11 mF) := ⟨"slices.AppendSeq[[]string,string]", by decide, by show Tryz.prog.funcs[175]? = _; rw [Tryz.func175]; kernel_rfl⟩
theorem Qci:SlLaysZ.n6 Tryz.prog mF:=⟨by kernel_rfl,Qck,Qcj,Qav,Tryz.underlying0,Tryz.isAgg0,Tryz.sizeOf0,Tryz.zeroValue0,Tryz.underlying22,Tryz.isAgg22,Tryz.sizeOf22,Tryz.zeroValue22,Tryz.underlying9,Tryz.isAgg9,Tryz.sizeOf9,Tryz.zeroValue9,Tryz.underlying130,Tryz.isAgg130,Tryz.sizeOf130,Tryz.zeroValue130,by kernel_rfl⟩
def Wi:Ren:=⟨fun x=>if x=6 then 138 else if x=8 then 169 else if x=9 then 176 else if x=19 then 207 else if x=20 then 208 else if x=21 then 209 else if x=22 then 210 else if x=23 then 211 else if x=24 then 212 else if x=25 then 213 else if x=26 then 214 else if x=27 then 215 else if x=28 then 216 else if x=29 then 217 else if x=31 then 237 else if x=32 then 238 else if x=36 then 242 else if x=37 then 243 else if x=38 then 244 else if x=39 then 245 else if x=41 then 258 else x,fun x=>if x=26 then 22 else if x=27 then 22 else if x=29 then 9 else if x=32 then 196 else if x=35 then 213 else if x=36 then 214 else if x=41 then 184 else if x=44 then 220 else if x=46 then 222 else if x=53 then 239 else if x=57 then 243 else if x=63 then 256 else if x=64 then 257 else x,fun x=>x⟩
theorem Qcn : Bears Tryz.prog (Wi.f 6) (SlBodyM.n6 Wi) := ⟨"slices.Sort[[]string,string]", by decide, by show Tryz.prog.funcs[138]? = _; rw [Tryz.func138]; kernel_rfl⟩
theorem Qcm:Tryz.prog.funcs[Wi.f 8]?=some (SlBodyM.n8 Wi):=by show Tryz.prog.funcs[169]?=_;rw [Tryz.func169];kernel_rfl
theorem Qcl : Bears Tryz.prog (Wi.f 9) (SlBodyM.n9 Wi) := ⟨"slices.pdqsortOrdered[string]", by decide, by show Tryz.prog.funcs[176]? = _; rw [Tryz.func176]; kernel_rfl⟩
theorem Qbe:Tryz.prog.funcs[Wi.f 19]?=some (SlBodyM.n19 Wi):=by show Tryz.prog.funcs[207]?=_;rw [Tryz.func207];kernel_rfl
theorem Qbd:Tryz.prog.funcs[Wi.f 20]?=some (SlBodyM.n20 Wi):=by show Tryz.prog.funcs[208]?=_;rw [Tryz.func208];kernel_rfl
theorem Qbc : Bears Tryz.prog (Wi.f 21) (SlBodyM.n21 Wi) := ⟨"slices.insertionSortOrdered[string]", by decide, by show Tryz.prog.funcs[209]? = _; rw [Tryz.func209]; kernel_rfl⟩
theorem Qbb : Bears Tryz.prog (Wi.f 22) (SlBodyM.n22 Wi) := ⟨"slices.heapSortOrdered[string]", by decide, by show Tryz.prog.funcs[210]? = _; rw [Tryz.func210]; kernel_rfl⟩
theorem Qba : Bears Tryz.prog (Wi.f 23) (SlBodyM.n23 Wi) := ⟨"slices.breakPatternsOrdered[string]", by decide, by show Tryz.prog.funcs[211]? = _; rw [Tryz.func211]; kernel_rfl⟩
theorem Qa9 : Bears Tryz.prog (Wi.f 24) (SlBodyM.n24 Wi) := ⟨"slices.choosePivotOrdered[string]", by decide, by show Tryz.prog.funcs[212]? = _; rw [Tryz.func212]; kernel_rfl⟩
theorem Qa8 : Bears Tryz.prog (Wi.f 25) (SlBodyM.n25 Wi) := ⟨"slices.reverseRangeOrdered[string]", by decide, by show Tryz.prog.funcs[213]? = _; rw [Tryz.func213]; kernel_rfl⟩
theorem Qa7 : Bears Tryz.prog (Wi.f 26) (SlBodyM.n26 Wi) := ⟨"slices.partialInsertionSortOrdered[string]", by decide, by show Tryz.prog.funcs[214]? = _; rw [Tryz.func214]; kernel_rfl⟩
theorem Qa6 : Bears Tryz.prog (Wi.f 27) (SlBodyM.n27 Wi) := ⟨"cmp.Less[string]", by decide, by show Tryz.prog.funcs[215]? = _; rw [Tryz.func215]; kernel_rfl⟩
theorem Qa5 : Bears Tryz.prog (Wi.f 28) (SlBodyM.n28 Wi) := ⟨"slices.partitionEqualOrdered[string]", by decide, by show Tryz.prog.funcs[216]? = _; rw [Tryz.func216]; kernel_rfl⟩
theorem Qa4 : Bears Tryz.prog (Wi.f 29) (SlBodyM.n29 Wi) := ⟨"slices.partitionOrdered[string]", by decide, by show Tryz.prog.funcs[217]? = _; rw [Tryz.func217]; kernel_rfl⟩
theorem Qa3:Tryz.prog.funcs[Wi.f 31]?=some (SlBodyM.n31 Wi):=by show Tryz.prog.funcs[237]?=_;rw [Tryz.func237];kernel_rfl
theorem Qa2:Tryz.prog.funcs[Wi.f 32]?=some (SlBodyM.n32 Wi):=by show Tryz.prog.funcs[238]?=_;rw [Tryz.func238];kernel_rfl
theorem Qa1 : Bears Tryz.prog (Wi.f 36) (SlBodyM.n36 Wi) := ⟨"slices.siftDownOrdered[string]", by decide, by show Tryz.prog.funcs[242]? = _; rw [Tryz.func242]; kernel_rfl⟩
theorem Qa0 : Bears Tryz.prog (Wi.f 37) (SlBodyM.n37 Wi) := ⟨"slices.medianAdjacentOrdered[string]", by decide, by show Tryz.prog.funcs[243]? = _; rw [Tryz.func243]; kernel_rfl⟩
theorem Qaz : Bears Tryz.prog (Wi.f 38) (SlBodyM.n38 Wi) := ⟨"slices.medianOrdered[string]", by decide, by show Tryz.prog.funcs[244]? = _; rw [Tryz.func244]; kernel_rfl⟩
theorem Qay : Bears Tryz.prog (Wi.f 39) (SlBodyM.n39 Wi) := ⟨"cmp.isNaN[string]", by decide, by show Tryz.prog.funcs[245]? = _; rw [Tryz.func245]; kernel_rfl⟩
theorem Qax : Bears Tryz.prog (Wi.f 41) (SlBodyM.n41 Wi) := ⟨"slices.order2Ordered[string]", by decide, by show Tryz.prog.funcs[258]? = _; rw [Tryz.func258]; kernel_rfl⟩
theorem Qaw:SlLaysM.n6 Tryz.prog Wi:=⟨by kernel_rfl,Qcn,Qcm,Qcl,Qbe,Qbd,Qbc,Qbb,Qba,Qa9,Qa8,Qa7,Qa6,Qa5,Qa4,Qa3,Qa2,Qa1,Qa0,Qaz,Qay,Qax,Tryz.underlying0,Tryz.isAgg0,Tryz.sizeOf0,Tryz.zeroValue0,Tryz.underlying3,Tryz.isAgg3,Tryz.sizeOf3,Tryz.zeroValue3,Tryz.underlying4,Tryz.isAgg4,Tryz.sizeOf4,Tryz.zeroValue4,Tryz.underlying5,Tryz.isAgg5,Tryz.sizeOf5,Tryz.zeroValue5,Tryz.underlying9,Tryz.isAgg9,Tryz.sizeOf9,Tryz.zeroValue9,Tryz.underlying22,Tryz.isAgg22,Tryz.sizeOf22,Tryz.zeroValue22,Tryz.underlying22,Tryz.isAgg22,Tryz.sizeOf22,Tryz.zeroValue22,Tryz.underlying9,Tryz.isAgg9,Tryz.sizeOf9,Tryz.zeroValue9,Tryz.underlying196,Tryz.isAgg196,Tryz.sizeOf196,Tryz.zeroValue196,Tryz.underlying213,Tryz.isAgg213,Tryz.sizeOf213,Tryz.zeroValue213,Tryz.underlying214,Tryz.isAgg214,Tryz.sizeOf214,Tryz.zeroValue214,Tryz.underlying184,Tryz.isAgg184,Tryz.sizeOf184,Tryz.zeroValue184,Tryz.underlying220,Tryz.isAgg220,Tryz.sizeOf220,Tryz.zeroValue220,Tryz.underlying222,Tryz.isAgg222,Tryz.sizeOf222,Tryz.zeroValue222,Tryz.underlying239,Tryz.isAgg239,Tryz.sizeOf239,Tryz.zeroValue239,Tryz.underlying243,Tryz.isAgg243,Tryz.sizeOf243,Tryz.zeroValue243,Tryz.underlying256,Tryz.isAgg256,Tryz.sizeOf256,Tryz.zeroValue256,Tryz.underlying257,Tryz.isAgg257,Tryz.sizeOf257,Tryz.zeroValue257⟩
open Go.Proofs Go.Shelf Go.RowKit Go.Maps Go.Sort
theorem Zt8 {w w':World} {m:Nat→Nat} {t n:Nat} {v:Value} {xs:List Value} {l:List D} (hrow:w'.ownsRow w.heap.size t 1 v n xs) (hn:n=l.length) (hR:∀ F:Fix,RE F 1 l xs) (hnew:∀ b,w.heap.size≤b→m b=0) (hsz:w.heap.size≤w'.heap.size) :
  ∃ m':Nat→Nat,(∀ b,b<w.heap.size→m' b=m b)∧(∀ b,w'.heap.size≤b→m' b=0)∧R ⟨w',m'⟩ (.list 1 l) v:=by
 subst hn;rcases hrow.2 with ⟨rfl,h0⟩|⟨g,cap,nC,rfl,hb,hg,h1,h2,h3,h4⟩
 ·have hl:l=[]:=List.eq_nil_of_length_eq_zero h0;subst hl;refine ⟨m,fun _ _=>rfl,fun b hb=>hnew b (by omega),?_⟩
  simp only [R];exact ⟨none,0,rfl,Zl _,Nat.zero_le _,by simp⟩
 ·have hgl:g<w'.heap.size:=(Array.getElem?_eq_some_iff.1 hg).1;refine ⟨fun k=>if k=g then l.length else m k,fun b hb'=>?_,fun b hb'=>?_,?_⟩
  ·simp only [if_neg (show b≠g by omega)]
  ·simp only [if_neg (show b≠g by omega)]
   exact hnew b (by omega)
  ·simp only [R];refine ⟨_,cap,rfl,h1,h2,fun _=>⟨g,0,_,rfl,hR _,?_⟩⟩;have hl:=RE.length (hR ⟨w',m⟩);refine ⟨by simp [hl],fun j u hj=>?_⟩
   rw [Nat.zero_add];rw [←h4] at hj;rw [List.getElem?_take] at hj;split at hj
   ·simp only [World.cell?,hg];simpa using hj
   ·cases hj
structure MSB where
 ks:List (List UInt8)
 vs:List Bool
instance encMSB:Enc MSB:=⟨fun a=>.map (a.ks.map enc) (a.vs.map enc),fun x=>match x with
 | .map a b=>⟨a.map dec,b.map dec⟩
 | _=>⟨[],[]⟩,fun a=>by
  obtain ⟨k,v⟩:=a;simp only [List.map_map];have h1:(dec∘enc:List UInt8→List UInt8)=id:=funext fun x=>Enc.dec_enc x;have h2:(dec∘enc:Bool→Bool)=id:=funext fun x=>Enc.dec_enc x;rw [h1,h2,List.map_id,List.map_id]⟩
structure MSI where
 ks:List (List UInt8)
 vs:List Int
instance encMSI:Enc MSI:=⟨fun a=>.map (a.ks.map enc) (a.vs.map enc),fun x=>match x with
 | .map a b=>⟨a.map dec,b.map dec⟩
 | _=>⟨[],[]⟩,fun a=>by
  obtain ⟨k,v⟩:=a;simp only [List.map_map];have h1:(dec∘enc:List UInt8→List UInt8)=id:=funext fun x=>Enc.dec_enc x;have h2:(dec∘enc:Int→Int)=id:=funext fun x=>Enc.dec_enc x;rw [h1,h2,List.map_id,List.map_id]⟩
theorem Zqm {ks:List (List UInt8)} {vs:List Bool}:K3 MSB (.map (ks.map enc) (vs.map enc))=True:=eq_true (Wg (⟨ks,vs⟩:MSB))
theorem Zq6 {ks:List (List UInt8)} {vs:List Bool}:(dec (.map (ks.map enc) (vs.map enc)):MSB)=⟨ks,vs⟩:=Enc.dec_enc (⟨ks,vs⟩:MSB)
theorem gS {ks:List (List UInt8)} {vs:List Int}:K3 MSI (.map (ks.map enc) (vs.map enc))=True:=eq_true (Wg (⟨ks,vs⟩:MSI))
theorem jV {ks:List (List UInt8)} {vs:List Int}:(dec (.map (ks.map enc) (vs.map enc)):MSI)=⟨ks,vs⟩:=Enc.dec_enc (⟨ks,vs⟩:MSI)
structure ItS where
 b:Bool
 ks:List (List UInt8)
 vs:List D
instance encItS:Enc ItS:=⟨fun a=>.it (cond a.b 139 153) (a.ks.map enc) a.vs,fun x=>match x with
 | .it f a v=>⟨f==139,a.map dec,v⟩
 | _=>⟨true,[],[]⟩,fun a=>by
  obtain ⟨b,k,v⟩:=a;simp only [List.map_map];have h1:(dec∘enc:List UInt8→List UInt8)=id:=funext fun x=>Enc.dec_enc x;rw [h1,List.map_id];cases b<;>rfl⟩
theorem Zxh {a:ItS}:(enc a:D)=.it (cond a.b 139 153) (a.ks.map enc) a.vs:=rfl
theorem Zq3 {ks:List (List UInt8)} {vs:List D}:(enc (ItS.mk true ks vs):D)=.it 139 (ks.map enc) vs:=rfl
theorem iU {ks:List (List UInt8)} {vs:List D}:(enc (ItS.mk false ks vs):D)=.it 153 (ks.map enc) vs:=rfl
theorem Zqn {ks:List (List UInt8)} {vs:List D}:K3 ItS (.it 139 (ks.map enc) vs)=True:=eq_true (Wg (⟨true,ks,vs⟩:ItS))
theorem gT {ks:List (List UInt8)} {vs:List D}:K3 ItS (.it 153 (ks.map enc) vs)=True:=eq_true (Wg (⟨false,ks,vs⟩:ItS))
theorem Zq7 {ks:List (List UInt8)} {vs:List D}:(dec (.it 139 (ks.map enc) vs):ItS)=⟨true,ks,vs⟩:=Enc.dec_enc (⟨true,ks,vs⟩:ItS)
theorem jW {ks:List (List UInt8)} {vs:List D}:(dec (.it 153 (ks.map enc) vs):ItS)=⟨false,ks,vs⟩:=Enc.dec_enc (⟨false,ks,vs⟩:ItS)
theorem Zub {F:Fix} {base:Nat} {pass:Nat→Prop} {x:D} {v:Value} (h:R F x v):Zto F base pass (.d x) v:=by
 simp only [Zto,Gx,Znr];refine ⟨⟨_,[],rfl,h,rfl⟩,fun k hk=>?_⟩;simp [Q8] at hk
theorem Zqk {w:World} {m:Nat→Nat} {f t:Nat} {ks vs:List D} {v:Value} (hv:R ⟨w,m⟩ (.map ks vs) v) (hnew:∀ b,w.heap.size≤b→m b=0) :
  ∃ m':Nat→Nat,(∀ b,b<w.heap.size→m' b=m b)∧(∀ b,(w.alloc (.cells #[v] t)).heap.size≤b→m' b=0)∧R ⟨w.alloc (.cells #[v] t),m'⟩ (.it f ks vs) (.func (.func f) #[] #[.pointer (some ⟨w.heap.size,0,none⟩)]):=by
 simp only [R] at hv;obtain ⟨b,es,c,rfl,h1,h2,h3,h4,h5⟩:=hv;have hbl:b<w.heap.size:=(Array.getElem?_eq_some_iff.1 h1).1;have hle:Fix.le ⟨w,m⟩ ⟨w.alloc (.cells #[.map (some b)] t),fun k=>if k=w.heap.size then 1 else m k⟩:=by
  refine ⟨fun k=>?_,fun k es' c' hk hkk=>?_⟩
  ·by_cases hk:k=w.heap.size
   ·have h0:=hnew k (by omega)
    refine ⟨by simp only;rw [h0];exact Nat.zero_le _,fun off ho=>by simp only at ho;omega⟩
   ·refine ⟨by simp only [if_neg hk];exact Zl _,fun off ho=>?_⟩
    rcases Nat.lt_or_ge k w.heap.size with hlt|hge
    ·exact World.cell?_of_block (Below.heap_alloc _ _ k hlt)
    ·have:=hnew k hge;simp only at ho;omega
  ·have hlt:k<w.heap.size:=(Array.getElem?_eq_some_iff.1 hkk).1;exact (Below.heap_alloc _ _ k hlt).trans hkk
 refine ⟨fun k=>if k=w.heap.size then 1 else m k,fun k hk=>by simp only [if_neg (show k≠w.heap.size by omega)],fun k hk=>?_,?_⟩
 ·have hs:(w.alloc (.cells #[.map (some b)] t)).heap.size=w.heap.size+1:=by simp
  rw [hs] at hk;simp only [if_neg (show k≠w.heap.size by omega)]
  exact hnew k (by omega)
 ·simp only [R];refine ⟨w.heap.size,b,es,c,rfl,by simp,by simp,(Below.heap_alloc _ _ b hbl).trans h1,?_,Rs.mono hle h3,Rs.mono hle h4,h5⟩
  simp only [if_neg (show b≠w.heap.size by omega)]
  exact h2
def Zib:Con:=Xj (fun (_:MSB)=>True) (fun m=>ItS.mk true m.ks (m.vs.map enc))
theorem Zo8:Qq Tryz.prog (100,Zib):=by
 refine ⟨Jz Tryz.func100 (by kernel_rfl) rfl,?_⟩
 intro m w cvs vs hpre hcv hnd hnew;obtain ⟨a,rfl,-⟩:=Jr (id hpre:(Xj (fun (_:MSB)=>True) (fun m=>ItS.mk true m.ks (m.vs.map enc))).pre cvs);simp only [Gx,Znr] at hcv;obtain ⟨v,r,rfl,hv,rfl⟩:=hcv;obtain ⟨m',q1,q2,q3⟩:=Zqk (f:=139) (t:=124) (m:=m) hv hnew;have hm:∃ b,v=.map (some b):=by
  have hv':=hv
  change R _ (.map _ _) _ at hv'
  simp only [R] at hv';obtain ⟨b,_,_,e,_⟩:=hv';exact ⟨b,e⟩
 obtain ⟨b,rfl⟩:=hm;have hk:=(callsIn_wide (n:=5)).1 (AnyZ.keys_in Qbh Fence.wide 5 trivial rfl (some b) w);refine Calls.mono hk ?_;rintro e w' ⟨rfl,rfl⟩;have hb:=(Below.refl w.heap.size w).alloc (Zl _) (.cells #[.map (some b)] 124);exact ⟨_,m',rfl,⟨hb.os,hb.tape,hb.output,hb.size,fun k hk _=>hb.block k hk⟩,fun b hb _=>q1 b hb,q2,by
  show Zto _ _ _ (.d (enc (ItS.mk true (dec (enc a):MSB).ks ((dec (enc a):MSB).vs.map enc)))) _;rw [Enc.dec_enc];exact Zub q3⟩
def Zia:Con:=Xj (fun (_:MSI)=>True) (fun m=>ItS.mk false m.ks (m.vs.map enc))
theorem Zo7:Qq Tryz.prog (108,Zia):=by
 refine ⟨Jz Tryz.func108 (by kernel_rfl) rfl,?_⟩
 intro m w cvs vs hpre hcv hnd hnew;obtain ⟨a,rfl,-⟩:=Jr (id hpre:(Xj (fun (_:MSI)=>True) (fun m=>ItS.mk false m.ks (m.vs.map enc))).pre cvs);simp only [Gx,Znr] at hcv;obtain ⟨v,r,rfl,hv,rfl⟩:=hcv;obtain ⟨m',q1,q2,q3⟩:=Zqk (f:=153) (t:=143) (m:=m) hv hnew;have hm:∃ b,v=.map (some b):=by
  have hv':=hv
  change R _ (.map _ _) _ at hv'
  simp only [R] at hv';obtain ⟨b,_,_,e,_⟩:=hv';exact ⟨b,e⟩
 obtain ⟨b,rfl⟩:=hm;have hk:=(callsIn_wide (n:=5)).1 (AnyZ.keys_in Qbf Fence.wide 5 trivial rfl (some b) w);refine Calls.mono hk ?_;rintro e w' ⟨rfl,rfl⟩;have hb:=(Below.refl w.heap.size w).alloc (Zl _) (.cells #[.map (some b)] 143);exact ⟨_,m',rfl,⟨hb.os,hb.tape,hb.output,hb.size,fun k hk _=>hb.block k hk⟩,fun b hb _=>q1 b hb,q2,by
  show Zto _ _ _ (.d (enc (ItS.mk false (dec (enc a):MSI).ks ((dec (enc a):MSI).vs.map enc)))) _;rw [Enc.dec_enc];exact Zub q3⟩
def Ck (l:List (List UInt8)):List (List UInt8):=l.mergeSort fun x y=>decide (x≤y)
def Zlh (_:Value):Option (DataW Unit×List MemPlace):=some (.nil,[])
theorem Zja {F:Fix} {P:Program} {k:TypeId} {es:List MapEntry} {α:Type} {f:α→Value} {g:Lit→α} {ks:List α} (hk:es.map MapEntry.key=ks.map f) (hr:∀ x∈ks,∃ kl,keyOf P k (f x)=some kl∧g kl=x) :
  ((es.map (WideElems.rg P k Zlh)).map fun p=>g p.1)=ks:=by
 induction es generalizing ks with
 | nil=>cases ks with
  | nil=>rfl
  | cons x ks=>simp at hk
 | cons e es ih =>
  cases ks with
  | nil=>simp at hk
  | cons x ks =>
   simp only [List.map_cons,List.cons.injEq] at hk;obtain ⟨kl,h1,h2⟩:=hr x (List.mem_cons_self ..);have e1:WideElems.rg P k Zlh e=(kl,.nil):=by
    refine WideElems.rg_of ?_;obtain ⟨key,val,born⟩:=e;simp only at hk;rw [hk.1];exact WideElems.rd_mk (yv:=(.nil,[])) h1 rfl
   rw [List.map_cons,List.map_cons,e1,ih hk.2 fun y hy=>hr y (List.mem_cons_of_mem _ hy)];rw [←h2]
theorem Zmk {P:Program} {k:TypeId} {es:Array MapEntry} {c:Nat} {α:Type} {f:α→Value} {ks:List α} (hsz:es.size≤maxLen) (hst:Go.MapKept.Stamped es c) (hk:es.toList.map MapEntry.key=ks.map f) (hr:∀ x∈ks,∃ kl,keyOf P k (f x)=some kl):WideElems.Fit P k Zlh es c:=by
 refine ⟨hsz,hst,fun e he=>?_⟩;have h1:e.key∈ks.map f:=by rw [←hk];exact List.mem_map_of_mem he
 obtain ⟨x,hx,e1⟩:=List.mem_map.1 h1;obtain ⟨kl,h2⟩:=hr x hx;obtain ⟨key,val,born⟩:=e;simp only at e1;refine ⟨(kl,.nil),?_⟩;rw [←e1];exact WideElems.rd_mk (yv:=(.nil,[])) h2 rfl
theorem Qbq {F:Fix}:∀ {ks:List (List UInt8)} {vs:List Value},Rs F (ks.map enc) vs→vs=ks.map Go.Proofs.encStr
 | [],_,h=>by simpa [Rs] using h
 | k::ks,vs,h=>by
  simp only [List.map_cons,Rs] at h;obtain ⟨v,r,rfl,h1,h2⟩:=h;rw [List.map_cons,←Qbq h2];rw [show v=Go.Proofs.encStr k from h1]
theorem Qbs {F:Fix}:∀ {ks:List (List UInt8)},RE F 1 (ks.map enc) (ks.map Go.Proofs.encStr)
 | []=>rfl
 | k::ks=>by
  simp only [List.map_cons,RE];refine ⟨Go.Proofs.encStr k,ks.map Go.Proofs.encStr,rfl,rfl,fun u hu=>?_,rfl,Qbs⟩;have:u=Go.Proofs.encStr k:=by simpa [Value.cells,Go.Proofs.encStr] using hu
  subst this;rfl
theorem Zyb (m:Nat):AnyZ.SortsIn Tryz.prog mF Fence.wide m :=
 ⟨fun blk off cap ss W hH hblk hsz=>callsIn_wide.2 (AnyM.slices_Sort_string Qaw blk off cap ss W hH hblk hsz),
  fun p cap W=>callsIn_wide.2 (AnyM.slices_Sort_string_none Qaw p cap W)⟩
def Sp:Con:=Xj (fun (a:ItS)=>a.ks.length≤1000000∧∀ s∈a.ks,s.length≤3000000) (fun a=>Sl.mk (Ck a.ks))
theorem iY:Qq Tryz.prog (99,Sp):=by
 refine ⟨Jz Tryz.func99 (by kernel_rfl) rfl,?_⟩
 intro m w cvs vs hpre hcv hnd hnew
 change Con.pre Sp cvs at hpre
 unfold Sp at hpre;obtain ⟨⟨tg,ks,us⟩,rfl,hkl,hks⟩:=Jr hpre;simp only at hkl hks;simp only [Gx,Znr] at hcv;obtain ⟨v,r,rfl,hv,rfl⟩:=hcv;rw [Zxh] at hv;simp only [R] at hv;obtain ⟨bm,b,es,c,rfl,a1,a2,h1,h2,h3,h4,h5⟩:=hv;have hkey:=Qbq h3;have hread:∀ x∈ks,∃ kl,keyOf Tryz.prog 9 (Go.Proofs.encStr x)=some kl∧strOf kl=x:=fun x hx=>by
  refine ⟨_,WideMaps.keyOf_string_mk Tryz.underlying9 ?_,?_⟩
  ·have:=hks x hx;show x.toArray.size≤maxLen;rw [List.size_toArray];unfold maxLen;omega
  ·show (x.toArray).toList=x;simp
 have hes:es.size=ks.length:=by
  have:=congrArg List.length hkey;simpa using this
 have hbl:bm<w.heap.size:=by
  rcases Nat.lt_or_ge bm w.heap.size with h|h
  ·exact h
  ·have:=hnew bm h;omega
 have hown:w.ownsMap Tryz.prog 9 Zlh b es.size (.map ((es.toList.map (WideElems.rg Tryz.prog 9 Zlh)).foldr DataW.insert [])) :=
  ⟨es,c,h1,Zmk (by rw [hes];unfold maxLen;omega) h5 hkey (fun x hx=>(hread x hx).imp fun kl h=>h.1),Zl _,rfl⟩
 have hsize:Maps.size (DataW.map ((es.toList.map (WideElems.rg Tryz.prog 9 Zlh)).foldr DataW.insert []))=ks.length:=by
  rw [size_eq,length_read,hes]
 have hperm:(strKeys (DataW.map ((es.toList.map (WideElems.rg Tryz.prog 9 Zlh)).foldr DataW.insert []))).Perm ks:=by
  have:=Zja (F:=⟨w,m⟩) (P:=Tryz.prog) (k:=9) (g:=strOf) hkey hread;show (List.map (fun p:Lit×DataW Unit=>strOf p.1) _).Perm ks;refine List.Perm.trans ?_ (List.Perm.of_eq this);exact (Go.WideShapes.sorted_perm _).map _
 obtain ⟨D0,hD0⟩:∃ D0:DataW Unit,DataW.map ((es.toList.map (WideElems.rg Tryz.prog 9 Zlh)).foldr DataW.insert [])=D0:=⟨_,rfl⟩;rw [hD0] at hown hsize hperm;obtain ⟨f,hf⟩:∃ f:Nat,cond tg 139 153=f:=⟨_,rfl⟩;rw [hf];have hent:E4 Tryz.prog f:=by
  rw [←hf];cases tg
  ·exact Jz Tryz.func153 (by kernel_rfl) rfl
  ·exact Jz Tryz.func139 (by kernel_rfl) rfl
 have hseq:SeqGives Fence.wide 2 Tryz.prog f #[.pointer (some ⟨bm,0,none⟩)] Go.Proofs.encStr (fun ss=>ss.Perm (strKeys D0)) (Maps.size D0) w:=by
  rw [←hf];cases tg
  ·exact AnyZ.keys_gives (ρ:=Zgk) { Qbf with } Fence.wide _ trivial rfl (by omega) bm b _ _ _ hbl a1 hown
  ·exact AnyZ.keys_gives (ρ:=Zgl) { Qbh with } Fence.wide _ trivial rfl (by omega) bm b _ _ _ hbl a1 hown
 have cS:=AnyZ.sorted_in Qci Fence.wide 5 trivial trivial trivial trivial rfl (by omega) (Zyb _) (Jz Tryz.func138 (by kernel_rfl) rfl) f #[.pointer (some ⟨bm,0,none⟩)] trivial hent _ _ (by rw [hsize];unfold maxLen;omega) (by rw [hsize];omega) _ hseq
 refine Calls.mono (callsIn_wide.1 cS) ?_;rintro e w' ⟨v,ss,rfl,hp,hrow,hnil,hb⟩;have hss:(ss.mergeSort fun x y=>decide (x≤y))=Ck ks:=mergeSort_of_perm (hp.trans hperm);rw [hss] at hrow;have hlen:ss.length=((Ck ks).map (enc:List UInt8→D)).length:=by
  rw [Zo];unfold Ck;rw [List.length_mergeSort,(hp.trans hperm).length_eq]
 obtain ⟨m',q1,q2,q3⟩:=Zt8 (m:=m) hrow hlen (fun F=>Qbs) hnew hb.size;exact ⟨_,m',rfl,⟨hb.os,hb.tape,hb.output,hb.size,fun k hk _=>hb.block k hk⟩,fun b hb _=>q1 b hb,q2,by
  show Zto _ _ _ (.d (enc (Sl.mk (Ck (dec (enc (ItS.mk tg ks us)):ItS).ks)))) _;rw [Enc.dec_enc];exact Zub q3⟩
noncomputable def Zhv (t:List Part):List (List UInt8):=Ck (partT (El Iu t 0) [] [])
theorem Zlc {c:Nat}:∀ (x:Rose Part) (b S:List (List UInt8)),(∀ p∈nds x,p.name.length≤c)→(∀ s∈S,s.length≤c)→∀ s∈partT x b S,s.length≤c:=by
 intro x
 induction x using Rose.rec (motive_2:=fun xs=>∀ (p:Part) (k:Nat) (b S:List (List UInt8)),(∀ q∈ndss xs,q.name.length≤c)→(∀ s∈S,s.length≤c)→∀ s∈partTs p xs k b S,s.length≤c) with
 | mk p ks ih =>
  intro b S hn hS s hs;rw [Rp] at hn;rw [partT] at hs;split at hs
  ·split at hs
   ·exact hS s hs
   ·unfold Vd at hs;cases hg:Xn p.name S with
    | true=>rw [hg,cond_true] at hs;exact hS s hs
    | false =>
     rw [hg,cond_false] at hs;rcases List.mem_append.1 hs with hs|hs
     ·exact hS s hs
     ·rw [Zp] at hs;subst hs;exact hn p (List.mem_cons_self ..)
  ·exact ih p 0 b S (fun q hq=>hn q (List.mem_cons_of_mem _ hq)) hS s hs
 | nil=>rename_i p k b S hn hS s hs;exact hS s hs
 | cons x xs ih1 ih2 =>
  rename_i p k b S hn hS s hs;rw [partTs] at hs;rw [ndss] at hn;exact ih2 p (k+1) b _ (fun q hq=>hn q (List.mem_append_right _ hq)) (ih1 _ S (fun q hq=>hn q (List.mem_append_left _ hq)) hS) s hs
noncomputable def Yd:BCon:=Zy 10001
theorem oZ:Nu Tryz.prog (96,Yd):=Ii _
noncomputable def cX:Con:=Xj (fun (t:Sl Part)=>Znn t.l∧∀ p∈t.l,p.name.length≤3000000) (fun t=>Sl.mk (Zhv t.l))
structure KhW:Prop
theorem KhW.k (_:KhW) (h:p:=by
 repeat' first|exact Z1|with_reducible apply Zb|intro _
 all_goals first|with_reducible exact Qo|omega|skip
 cases H with
 | false =>
  have Qd:Yd.post ⟨t,0,none,[]⟩=pN t j V:=hp2;refine Qw (bc:=Yd) ⟨t,0,none,[]⟩ [1,5,4,3,7,6,8] hok2 rfl (by simp) (by rw [Qd];rfl) ?_ ?_ ?_
  ·show Zs _ _ (pN t 0 []) _;rw [Tg];simp [Zs,lk,Uu,rnA,rnAs,rk,mY];rfl
  ·show Qf (List.drop (pN t 0 []).length _) _;rw [Tg];simp [Qf,lk]
  have Qc:=@Tg;have Qh:=@Zqm;have Qp:=@Zq6;have Qz:=@Zq3;have Qv:=@Zqn;have Q4:=@Zq7;exact Il
 | true =>
  have Qd:Yd.post ⟨t,0,none,[]⟩=pB t j [] V:=hp2;refine Qw (bc:=Yd) ⟨t,0,none,[]⟩ [1,5,4,3,7,6,8,60000] hok2 rfl (by simp) (by rw [Qd];rfl) ?_ ?_ ?_
  ·show Zs _ _ (pN t 0 []) _;rw [Tg];simp [Zs,lk,Uu,rnA,rnAs,rk,mY];rfl
  ·show Qf (List.drop (pN t 0 []).length _) _;rw [Tg];simp [Qf,lk]
  have Qc:=@Ue;have Qh:=@Zqm;have Qp:=@Zq6;have Qz:=@Zq3;have Qv:=@Zqn;have Q4:=@Zq7;exact Il):p:=h
theorem good_FreeA:Qq Tryz.prog (54,cX):=by
 obtain ⟨Kx,Kt,Kc,Kd,Kb,Ku,Kw,K,W4,Gd,M4,_⟩:=X2 Z4 Zq [] false (Jh Zo8 Zib.eq_def (Jh iY Sp.eq_def (Zpj oZ Yd.eq_def X1)));have Ko:=cX.eq_def;refine Wh K Tryz.func54 [.tmp 2] rfl 16 rfl (fun c hc cvs hpre=>?_);unfold cX at hpre;obtain ⟨⟨t⟩,rfl,⟨hT,x,hx,hn⟩,hnm⟩:=Jr hpre;simp only at hT hx hnm;clear hpre;have htx:El Iu t 0=x:=Ps hx;obtain ⟨R,Z6⟩:=exq (Zhv t);have Qa:=Z6;unfold Zhv at Qa;rw [htx] at Qa;have hpl:=partT_len x [] [];obtain ⟨hw,r,hr⟩:=id hx;have hsh:=Zlc (c:=3000000) x [] [] (fun p hp=>hnm p (by rw [List.drop_zero] at hr;rw [hr];exact List.mem_append_left _ hp)) (fun s hs=>by cases hs)
 obtain ⟨V,hV⟩:=exq (partT x [] []);rw [hV] at Qa hpl hsh;obtain ⟨j,hj⟩:=exq (0+(nds x).length);obtain ⟨H,hH⟩:=exq (hasB x);have hp2:Yd.post ⟨t,0,none,[]⟩=pP t j none H V:=Hm (n:=10001) (o:=none) hx hj hH hV;have hok2:Yd.ok ⟨t,0,none,[]⟩:=⟨hT,x,hx,by omega,by show 0+0+_≤_;omega,by show 0+_≤_;omega⟩
 have Qe:Yd.res ⟨t,0,none,[]⟩=.tup []:=rfl;simp only [List.length_nil] at hpl;have hvl:V.length≤1000000:=by omega
 cases hc;have Kq:KhW:=⟨⟩;exact Yh
open Go.Proofs Go.Rose Go.Rose.Rose
def Ztu (l:List (List UInt8)):Prop:=l.Pairwise fun a b=>Op.bytesLess a b=true
theorem Zul {o:List (List UInt8)} {b:List UInt8} (h:Ztu o) (hg:Zfs o b=true):Ztu (o++[b]):=by
 unfold Ztu;rw [List.pairwise_append];refine ⟨h,by simp,fun a ha c hc=>?_⟩
 rw [Zp] at hc;subst hc;rcases List.eq_nil_or_concat o with rfl|⟨o',z,rfl⟩
 ·cases ha
 ·rw [List.concat_eq_append] at ha h hg;rw [Ot] at hg;rcases List.mem_append.1 ha with ha|ha
  ·unfold Ztu at h;rw [List.pairwise_append] at h;exact B7 (h.2.2 a ha z (by simp)) hg
  ·rw [Zp] at ha;rw [ha];exact hg
theorem Zum:∀ {a b:List (List UInt8)},Ztu a→Ztu b→(∀ s,s∈a↔s∈b)→a=b
 | [],[],_,_,_=>rfl
 | [],y::b,_,_,h=>by have:=(h y).2 (by simp);cases this
 | x::a,[],_,_,h=>by have:=(h x).1 (by simp);cases this
 | x::a,y::b,ha,hb,h=>by
  unfold Ztu at ha hb;rw [List.pairwise_cons] at ha hb;have hxy:x=y:=by
   rcases Zu.1 ((h x).1 (by simp)) with e|h1
   ·exact e
   ·rcases Zu.1 ((h y).2 (by simp)) with e|h2
    ·exact e.symm
    ·have h3:=B7 (ha.1 y h2) (hb.1 x h1);rw [N3] at h3;cases h3
  subst hxy;rw [Zum (a:=a) (b:=b) ha.2 hb.2 fun s=>?_];constructor
  ·intro hs;rcases Zu.1 ((h s).1 (List.mem_cons_of_mem _ hs)) with e|h1
   ·subst e;have:=ha.1 s hs;rw [N3] at this;cases this
   ·exact h1
  ·intro hs;rcases Zu.1 ((h s).2 (List.mem_cons_of_mem _ hs)) with e|h1
   ·subst e;have:=hb.1 s hs;rw [N3] at this;cases this
   ·exact h1
theorem Zgh {l:List (List UInt8)}:∀ (f:Nat) (o:List (List UInt8)),Zvi o l<f→Ztu o→(∀ s∈o,s∈l)→(∀ y∈l,Zfs o y=false→y∈o)→Ztu (Zfi l f o)∧∀ s,s∈Zfi l f o↔s∈l
 | 0,o,h,_,_,_=>by omega
 | f+1,o,hf,h1,h2,h3=>by
  rw [Zfi];split
  ·rename_i hb;obtain ⟨b1,b2,b3⟩:=Zez hb;have hc:=Zq9 hb;refine Zgh f _ (by omega) (Zul h1 b2) (fun s hs=>?_) (fun y hy hg=>?_)
   ·rcases List.mem_append.1 hs with hs|hs
    ·exact h2 s hs
    ·rw [Zp] at hs;rw [hs];exact b1
   ·rw [Ot] at hg;cases hgo:Zfs o y with
    | false=>exact List.mem_append_left _ (h3 y hy hgo)
    | true =>
     have h4:=b3 y hy hgo;refine List.mem_append_right _ ?_;rw [Zp];refine Classical.byContradiction fun hne=>?_;have h5:=Fi hne hg;rw [h4] at h5;cases h5
  ·rename_i hb;have hb:(Ej o l).2=false:=by simpa using hb
   exact ⟨h1,fun s=>⟨h2 s,fun hs=>h3 s hs (Zpl hb s hs)⟩⟩
theorem Zn4 (l:List (List UInt8)):Ztu (Zge l)∧∀ s,s∈Zge l↔s∈l:=by
 unfold Zge;have:=Zra (o:=[]) (l:=l);exact Zgh _ _ (by omega) List.Pairwise.nil (fun s hs=>by cases hs) (fun y _ hg=>by rw [Zqu] at hg;cases hg)
theorem Zn5 {l:List (List UInt8)} (hn:l.Nodup):Ztu (Ck l)∧∀ s,s∈Ck l↔s∈l:=by
 have hp:=List.mergeSort_perm l fun x y=>decide (x≤y);have hs:(Ck l).Pairwise fun x y=>decide (x≤y)=true:=by
  refine List.pairwise_mergeSort (fun a b c h1 h2=>?_) (fun a b=>?_) l
  ·rw [decide_eq_true_eq] at *;exact List.le_trans h1 h2
  ·rw [Bool.or_eq_true,decide_eq_true_eq,decide_eq_true_eq];exact List.le_total a b
 have hnd:(Ck l).Nodup:=hp.nodup_iff.2 hn;refine ⟨?_,fun s=>hp.mem_iff⟩;unfold Ztu;refine List.Pairwise.imp₂ (fun a b h1 h2=>?_) hs hnd;rw [decide_eq_true_eq] at h1;refine Fi h2 ?_;rw [bytesLess_eq,decide_eq_false_iff_not];exact fun h=>(List.not_lt.2 h1) h
theorem D4 {b:List (List UInt8)} {x s:List UInt8}:R0 (b++[x]) s=(R0 b s||x==s):=by
 unfold R0;rw [List.any_append,List.any_cons,List.any_nil,Bool.or_false]
theorem Zsh {p:Part} {k:Nat} {b b':List (List UInt8)} (h:∀ s,R0 b s=R0 b' s) (s:List UInt8):R0 (dK p k b) s=R0 (Ie p k b') s:=by
 unfold dK Ie;by_cases h2:p.kind=2∨p.kind=8∨(p.kind=4∧k=1)
 ·have h5:¬ p.kind=5:=by omega
  rw [if_pos h2,if_pos (by omega),if_neg h5,List.append_nil,D4,D4,h]
 ·rw [if_neg h2];by_cases h5:p.kind=5
  ·rw [if_pos h5,if_pos h5];by_cases hk:k=0
   ·rw [if_pos hk,if_pos (by omega),show b++[p.name,p.bind]=(b++[p.name])++[p.bind] by simp,D4,D4,D4,D4,h]
    cases R0 b' s<;>cases (p.name==s)<;>cases (p.bind==s)<;>rfl
   ·rw [if_neg hk,if_neg (by omega),D4,D4,h]
  ·rw [if_neg h5,if_neg h5,if_neg (by omega),List.append_nil,h]
theorem Zg6 {x s:List UInt8} {S:List (List UInt8)}:s∈Vd x S↔s∈S∨s=x:=by
 unfold Vd;cases hg:Xn x S with
 | true =>
  rw [cond_true];refine ⟨.inl,fun h=>h.elim id fun e=>?_⟩;subst e;clear h
  induction S with
  | nil=>cases hg
  | cons y S ih =>
   simp only [Xn,Bool.or_eq_true,Zm] at hg;rcases hg with rfl|hg
   ·exact List.mem_cons_self ..
   ·exact List.mem_cons_of_mem _ (ih hg)
 | false=>rw [cond_false,List.mem_append,Zp]
theorem Zuf:∀ (x:Rose Part) (b b' S:List (List UInt8)),wf Iu x→(∀ s,R0 b s=R0 b' s)→∀ s,s∈partT x b S↔s∈S∨s∈freeT x b':=by
 intro x
 induction x using Rose.rec (motive_2:=fun xs=>∀ (p:Part) (k:Nat) (b b' S:List (List UInt8)),wfs Iu xs→(∀ s,R0 b s=R0 b' s)→∀ s,s∈partTs p xs k b S↔s∈S∨s∈freeTs p xs k b') with
 | mk p ks ih =>
  intro b b' S hw hb s;obtain ⟨h1,h2⟩:=hw;rw [partT,freeT];by_cases hk:p.kind=1
  ·have hz:ks=[]:=by
    refine List.length_eq_zero_iff.1 (h1.trans ?_);unfold Iu Yj;rw [if_neg (by omega),if_neg (by omega),if_neg (by omega),if_neg (by omega),if_neg (by omega)]
    rfl
   subst hz;rw [if_pos hk,hb];cases hin:R0 b' p.name with
   | true =>
    rw [if_pos rfl,if_neg (by rintro ⟨_,h⟩;cases h),freeTs]
    simp
   | false =>
    rw [if_neg (by simp),if_pos ⟨hk,rfl⟩,Zg6,Zp]
  ·rw [if_neg hk,if_neg (fun h=>hk h.1)];exact ih p 0 b b' S h2 hb s
 | nil =>
  rename_i p k b b' S hw hb s;rw [partTs,freeTs];simp
 | cons x xs ih1 ih2 =>
  rename_i p k b b' S hw hb s;rw [partTs,freeTs,ih2 p (k+1) b b' _ hw.2 hb s,ih1 _ (Ie p k b') S hw.1 (Zsh hb) s,List.mem_append,or_assoc]
theorem Zoh:∀ (x:Rose Part) (b S:List (List UInt8)),S.Nodup→(partT x b S).Nodup:=by
 intro x
 induction x using Rose.rec (motive_2:=fun xs=>∀ (p:Part) (k:Nat) (b S:List (List UInt8)),S.Nodup→(partTs p xs k b S).Nodup) with
 | mk p ks ih =>
  intro b S hS;rw [partT];split
  ·split
   ·exact hS
   ·unfold Vd;cases hg:Xn p.name S with
    | true=>exact hS
    | false =>
     rw [cond_false,List.nodup_append];refine ⟨hS,by simp,fun a ha c hc e=>?_⟩
     rw [Zp] at hc;rw [e,hc] at ha;have:p.name∈Vd p.name S:=Zg6.2 (.inr rfl);clear this;have hx:∀ {S:List (List UInt8)},p.name∈S→Xn p.name S=true:=by
      intro S hm
      induction S with
      | nil=>cases hm
      | cons y S ih =>
       simp only [Xn,Bool.or_eq_true,Zm];rcases Zu.1 hm with h|h
       ·exact .inl h
       ·exact .inr (ih h)
     rw [hx ha] at hg;cases hg
  ·exact ih p 0 b S hS
 | nil=>rename_i p k b S hS;exact hS
 | cons x xs ih1 ih2 =>
  rename_i p k b S hS;rw [partTs];exact ih2 p (k+1) b _ (ih1 _ S hS)
theorem Zs1 {t:List Part} {x:Rose Part} (hx:At Iu t 0 x):Zhv t=Hq t:=by
 unfold Zhv Hq;rw [Ps hx];obtain ⟨a1,a2⟩:=Zn5 (Zoh x [] [] List.nodup_nil);obtain ⟨b1,b2⟩:=Zn4 (freeT x []);refine Zum a1 b1 fun s=>?_;rw [a2,b2,Zuf x [] [] [] hx.1 (fun _=>rfl)];simp
def Zsw (s:List UInt8) (b:Bd):Bool:=b.name==s
def Gu (env:List Bd) (s:List UInt8):Bool:=!mayB env s
structure PS where
 s:List UInt8
instance encPS:Enc PS:=⟨fun p=>.ptr 1 (.str p.s),fun x=>match x with
 | .ptr _ y=>⟨y.s⟩
 | _=>⟨[]⟩,fun p=>by cases p;rfl⟩
theorem Zyr {s:List UInt8}:(enc (PS.mk s):D)=.ptr 1 (.str s):=rfl
theorem Zjw {s:List UInt8}:(dec (.ptr 1 (.str s)):PS)=⟨s⟩:=rfl
theorem Zjk {s:List UInt8}:K3 PS (.ptr 1 (.str s))=True:=eq_true (Wg (PS.mk s))
theorem Zxo {s:List UInt8}:(PS.mk s).s=s:=rfl
structure NmF where
 s:List UInt8
instance encNmF:Enc NmF:=⟨fun p=>.clo 53 [.ptr 1 (.str p.s)],fun x=>match x with
 | .clo _ [.ptr _ y]=>⟨y.s⟩
 | _=>⟨[]⟩,fun p=>by cases p;rfl⟩
theorem iT {s:List UInt8}:(enc (NmF.mk s):D)=.clo 53 [.ptr 1 (.str s)]:=rfl
theorem jY {s:List UInt8}:(dec (.clo 53 [.ptr 1 (.str s)]):NmF)=⟨s⟩:=rfl
theorem gR {s:List UInt8}:K3 NmF (.clo 53 [.ptr 1 (.str s)])=True:=eq_true (Wg (NmF.mk s))
theorem Zno {s:List UInt8}:(NmF.mk s).s=s:=rfl
structure PE where
 l:List Bd
instance encPE:Enc PE:=⟨fun p=>.ptr 1 (.list 2 (p.l.map enc)),fun x=>match x with
 | .ptr _ y=>⟨y.l.map dec⟩
 | _=>⟨[]⟩,fun p=>by
  have h:∀ l:List Bd,(l.map (enc:Bd→D)).map dec=l:=fun l=>J2;obtain ⟨l⟩:=p;simp [D.l,h]⟩
theorem Zys {l:List Bd}:(enc (PE.mk l):D)=.ptr 1 (.list 2 (l.map enc)):=rfl
theorem lP {l:List Bd}:(dec (.ptr 1 (.list 2 (l.map enc))):PE)=⟨l⟩:=Enc.dec_enc (PE.mk l)
theorem lC {l:List Bd}:K3 PE (.ptr 1 (.list 2 (l.map enc)))=True:=eq_true (Wg (PE.mk l))
theorem Ztp {l:List Bd}:(PE.mk l).l=l:=rfl
structure OddF where
 l:List Bd
instance encOddF:Enc OddF:=⟨fun p=>.clo 51 [.ptr 1 (.list 2 (p.l.map enc))],fun x=>match x with
 | .clo _ [.ptr _ y]=>⟨y.l.map dec⟩
 | _=>⟨[]⟩,fun p=>by
  have h:∀ l:List Bd,(l.map (enc:Bd→D)).map dec=l:=fun l=>J2;obtain ⟨l⟩:=p;simp [D.l,h]⟩
theorem O0 {l:List Bd}:(enc (OddF.mk l):D)=.clo 51 [.ptr 1 (.list 2 (l.map enc))]:=rfl
theorem O3 {l:List Bd}:(dec (.clo 51 [.ptr 1 (.list 2 (l.map enc))]):OddF)=⟨l⟩:=Enc.dec_enc (OddF.mk l)
theorem Ol {l:List Bd}:K3 OddF (.clo 51 [.ptr 1 (.list 2 (l.map enc))])=True:=eq_true (Wg (OddF.mk l))
theorem Zfb {l:List Bd}:(OddF.mk l).l=l:=rfl
def Eh:Con:=Wr (fun (_:Bd) (_:PS)=>True) (fun b p=>Zsw p.s b)
theorem Zjp:Qq Tryz.prog (53,Eh):=by
 obtain ⟨Kx,Kt,Kc,Kd,Kb,Ku,Kw,K,_⟩:=X2 Z4 Zq [] false X1;have Ko:=Eh.eq_def;refine Wh K Tryz.func53 [.tmp 3] rfl 8 rfl (fun c hc cvs hpre=>?_);unfold Eh at hpre;obtain ⟨⟨bn,bt⟩,⟨s⟩,rfl,-⟩:=Jv hpre;obtain ⟨R,Qe⟩:=exq (Zsw s ⟨bn,bt⟩);have Qd:(bn==s)=R:=Qe;cases hc;have Z6:=@Zyr;have Qa:=@Zjw;have Qc:=@Zjk;have Qh:=@Zxo;exact Zwo
def Pd:Con:=Wr (fun (l:Sl Bd) (f:NmF)=>l.l.length≤1000000000) (fun l f=>Yf (Zsw f.s) l.l)
structure KhY:Prop
theorem KhY.k (_:KhY) (h:p:=by
 repeat' first|exact Z1|with_reducible apply Zb|intro _
 all_goals first|omega|exact hv|exact ⟨k+1,by exact Qk,by omega,Eq.mpr hQ h2,by omega⟩|skip):p:=h
structure KhX:Prop
theorem KhX.k (_:KhX) (h:p:=by
 repeat' first|exact Z1|with_reducible apply Zb|intro _
 refine Zi [4,5,9,10,11,12,13,14,15,16,17,18] (fun k:Nat=>[(8,.d (.int .i64 k))]) (fun k:Nat=>[]) (fun k:Nat=>k≤l.length∧∀ j,j<k→Zsw v (l.getD j jU)=false) (fun k:Nat=>l.length-k) 0 ?_ ?_ ?_
 ·simp
 ·exact Qk
 rintro k ⟨hk,hno⟩;rcases Zn k l.length with ⟨hlt,Qd⟩|⟨hlt,Qd⟩
 ·have Qe:=Zr (jU:Bd) hlt;have hst:Zsw v (l.getD k jU)=false→∀ j,j<k+1→Zsw v (l.getD j jU)=false:=fun h=>Ks hno h;have hit:Zsw v (l.getD k jU)=true→Yf (Zsw v) l=k:=fun h=>hK jU hlt hno h;obtain ⟨Q,hQ⟩:=exq ((∀ j,j<k+1→Zsw v (l.getD j jU)=false));rw [hQ] at hst;obtain ⟨y,hy⟩:=exq (l.getD k jU);rw [hy] at Qe hst hit;obtain ⟨yn,yt⟩:=y;cases Z6:Zsw v ⟨yn,yt⟩ with
  | false =>
   have h2:=hst Z6;have Qc:=@iT;have Qh:=@jY;have Qp:=@gR;have Qz:=@Zno;have Qv:=@Zjw;have Q4:=@Zjk;have Z0:=@Zxo;have Kq:KhY:=⟨⟩;exact Yh
  | true =>
   have Qa:=hit Z6;have Qc:=@iT;have Qh:=@jY;have Qp:=@gR;have Qz:=@Zno;have Qv:=@Zjw;have Q4:=@Zjk;have Z0:=@Zxo;exact Il
 ·have Qa:=Fl (p:=Zsw v) (l:=l) jU (fun j hj=>hno j (by omega))
  have Qc:=@iT;have Qh:=@jY;have Qp:=@gR;have Qz:=@Zno;have Qv:=@Zjw;have Q4:=@Zjk;have Z0:=@Zxo;exact Zwo):p:=h
theorem good_indexFuncBd:Qq Tryz.prog (94,Pd):=by
 obtain ⟨Kx,Kt,Kc,Kd,Kb,Ku,Kw,K,W4,_⟩:=X2 Z4 Zq [] false (Jh Zjp Eh.eq_def X1);have Ko:=Pd.eq_def;refine Wh K Tryz.func94 [.tmp 4] rfl 19 rfl (fun c hc cvs hpre=>?_);unfold Pd at hpre;obtain ⟨⟨l⟩,⟨v⟩,rfl,hl⟩:=Jv hpre;simp only at hl;cases hc;have Qc:=@iT;have Kq:KhX:=⟨⟩;exact Yh
def Hc:Con:=Wr (fun (l:Sl Bd) (_:NmF)=>l.l.length≤1000000000) (fun l f=>mayB l.l f.s)
theorem cP:Qq Tryz.prog (52,Hc):=by
 obtain ⟨Kx,Kt,Kc,Kd,Kb,Ku,Kw,K,W4,_⟩:=X2 Z4 Zq [] false (Jh good_indexFuncBd Pd.eq_def X1);have Ko:=Hc.eq_def;refine Wh K Tryz.func52 [.tmp 4] rfl 9 rfl (fun c hc cvs hpre=>?_);unfold Hc at hpre;obtain ⟨⟨l⟩,⟨v⟩,rfl,hl⟩:=Jv hpre;simp only at hl;have Qd:Wf 0 (Yf (Zsw v) l)=mayB l v:=iQ (p:=Zsw v) (l:=l);cases hc;have Qe:=@iT;have Z6:=@jY;have Qa:=@gR;have Qc:=@Zno;exact Il
def T1:Con:=Wr (fun (_:List UInt8) (p:PE)=>p.l.length≤1000000000) (fun s p=>Gu p.l s)
theorem Zft:Qq Tryz.prog (51,T1):=by
 obtain ⟨Kx,Kt,Kc,Kd,Kb,Ku,Kw,K,W4,_⟩:=X2 Z4 Zq [] false (Jh cP Hc.eq_def X1);have Ko:=T1.eq_def;refine Wh K Tryz.func51 [.tmp 3] rfl 8 rfl (fun c hc cvs hpre=>?_);unfold T1 at hpre;obtain ⟨s,⟨l⟩,rfl,hl⟩:=Jv hpre;simp only at hl;obtain ⟨R,Qd⟩:=exq (mayB l s);have Qe:Gu l s=!R:=by unfold Gu;rw [Qd]
 cases hc;have Z6:=@Zys;have Qa:=@lP;have Qc:=@lC;have Qh:=@Ztp;have Qp:=@jY;have Qz:=@gR;have Qv:=@Zno;exact Il
def Pc:Con:=Wr (fun (l:Sl (List UInt8)) (f:OddF)=>l.l.length≤1000000000∧f.l.length≤1000000000) (fun l f=>Yf (Gu f.l) l.l)
structure Kia:Prop
theorem Kia.k (_:Kia) (h:p:=by
 repeat' first|exact Z1|with_reducible apply Zb|intro _
 all_goals first|omega|exact hv|exact ⟨k+1,by exact Qk,by omega,Eq.mpr hQ h2,by omega⟩|skip):p:=h
structure KhZ:Prop
theorem KhZ.k (_:KhZ) (h:p:=by
 repeat' first|exact Z1|with_reducible apply Zb|intro _
 refine Zi [4,5,9,10,11,12,13,14,15,16,17,18] (fun k:Nat=>[(8,.d (.int .i64 k))]) (fun k:Nat=>[]) (fun k:Nat=>k≤l.length∧∀ j,j<k→Gu v (l.getD j [])=false) (fun k:Nat=>l.length-k) 0 ?_ ?_ ?_
 ·simp
 ·exact Qk
 rintro k ⟨hk,hno⟩;rcases Zn k l.length with ⟨hlt,Qd⟩|⟨hlt,Qd⟩
 ·have Qe:=Zr ([]:(List UInt8)) hlt;have hst:Gu v (l.getD k [])=false→∀ j,j<k+1→Gu v (l.getD j [])=false:=fun h=>Ks hno h;have hit:Gu v (l.getD k [])=true→Yf (Gu v) l=k:=fun h=>hK [] hlt hno h;obtain ⟨Q,hQ⟩:=exq ((∀ j,j<k+1→Gu v (l.getD j [])=false));rw [hQ] at hst;obtain ⟨y,hy⟩:=exq (l.getD k []);rw [hy] at Qe hst hit;cases Z6:(Gu v) y with
  | false =>
   have h2:=hst Z6;have Qc:=@O0;have Qh:=@O3;have Qp:=@Ol;have Qz:=@Zfb;have Qv:=@lP;have Q4:=@lC;have Z0:=@Ztp;have Kq:Kia:=⟨⟩;exact Yh
  | true =>
   have Qa:=hit Z6;have Qc:=@O0;have Qh:=@O3;have Qp:=@Ol;have Qz:=@Zfb;have Qv:=@lP;have Q4:=@lC;have Z0:=@Ztp;exact Il
 ·have Qa:=Fl (p:=Gu v) (l:=l) [] (fun j hj=>hno j (by omega))
  have Qc:=@O0;have Qh:=@O3;have Qp:=@Ol;have Qz:=@Zfb;have Qv:=@lP;have Q4:=@lC;have Z0:=@Ztp;exact Zwo):p:=h
theorem good_indexFuncSt:Qq Tryz.prog (55,Pc):=by
 obtain ⟨Kx,Kt,Kc,Kd,Kb,Ku,Kw,K,W4,_⟩:=X2 Z4 Zq [] false (Jh Zft T1.eq_def X1);have Ko:=Pc.eq_def;refine Wh K Tryz.func55 [.tmp 4] rfl 19 rfl (fun c hc cvs hpre=>?_);unfold Pc at hpre;obtain ⟨⟨l⟩,⟨v⟩,rfl,hl,hv⟩:=Jv hpre;simp only at hl hv;cases hc;have Qc:=@O0;have Kq:KhZ:=⟨⟩;exact Yh
theorem Zsb {env:List Bd}:∀ {F:List (List UInt8)},Yf (Gu env) F=-1→Ip env F=none:=by
 intro F h;have hany:F.any (Gu env)=false:=by
  rw [←iQ,h];rfl
 clear h
 induction F with
 | nil=>rfl
 | cons s F ih =>
  rw [List.any_cons,Bool.or_eq_false_iff] at hany;have h1:mayB env s=true:=by
   have:=hany.1;unfold Gu at this;simpa using this
  rw [Ip,if_pos h1];exact ih hany.2
theorem Zgv {env:List Bd}:∀ {F:List (List UInt8)} {k:Nat},k<F.length→(∀ j,j<k→Gu env (F.getD j [])=false)→Gu env (F.getD k [])=true→Ip env F=some (F.getD k [])
 | [],k,h,_,_=>by simp at h
 | s::F,0,_,_,h=>by
  simp only [List.getD_cons_zero] at h ⊢;rw [Ip,if_neg (by unfold Gu at h;simpa using h)]
 | s::F,k+1,hk,hno,h=>by
  have h0:=hno 0 (by omega)
  simp only [List.getD_cons_zero] at h0;simp only [List.getD_cons_succ] at h ⊢;rw [Ip,if_pos (by unfold Gu at h0;simpa using h0)]
  exact Zgv (by simpa using hk) (fun j hj=>by simpa using hno (j+1) (by omega)) h
theorem Zoz {α:Type} {p:α→Bool} {l:List α} (d:α):Yf p l=-1∨∃ k,k<l.length∧Yf p l=(k:Int)∧(∀ j,j<k→p (l.getD j d)=false)∧p (l.getD k d)=true:=by
 unfold Yf;cases h:l.findIdx? p with
 | none=>exact .inl rfl
 | some k =>
  rw [List.findIdx?_eq_some_iff_getElem] at h;obtain ⟨hk,hp,hno⟩:=h;refine .inr ⟨k,hk,rfl,fun j hj=>?_,by simpa [hk] using hp⟩
  have:=hno j hj;have hjl:j<l.length:=by omega
  simpa [hjl] using this
structure NamesP (l:List Mod6):Prop where
 ok:NamesOk l
 dist:Znp l
 short:∀ m∈l,∀ d∈m.defs,∀ p∈d.e,p.name.length≤3000000
noncomputable def Li:Con:=Ei (fun (l:Sl Mod6)=>NamesP l.l) (fun l=>Be l.l)
structure Kid:Prop
theorem Kid.k (_:Kid) (h:p:=by
 repeat' first|exact Z1|with_reducible apply Zb|intro _
 all_goals first|with_reducible exact Qo|omega|exact ⟨m+1,by exact Qk,by omega,hdR,by omega⟩|skip):p:=h
structure Kie:Prop
theorem Kie.k (_:Kie) (h:p:=by
 repeat' first|exact Z1|with_reducible apply Zb|intro _
 all_goals first|contradiction|with_reducible exact Qo|omega|exact hE|exact hP.dist|(rename_i i j h1 h2 h3;exact absurd h3 (hP.dist i j h1 h2))|exact hT|exact hS|exact ⟨d+1,by exact Qk,by omega,hdR,by omega⟩|skip):p:=h
structure Kif:Prop
theorem Kif.k (_:Kif) (h:p:=by
 repeat' first|exact Z1|with_reducible apply Zb|intro _
 all_goals first|contradiction|with_reducible exact Qo|omega|exact hE|exact hP.dist|(rename_i i j h1 h2 h3;exact absurd h3 (hP.dist i j h1 h2))|exact hT|exact hS|rfl|trivial|skip):p:=h
structure Kic:Prop
theorem Kic.k (_:Kic) (h:p:=by
 repeat' first|exact Z1|with_reducible apply Zb|intro _
 all_goals first|with_reducible exact Qo|omega|skip
 refine Zi [2,3,4,5,7,8,9,10,11,12,25,26,27,28,29,30,31,32,33,34,35,36,37,38,39,40,41,42,43,44,45,46,47,48] (fun d:Nat=>[(24,.d (.int .i64 d))]) (fun d:Nat=>[]) (fun d:Nat=>d≤md.length∧Zfk (match cN l m (md.length-d) d with|some (d,s)=>some (m,d,s)|none=>L)=R) (fun d:Nat=>md.length-d) 0 ?_ ?_ ?_
 ·exact ⟨Nat.zero_le _,hmR⟩
 ·exact Qk
 rintro d ⟨hd,hdR⟩;rcases Zn d md.length with ⟨hdlt,Qa⟩|⟨hdlt,Qa⟩
 rotate_left
 ·have hz:md.length-d=0:=by omega
  rw [hz] at hdR;have hdR:Zfk L=R:=hdR;rw [←hL] at hdR;have Kq:Kid:=⟨⟩;exact Yh
 have Qc:=Zr Jx hdlt;have hdm:md.getD d Jx∈md:=by simp [hdlt]
 have hT:=htr _ hdm;have hS:=hsh _ hdm;have hg1:md.length-d=(md.length-(d+1))+1:=by omega
 rw [hg1,cN,hdf] at hdR;have hel:=iP hE (m:=(m:Int)) (d:=(d:Int));obtain ⟨E,Qh⟩:=exq (Ir l (m:Int) (d:Int));rw [Qh] at hdR hel;obtain ⟨⟨dn,dt,de⟩,hD⟩:=exq (md.getD d Jx);rw [hD] at Qc hT hS hdR;simp only at hT hS hdR;have hFl:=Ab hT;have Qp:Zhv de=Hq de:=by
  obtain ⟨_,x,hx,_⟩:=hT;exact Zs1 hx
 obtain ⟨F,hF⟩:=exq (Hq de);rw [hF] at hdR hFl Qp;have hEn:E.length≤1000000000:=by omega
 rcases Zoz (p:=Gu E) (l:=F) [] with Qz|⟨k,hk,Qz,hno,hk2⟩
 ·rw [Zsb Qz] at hdR;have hdR:Zfk (match cN l m (md.length-(d+1)) (d+1) with|some (d,s)=>some (m,d,s)|none=>L)=R:=hdR
  have Qv:Wf 0 (-1:Int)=false:=rfl;have Z0:=@O3;have Z3:=@Ol;have Zz:=@Zfb;have Kq:Kie:=⟨⟩;exact Yh
 ·rw [Zgv hk hno hk2] at hdR;obtain ⟨s,hs⟩:=exq (F.getD k []);have Q4:=Zr ([]:List UInt8) hk;rw [hs] at hdR Q4;have hdR:((m:Int),(d:Int),s,(5:Int))=R:=hdR;subst hdR;have Qv:Wf 0 (k:Int)=true:=by rw [Qx];omega
  have Z0:=@Ei.eq_def;have Z3:=@O3;have Zz:=@Ol;have Z7:=@Zfb;have Kq:Kif:=⟨⟩;exact Yh):p:=h
structure Kib:Prop
theorem Kib.k (_:Kib) (h:p:=by
 repeat' first|exact Z1|with_reducible apply Zb|intro _
 all_goals first|with_reducible exact Qo|omega|skip
 refine Zi [2,3,4,5,6,7,8,9,10,11,12,16,17,18,19,20,21,22,23,24,25,26,27,28,29,30,31,32,33,34,35,36,37,38,39,40,41,42,43,44,45,46,47,48,49] (fun m:Nat=>[(15,.d (.int .i64 m))]) (fun m:Nat=>[]) (fun m:Nat=>m≤l.length∧Zfk (gZ l (l.length-m) m)=R) (fun m:Nat=>l.length-m) 0 ?_ ?_ ?_
 ·exact ⟨Nat.zero_le _,hR2⟩
 ·exact Qk
 rintro m ⟨hm,hmR⟩;rcases Zn m l.length with ⟨hlt,Qd⟩|⟨hlt,Qd⟩
 rotate_left
 ·have hz:l.length-m=0:=by omega
  rw [hz] at hmR;have hmR:((0:Int),(0:Int),([]:List UInt8),(0:Int))=R:=hmR;subst hmR;have Z0:=@Ei.eq_def;exact Zwo
 have Z6:=Zr Js hlt;have hmem:l.getD m Js∈l:=by simp [hlt]
 have hdl:=hE.defs _ hmem;have htr:=hN.tree _ hmem;have hsh:=hP.short _ hmem;have hf1:l.length-m=(l.length-(m+1))+1:=by omega
 rw [hf1,gZ] at hmR;obtain ⟨L,hL⟩:=exq (gZ l (l.length-(m+1)) (m+1));rw [hL] at hmR;have hdf:∀ d,Zzb l m d=(l.getD m Js).defs.getD d Jx:=fun d=>rfl;obtain ⟨M,hM⟩:=exq (l.getD m Js);rw [hM] at Z6 hdl htr hsh hmR hdf;obtain ⟨mn,mi,md,ms⟩:=M;simp only at hdl htr hsh hmR hdf;have Kq:Kic:=⟨⟩;exact Yh):p:=h
theorem good_NamesS:Qq Tryz.prog (22,Li):=by
 obtain ⟨Kx,Kt,Kc,Kd,Kb,Ku,Kw,K,W4,Gd,M4,_⟩:=X2 Z4 Zq [] false (Jh good_EnvS O9.eq_def (Jh good_FreeA cX.eq_def (Jh good_indexFuncSt Pc.eq_def X1)));have Ko:=Li.eq_def;refine Wh K Tryz.func22 [.tmp 2,.tmp 3,.tmp 4,.tmp 5] rfl 50 rfl (fun c hc cvs hpre=>?_);unfold Li at hpre;obtain ⟨⟨l⟩,rfl,hP⟩:=cJ hpre;simp only at hP;clear hpre;have hN:=hP.ok;have hE:=hN.env;have hlen:=hE.len;obtain ⟨R,Qe⟩:=exq (Be l);have hR2:=Qe;unfold Be at hR2;cases hc;refine Yv 3 ?_;have Z0:=@Ei.eq_def;have Kq:Kib:=⟨⟩;exact Yh
theorem Aa {l:List Mod6} (h20:l.length≤20) (hG:∀ m∈l,Good9 m) (hD:Znp l):NamesP l :=
 ⟨⟨Zuz h20 hG,fun m hm d hd=>Zkz ((hG m hm).right d hd)⟩,hD,fun m hm d hd p hp=>(((hG m hm).fit d hd).fit p hp).2.2.2.1⟩
def con_ScopeNames:Con:=Xj (fun (_:Tx9)=>True) (fun _=>true)
theorem good_ScopeNames:Qq Tryz.prog (5,con_ScopeNames):=by
 obtain ⟨Kx,Kt,Kc,Kd,Kb,Ku,Kw,K,W4,Gd,M4,Ln,_⟩:=X2 Z4 Zq [] false (Jh good_Program9 Bn.eq_def (Jh D9 Pq.eq_def (Jh good_NamesS Li.eq_def (Jh good_Names9 De.eq_def X1))));have Ko:=con_ScopeNames.eq_def;refine Wh K Tryz.func5 [.tmp 2] rfl 56 rfl (fun c hc cvs hpre=>?_);unfold con_ScopeNames at hpre;obtain ⟨⟨names,texts⟩,rfl,-⟩:=Jr hpre;clear hpre;have hg:=dY ⟨names,texts⟩;have ha:=I7 (t:=⟨names,texts⟩);obtain ⟨⟨l,ok⟩,Qd⟩:=exq (Gn ⟨names,texts⟩);rw [Qd] at hg ha;simp only at hg ha;obtain ⟨h20,hG⟩:=hg;cases hc;refine Yv 3 ?_;cases ok with
 | false =>
  have Qc:=@Ei.eq_def;exact Zwo
 | true =>
  have hP:=Aa h20 hG (ha rfl).1;have hPo:=hP.ok;clear hG;obtain ⟨⟨a,b,s,e⟩,Qe⟩:=exq (Be l);have Z6:=fun x:Int=>beq_self_eq_true x;have Qa:(s==s)=true:=beq_self_eq_true s;have Qc:=@Ei.eq_def;exact Il
noncomputable def Zc7 (l:List Mod6) (m d:Nat):Option (List UInt8):=Ip (Ir l m d) (Hq (Zzb l m d).e)
theorem lX {l:List Mod6} {m:Nat}:∀ {f d:Nat},cN l m f d=none→∀ k,d≤k→k<d+f→Zc7 l m k=none
 | 0,d,_,k,h1,h2=>by omega
 | f+1,d,h,k,h1,h2=>by
  rw [cN] at h;cases ho:Ip (Ir l m d) (Hq (Zzb l m d).e) with
  | some s=>rw [ho] at h;cases h
  | none =>
   rw [ho] at h;rcases Nat.lt_or_ge d k with h3|h3
   ·exact lX h k (by omega) (by omega)
   ·have:k=d:=by omega
    subst this;exact ho
theorem Zgy {l:List Mod6} {m:Nat}:∀ {f d k:Nat} {s:List UInt8},cN l m f d=some (k,s)→d≤k∧k<d+f∧Zc7 l m k=some s∧∀ j,d≤j→j<k→Zc7 l m j=none
 | 0,d,k,s,h=>by rw [cN] at h;cases h
 | f+1,d,k,s,h=>by
  rw [cN] at h;cases ho:Ip (Ir l m d) (Hq (Zzb l m d).e) with
  | some s' =>
   rw [ho] at h;simp only [Zc,Ze] at h;obtain ⟨rfl,rfl⟩:=h;exact ⟨Zl _,by omega,ho,fun j h1 h2=>by omega⟩
  | none =>
   rw [ho] at h;obtain ⟨h1,h2,h3,h4⟩:=Zgy h;refine ⟨by omega,by omega,h3,fun j g1 g2=>?_⟩
   rcases Nat.lt_or_ge d j with g3|g3
   ·exact h4 j (by omega) g2
   ·have:j=d:=by omega
    subst this;exact ho
theorem Zgx {l:List Mod6}:∀ {f m:Nat},gZ l f m=none→∀ k d,m≤k→k<m+f→d<(l.getD k Js).defs.length→Zc7 l k d=none
 | 0,m,_,k,d,h1,h2,_=>by omega
 | f+1,m,h,k,d,h1,h2,h3=>by
  rw [gZ] at h;cases ho:cN l m (l.getD m Js).defs.length 0 with
  | some s=>rw [ho] at h;cases h
  | none =>
   rw [ho] at h;rcases Nat.lt_or_ge m k with h4|h4
   ·exact Zgx h k d (by omega) (by omega) h3
   ·have:k=m:=by omega
    subst this;exact lX ho d (by omega) (by omega)
theorem Zgw {l:List Mod6}:∀ {f m a b:Nat} {s:List UInt8},gZ l f m=some (a,b,s)→m≤a∧a<m+f∧Zc7 l a b=some s∧∀ k d,m≤k→d<(l.getD k Js).defs.length→(k<a∨(k=a∧d<b))→Zc7 l k d=none
 | 0,m,a,b,s,h=>by rw [gZ] at h;cases h
 | f+1,m,a,b,s,h=>by
  rw [gZ] at h;cases ho:cN l m (l.getD m Js).defs.length 0 with
  | some p =>
   obtain ⟨q,r⟩:=p;rw [ho] at h;simp only [Zc,Ze] at h;obtain ⟨rfl,rfl,rfl⟩:=h;obtain ⟨h1,h2,h3,h4⟩:=Zgy ho;exact ⟨Zl _,by omega,h3,fun k d g1 g2 g3=>by
    have:k=m:=by omega
    subst this;exact h4 d (by omega) (by omega)⟩
  | none =>
   rw [ho] at h;obtain ⟨h1,h0,h2,h3⟩:=Zgw h;refine ⟨by omega,by omega,h2,fun k d g1 g2 g3=>?_⟩
   rcases Nat.lt_or_ge m k with g4|g4
   ·exact h3 k d (by omega) g2 g3
   ·have:k=m:=by omega
    subst this;exact lX ho d (by omega) (by omega)
theorem Rr (l:List Mod6):(Be l=((0:Int),(0:Int),([]:List UInt8),(0:Int))∧∀ m d,m<l.length→d<(l.getD m Js).defs.length→Zc7 l m d=none)∨∃ a b:Nat,∃ s,Be l=((a:Int),(b:Int),s,(5:Int))∧a<l.length∧Zc7 l a b=some s∧∀ m d,d<(l.getD m Js).defs.length→(m<a∨(m=a∧d<b))→Zc7 l m d=none:=by
 unfold Be;cases ho:gZ l l.length 0 with
 | none=>exact .inl ⟨rfl,fun m d h1 h2=>Zgx ho m d (by omega) (by omega) h2⟩
 | some p =>
  obtain ⟨a,b,s⟩:=p;obtain ⟨_,h1,h2,h3⟩:=Zgw ho;exact .inr ⟨a,b,s,rfl,by omega,h2,fun m d g1 g2=>h3 m d (by omega) g1 g2⟩
def fE (E:List Bd) (x:List UInt8) (k:Nat):Bool:=(E.take k).any fun b=>b.name==x
theorem aG {E:List Bd} {x:List UInt8}:fE E x 0=false:=rfl
theorem aH {E:List Bd} {x:List UInt8} {k:Nat} (h:k<E.length):fE E x (k+1)=(fE E x k||(E.getD k jU).name==x):=by
 unfold fE;rw [Km jU h,List.any_append];simp
theorem aI {E:List Bd} {x:List UInt8}:fE E x E.length=mayB E x:=by
 unfold fE mayB;rw [List.take_length]
def mZ (E:List Bd) (F:List (List UInt8)) (i:Nat):Bool:=(F.take i).all (mayB E)
theorem cG {E:List Bd} {F:List (List UInt8)}:mZ E F 0=true:=rfl
theorem Ztl {E:List Bd} {F:List (List UInt8)} {i:Nat} (h:i<F.length):mZ E F (i+1)=(mZ E F i&&mayB E (F.getD i [])):=by
 unfold mZ;rw [Km [] h,List.all_append];simp
theorem gQ {E:List Bd}:∀ {F:List (List UInt8)},Ip E F=none→∀ i,i<F.length→mayB E (F.getD i [])=true
 | [],_,i,h=>by simp at h
 | s::F,h,i,hi=>by
  rw [Ip] at h;split at h
  ·rename_i hm;cases i with
   | zero=>exact hm
   | succ i=>simpa using gQ h i (by simpa using hi)
  ·cases h
theorem Zc6 {E:List Bd}:∀ {F:List (List UInt8)} {s:List UInt8},Ip E F=some s→(∀ i,i<F.length→mZ E F i=true→mayB E (F.getD i [])=false→F.getD i []=s)∧mZ E F F.length=false
 | [],s,h=>by cases h
 | x::F,s,h=>by
  rw [Ip] at h;split at h
  ·rename_i hm;obtain ⟨h1,h2⟩:=Zc6 h;refine ⟨fun i hi ha hn=>?_,?_⟩
   ·cases i with
    | zero=>rw [List.getD_cons_zero,hm] at hn;cases hn
    | succ i =>
     rw [List.getD_cons_succ] at hn ⊢;refine h1 i (by simpa using hi) ?_ hn
     unfold mZ at ha ⊢;rw [List.take_succ_cons,List.all_cons,hm,Bool.true_and] at ha;exact ha
   ·unfold mZ at h2 ⊢;rw [Zj,List.take_succ_cons,List.all_cons,hm,Bool.true_and];exact h2
  ·rename_i hm;have hm:mayB E x=false:=by simpa using hm
   simp only [Zc] at h;subst h;refine ⟨fun i hi ha hn=>?_,?_⟩
   ·cases i with
    | zero=>rfl
    | succ i =>
     unfold mZ at ha;rw [List.take_succ_cons,List.all_cons,hm,Bool.false_and] at ha;cases ha
   ·unfold mZ;rw [Zj,List.take_succ_cons,List.all_cons,hm,Bool.false_and]
def con_ScopeNamed:Con:=Xj (fun (_:Tx9)=>True) (fun _=>true)
structure Kii:Prop
theorem Kii.k (_:Kii) (h:p:=by
 repeat' first|exact Z1|with_reducible apply Zb|intro _
 all_goals first|with_reducible exact Qo|omega|exact ⟨m+1,by exact Qk,by omega,by omega⟩|skip):p:=h
structure Kik:Prop
theorem Kik.k (_:Kik) (h:p:=by
 repeat' first|exact Z1|with_reducible apply Zb|intro _
 all_goals first|contradiction|with_reducible exact Qo|omega|exact hP|exact hE|exact hD|(rename_i i j h1 h2 h3;exact absurd h3 (hD i j h1 h2))|exact hT|exact ⟨d+1,by exact Qk,by omega,by omega⟩|skip):p:=h
structure Kim:Prop
theorem Kim.k (_:Kim) (h:p:=by
 repeat' first|exact Z1|with_reducible apply Zb|intro _
 all_goals first|contradiction|with_reducible exact Qo|omega|exact ⟨k+1,by (have Um:=hms;exact Qk),by omega,by omega⟩|skip):p:=h
structure Kin:Prop
theorem Kin.k (_:Kin) (h:p:=by
 repeat' first|exact Z1|with_reducible apply Zb|intro _
 all_goals first|contradiction|with_reducible exact Qo|omega|exact ⟨k+1,by (have Um:=hms;exact Qk),by omega,by omega⟩|skip):p:=h
structure Kio:Prop
theorem Kio.k (_:Kio) (h:p:=by
 repeat' first|exact Z1|with_reducible apply Zb|intro _
 all_goals first|contradiction|with_reducible exact Qo|omega|exact ⟨k+1,by (have Um:=hms;exact Qk),by omega,by omega⟩|skip):p:=h
structure Kip:Prop
theorem Kip.k (_:Kip) (h:p:=by
 repeat' first|exact Z1|with_reducible apply Zb|intro _
 all_goals first|contradiction|with_reducible exact Qo|omega|exact ⟨i+1,by exact Qk,by omega,by omega⟩|skip):p:=h
structure Kil:Prop
theorem Kil.k (_:Kil) (h:p:=by
 repeat' first|exact Z1|with_reducible apply Zb|intro _
 all_goals first|contradiction|with_reducible exact Qo|omega|exact hP|exact hE|exact hD|(rename_i i j h1 h2 h3;exact absurd h3 (hD i j h1 h2))|exact hT|skip
 refine Zi [85,86,87,88,89,90,91,92,93,94,95,96,97,98,99,100,101,102,103] (fun k:Nat=>[(15,.d (.bool (fE E x k))),(16,.d (.int .i64 k))]) (fun k:Nat=>[]) (fun k:Nat=>k≤E.length) (fun k:Nat=>E.length-k) 0 ?_ ?_ ?_
 ·exact Nat.zero_le _
 ·have Um:=@aG;exact Qk
 rintro k hk;rcases Zn k E.length with ⟨hklt,Z3⟩|⟨hklt,Z3⟩
 ·have Z0:=Zr jU hklt;have hms:=aH (x:=x) hklt;obtain ⟨⟨yn,yt⟩,hy⟩:=exq (E.getD k jU);rw [hy] at Z0 hms;simp only at hms;cases hmm:fE E x k with
  | true =>
   rw [hmm,Bool.true_or] at hms;have Kq:Kim:=⟨⟩;exact Yh
  | false =>
   rw [hmm,Bool.false_or] at hms;cases Zz:(yn==x) with
   | true =>
    rw [Zz] at hms;have Kq:Kin:=⟨⟩;exact Yh
   | false =>
    rw [Zz] at hms;have Kq:Kio:=⟨⟩;exact Yh
 have hke:k=E.length:=by omega
 rw [hke] at Z3 ⊢;rw [aI];rw [hmay];have Kq:Kip:=⟨⟩;exact Yh):p:=h
structure Kij:Prop
theorem Kij.k (_:Kij) (h:p:=by
 repeat' first|exact Z1|with_reducible apply Zb|intro _
 all_goals first|contradiction|with_reducible exact Qo|omega|exact hP|exact hE|exact hD|(rename_i i j h1 h2 h3;exact absurd h3 (hD i j h1 h2))|exact hT|skip
 refine Zi [2,15,16,79,80,81,82,83,84,85,86,87,88,89,90,91,92,93,94,95,96,97,98,99,100,101,102,103,104,105,106,107,108,109,110,111,112,113,114,115,116,117,118,119,120,121,122,123,124,125,126,127,128,129,130,131,132,133,134] (fun i:Nat=>[(13,.d (.bool true)),(14,.d (.int .i64 i))]) (fun i:Nat=>[]) (fun i:Nat=>i≤F.length) (fun i:Nat=>F.length-i) 0 ?_ ?_ ?_
 ·exact Nat.zero_le _
 ·have Um:=@cG;exact Qk
 rintro i hi;rcases Zn i F.length with ⟨hilt,Qv⟩|⟨hilt,Qv⟩
 rotate_left
 ·have hie:i=F.length:=by omega
  rw [hie] at Qv ⊢;have Kq:Kik:=⟨⟩;exact Yh
 have Q4:=Zr ([]:List UInt8) hilt;have hmay:=gQ hoff i hilt;obtain ⟨x,hx⟩:=exq (F.getD i []);rw [hx] at Q4 hmay;have Kq:Kil:=⟨⟩;exact Yh):p:=h
structure Kih:Prop
theorem Kih.k (_:Kih) (h:p:=by
 repeat' first|exact Z1|with_reducible apply Zb|intro _
 all_goals first|with_reducible exact Qo|omega|skip
 refine Zi [2,11,12,13,14,15,16,38,39,40,41,42,43,44,45,46,47,48,49,50,51,52,53,54,55,56,57,58,59,60,61,62,63,64,65,66,67,68,69,70,71,72,73,74,75,76,77,78,79,80,81,82,83,84,85,86,87,88,89,90,91,92,93,94,95,96,97,98,99,100,101,102,103,104,105,106,107,108,109,110,111,112,113,114,115,116,117,118,119,120,121,122,123,124,125,126,127,128,129,130,131,132,133,134,135,136,137,138,139,140,141,142,143,144,145,146,147,148] (fun d:Nat=>[(10,.d (.int .i64 d))]) (fun d:Nat=>[]) (fun d:Nat=>d≤md.length) (fun d:Nat=>md.length-d) 0 ?_ ?_ ?_
 ·exact Nat.zero_le _
 ·exact Qk
 rintro d hd;rcases Zn d md.length with ⟨hdlt,Qc⟩|⟨hdlt,Qc⟩
 rotate_left
 ·have Kq:Kii:=⟨⟩;exact Yh
 have Qh:=Zr Jx hdlt;have hdm:md.getD d Jx∈md:=by simp [hdlt]
 have hT:=htr _ hdm;have ho:=hoA d;have hab:=hab d hdlt;have hel:=iP hE (m:=(m:Int)) (d:=(d:Int));obtain ⟨E,Qp⟩:=exq (Ir l (m:Int) (d:Int));rw [Qp] at ho hel;obtain ⟨⟨dn,dt,de⟩,hDe⟩:=exq (md.getD d Jx);rw [hDe] at Qh hT ho;simp only at hT ho;have hFl:=Ab hT;obtain ⟨F,Qz⟩:=exq (Hq de);rw [Qz] at ho hFl;have hoff:=hab;rw [ho] at hoff;clear hall htr hoA hab;have Kq:Kij:=⟨⟩;exact Yh):p:=h
structure Kig:Prop
theorem Kig.k (_:Kig) (h:p:=by
 repeat' first|exact Z1|with_reducible apply Zb|intro _
 all_goals first|contradiction|with_reducible exact Qo|omega|exact hP|exact hE|exact hD|(rename_i i j h1 h2 h3;exact absurd h3 (hD i j h1 h2))|rfl|skip
 refine Zi [2,10,11,12,13,14,15,16,32,33,34,35,36,37,38,39,40,41,42,43,44,45,46,47,48,49,50,51,52,53,54,55,56,57,58,59,60,61,62,63,64,65,66,67,68,69,70,71,72,73,74,75,76,77,78,79,80,81,82,83,84,85,86,87,88,89,90,91,92,93,94,95,96,97,98,99,100,101,102,103,104,105,106,107,108,109,110,111,112,113,114,115,116,117,118,119,120,121,122,123,124,125,126,127,128,129,130,131,132,133,134,135,136,137,138,139,140,141,142,143,144,145,146,147,148] (fun m:Nat=>[(9,.d (.int .i64 m))]) (fun m:Nat=>[]) (fun m:Nat=>m≤l.length) (fun m:Nat=>l.length-m) 0 ?_ ?_ ?_
 ·exact Nat.zero_le _
 ·exact Qk
 rintro m hm;rcases Zn m l.length with ⟨hlt,Z6⟩|⟨hlt,Z6⟩
 rotate_left
 ·exact Zwo
 have Qa:=Zr Js hlt;have hmem:l.getD m Js∈l:=by simp [hlt]
 have hdl:=hE.defs _ hmem;have htr:=hTr _ hmem;have hoA:∀ d,Zc7 l m d=Ip (Ir l m d) (Hq ((l.getD m Js).defs.getD d Jx).e):=fun d=>rfl;have hab:=fun d=>hall m d hlt;obtain ⟨M,hM⟩:=exq (l.getD m Js);rw [hM] at Qa hdl htr hoA hab;obtain ⟨mn,mi,md,ms⟩:=M;simp only at hdl htr hoA hab;have Kq:Kih:=⟨⟩;exact Yh):p:=h
structure Kis:Prop
theorem Kis.k (_:Kis) (h:p:=by
 repeat' first|exact Z1|with_reducible apply Zb|intro _
 all_goals first|with_reducible exact Qo|omega|exact ⟨m+1,by exact Qk,by omega,by omega⟩|skip):p:=h
structure Kit:Prop
theorem Kit.k (_:Kit) (h:p:=by
 repeat' first|exact Z1|with_reducible apply Zb|intro _
 all_goals first|contradiction|with_reducible exact Qo|omega|exact ⟨m+1,by exact Qk,by omega,by omega⟩|skip):p:=h
structure Kiv:Prop
theorem Kiv.k (_:Kiv) (h:p:=by
 repeat' first|exact Z1|with_reducible apply Zb|intro _
 all_goals first|contradiction|with_reducible exact Qo|omega|exact hP|exact hE|exact hD|(rename_i i j h1 h2 h3;exact absurd h3 (hD i j h1 h2))|exact hT|exact ⟨d+1,by exact Qk,by omega,by omega⟩|skip):p:=h
structure Kix:Prop
theorem Kix.k (_:Kix) (h:p:=by
 repeat' first|exact Z1|with_reducible apply Zb|intro _
 all_goals first|contradiction|with_reducible exact Qo|omega|exact ⟨k+1,by (have Um:=hms;exact Qk),by omega,by omega⟩|skip):p:=h
structure Kiy:Prop
theorem Kiy.k (_:Kiy) (h:p:=by
 repeat' first|exact Z1|with_reducible apply Zb|intro _
 all_goals first|contradiction|with_reducible exact Qo|omega|exact ⟨k+1,by (have Um:=hms;exact Qk),by omega,by omega⟩|skip):p:=h
structure Kiz:Prop
theorem Kiz.k (_:Kiz) (h:p:=by
 repeat' first|exact Z1|with_reducible apply Zb|intro _
 all_goals first|contradiction|with_reducible exact Qo|omega|exact ⟨k+1,by (have Um:=hms;exact Qk),by omega,by omega⟩|skip):p:=h
structure KiA:Prop
theorem KiA.k (_:KiA) (h:p:=by
 repeat' first|exact Z1|with_reducible apply Zb|intro _
 all_goals first|contradiction|with_reducible exact Qo|omega|exact ⟨i+1,by exact Qk,by omega,by omega⟩|skip):p:=h
structure Kiw:Prop
theorem Kiw.k (_:Kiw) (h:p:=by
 repeat' first|exact Z1|with_reducible apply Zb|intro _
 all_goals first|contradiction|with_reducible exact Qo|omega|exact hP|exact hE|exact hD|(rename_i i j h1 h2 h3;exact absurd h3 (hD i j h1 h2))|exact hT|skip
 refine Zi [85,86,87,88,89,90,91,92,93,94,95,96,97,98,99,100,101,102,103] (fun k:Nat=>[(15,.d (.bool (fE E x k))),(16,.d (.int .i64 k))]) (fun k:Nat=>[]) (fun k:Nat=>k≤E.length) (fun k:Nat=>E.length-k) 0 ?_ ?_ ?_
 ·exact Nat.zero_le _
 ·have Um:=@aG;exact Qk
 rintro k hk;rcases Zn k E.length with ⟨hklt,Z3⟩|⟨hklt,Z3⟩
 ·have Z0:=Zr jU hklt;have hms:=aH (x:=x) hklt;obtain ⟨⟨yn,yt⟩,hy⟩:=exq (E.getD k jU);rw [hy] at Z0 hms;simp only at hms;cases hmm:fE E x k with
  | true =>
   rw [hmm,Bool.true_or] at hms;have Kq:Kix:=⟨⟩;exact Yh
  | false =>
   rw [hmm,Bool.false_or] at hms;cases Zz:(yn==x) with
   | true =>
    rw [Zz] at hms;have Kq:Kiy:=⟨⟩;exact Yh
   | false =>
    rw [Zz] at hms;have Kq:Kiz:=⟨⟩;exact Yh
 have hke:k=E.length:=by omega
 rw [hke] at Z3 ⊢;rw [aI];rw [hmay];have Kq:KiA:=⟨⟩;exact Yh):p:=h
structure Kiu:Prop
theorem Kiu.k (_:Kiu) (h:p:=by
 repeat' first|exact Z1|with_reducible apply Zb|intro _
 all_goals first|contradiction|with_reducible exact Qo|omega|exact hP|exact hE|exact hD|(rename_i i j h1 h2 h3;exact absurd h3 (hD i j h1 h2))|exact hT|skip
 refine Zi [2,15,16,79,80,81,82,83,84,85,86,87,88,89,90,91,92,93,94,95,96,97,98,99,100,101,102,103,104,105,106,107,108,109,110,111,112,113,114,115,116,117,118,119,120,121,122,123,124,125,126,127,128,129,130,131,132,133,134] (fun i:Nat=>[(13,.d (.bool true)),(14,.d (.int .i64 i))]) (fun i:Nat=>[]) (fun i:Nat=>i≤F.length) (fun i:Nat=>F.length-i) 0 ?_ ?_ ?_
 ·exact Nat.zero_le _
 ·have Um:=@cG;exact Qk
 rintro i hi;rcases Zn i F.length with ⟨hilt,Qv⟩|⟨hilt,Qv⟩
 rotate_left
 ·have hie:i=F.length:=by omega
  rw [hie] at Qv ⊢;have Kq:Kiv:=⟨⟩;exact Yh
 have Q4:=Zr ([]:List UInt8) hilt;have hmay:=gQ hoff i hilt;obtain ⟨x,hx⟩:=exq (F.getD i []);rw [hx] at Q4 hmay;have Kq:Kiw:=⟨⟩;exact Yh):p:=h
structure KiB:Prop
theorem KiB.k (_:KiB) (h:p:=by
 repeat' first|exact Z1|with_reducible apply Zb|intro _
 all_goals first|contradiction|with_reducible exact Qo|omega|exact ⟨m+1,by exact Qk,by omega,by omega⟩|skip):p:=h
structure KiD:Prop
theorem KiD.k (_:KiD) (h:p:=by
 repeat' first|exact Z1|with_reducible apply Zb|intro _
 all_goals first|contradiction|with_reducible exact Qo|omega|exact hP|exact hE|exact hD|(rename_i i j h1 h2 h3;exact absurd h3 (hD i j h1 h2))|exact hT|exact ⟨d+1,by exact Qk,by omega,by omega⟩|skip):p:=h
structure KiF:Prop
theorem KiF.k (_:KiF) (h:p:=by
 repeat' first|exact Z1|with_reducible apply Zb|intro _
 all_goals first|contradiction|with_reducible exact Qo|omega|exact ⟨k+1,by (have Um:=hms;exact Qk),by omega,by omega⟩|skip):p:=h
structure KiG:Prop
theorem KiG.k (_:KiG) (h:p:=by
 repeat' first|exact Z1|with_reducible apply Zb|intro _
 all_goals first|contradiction|with_reducible exact Qo|omega|exact ⟨k+1,by (have Um:=hms;exact Qk),by omega,by omega⟩|skip):p:=h
structure KiH:Prop
theorem KiH.k (_:KiH) (h:p:=by
 repeat' first|exact Z1|with_reducible apply Zb|intro _
 all_goals first|contradiction|with_reducible exact Qo|omega|exact ⟨k+1,by (have Um:=hms;exact Qk),by omega,by omega⟩|skip):p:=h
structure KiI:Prop
theorem KiI.k (_:KiI) (h:p:=by
 repeat' first|exact Z1|with_reducible apply Zb|intro _
 all_goals first|contradiction|with_reducible exact Qo|omega|exact ⟨i+1,by exact Qk,by omega,by omega⟩|skip):p:=h
structure KiE:Prop
theorem KiE.k (_:KiE) (h:p:=by
 repeat' first|exact Z1|with_reducible apply Zb|intro _
 all_goals first|contradiction|with_reducible exact Qo|omega|exact hP|exact hE|exact hD|(rename_i i j h1 h2 h3;exact absurd h3 (hD i j h1 h2))|exact hT|skip
 refine Zi [85,86,87,88,89,90,91,92,93,94,95,96,97,98,99,100,101,102,103] (fun k:Nat=>[(15,.d (.bool (fE E x k))),(16,.d (.int .i64 k))]) (fun k:Nat=>[]) (fun k:Nat=>k≤E.length) (fun k:Nat=>E.length-k) 0 ?_ ?_ ?_
 ·exact Nat.zero_le _
 ·have Um:=@aG;exact Qk
 rintro k hk;rcases Zn k E.length with ⟨hklt,Z3⟩|⟨hklt,Z3⟩
 ·have Z0:=Zr jU hklt;have hms:=aH (x:=x) hklt;obtain ⟨⟨yn,yt⟩,hy⟩:=exq (E.getD k jU);rw [hy] at Z0 hms;simp only at hms;cases hmm:fE E x k with
  | true =>
   rw [hmm,Bool.true_or] at hms;have Kq:KiF:=⟨⟩;exact Yh
  | false =>
   rw [hmm,Bool.false_or] at hms;cases Zz:(yn==x) with
   | true =>
    rw [Zz] at hms;have Kq:KiG:=⟨⟩;exact Yh
   | false =>
    rw [Zz] at hms;have Kq:KiH:=⟨⟩;exact Yh
 have hke:k=E.length:=by omega
 rw [hke] at Z3 ⊢;rw [aI];rw [hmay];have Kq:KiI:=⟨⟩;exact Yh):p:=h
structure KiC:Prop
theorem KiC.k (_:KiC) (h:p:=by
 repeat' first|exact Z1|with_reducible apply Zb|intro _
 all_goals first|contradiction|with_reducible exact Qo|omega|exact hP|exact hE|exact hD|(rename_i i j h1 h2 h3;exact absurd h3 (hD i j h1 h2))|exact hT|skip
 refine Zi [2,15,16,79,80,81,82,83,84,85,86,87,88,89,90,91,92,93,94,95,96,97,98,99,100,101,102,103,104,105,106,107,108,109,110,111,112,113,114,115,116,117,118,119,120,121,122,123,124,125,126,127,128,129,130,131,132,133,134] (fun i:Nat=>[(13,.d (.bool true)),(14,.d (.int .i64 i))]) (fun i:Nat=>[]) (fun i:Nat=>i≤F.length) (fun i:Nat=>F.length-i) 0 ?_ ?_ ?_
 ·exact Nat.zero_le _
 ·have Um:=@cG;exact Qk
 rintro i hi;rcases Zn i F.length with ⟨hilt,Qv⟩|⟨hilt,Qv⟩
 rotate_left
 ·have hie:i=F.length:=by omega
  rw [hie] at Qv ⊢;have Kq:KiD:=⟨⟩;exact Yh
 have Q4:=Zr ([]:List UInt8) hilt;have hmay:=gQ hoff i hilt;obtain ⟨x,hx⟩:=exq (F.getD i []);rw [hx] at Q4 hmay;have Kq:KiE:=⟨⟩;exact Yh):p:=h
structure KiK:Prop
theorem KiK.k (_:KiK) (h:p:=by
 repeat' first|exact Z1|with_reducible apply Zb|intro _
 all_goals first|contradiction|with_reducible exact Qo|omega|exact hP|exact hE|exact hD|(rename_i i j h1 h2 h3;exact absurd h3 (hD i j h1 h2))|exact hT|exact ⟨d+1,by exact Qk,by omega,by omega⟩|skip):p:=h
structure KiM:Prop
theorem KiM.k (_:KiM) (h:p:=by
 repeat' first|exact Z1|with_reducible apply Zb|intro _
 all_goals first|contradiction|with_reducible exact Qo|omega|exact ⟨k+1,by (have Um:=hms;exact Qk),by omega,by omega⟩|skip):p:=h
structure KiN:Prop
theorem KiN.k (_:KiN) (h:p:=by
 repeat' first|exact Z1|with_reducible apply Zb|intro _
 all_goals first|contradiction|with_reducible exact Qo|omega|exact ⟨k+1,by (have Um:=hms;exact Qk),by omega,by omega⟩|skip):p:=h
structure KiO:Prop
theorem KiO.k (_:KiO) (h:p:=by
 repeat' first|exact Z1|with_reducible apply Zb|intro _
 all_goals first|contradiction|with_reducible exact Qo|omega|exact ⟨k+1,by (have Um:=hms;exact Qk),by omega,by omega⟩|skip):p:=h
structure KiP:Prop
theorem KiP.k (_:KiP) (h:p:=by
 repeat' first|exact Z1|with_reducible apply Zb|intro _
 all_goals first|contradiction|with_reducible exact Qo|omega|exact ⟨i+1,by (have Um:=has;exact Qk),by omega,by omega⟩|skip):p:=h
structure KiQ:Prop
theorem KiQ.k (_:KiQ) (h:p:=by
 repeat' first|exact Z1|with_reducible apply Zb|intro _
 all_goals first|contradiction|with_reducible exact Qo|omega|exact ⟨i+1,by (have Um:=has;exact Qk),by omega,by omega⟩|skip):p:=h
structure KiR:Prop
theorem KiR.k (_:KiR) (h:p:=by
 repeat' first|exact Z1|with_reducible apply Zb|intro _
 all_goals first|contradiction|with_reducible exact Qo|omega|exact ⟨i+1,by (have Um:=has;exact Qk),by omega,by omega⟩|skip):p:=h
structure KiS:Prop
theorem KiS.k (_:KiS) (h:p:=by
 repeat' first|exact Z1|with_reducible apply Zb|intro _
 all_goals first|contradiction|with_reducible exact Qo|omega|exact ⟨i+1,by (have Um:=has;exact Qk),by omega,by omega⟩|skip):p:=h
structure KiL:Prop
theorem KiL.k (_:KiL) (h:p:=by
 repeat' first|exact Z1|with_reducible apply Zb|intro _
 all_goals first|contradiction|with_reducible exact Qo|omega|exact hP|exact hE|exact hD|(rename_i i j h1 h2 h3;exact absurd h3 (hD i j h1 h2))|exact hT|skip
 refine Zi [85,86,87,88,89,90,91,92,93,94,95,96,97,98,99,100,101,102,103] (fun k:Nat=>[(15,.d (.bool (fE E x k))),(16,.d (.int .i64 k))]) (fun k:Nat=>[]) (fun k:Nat=>k≤E.length) (fun k:Nat=>E.length-k) 0 ?_ ?_ ?_
 ·exact Nat.zero_le _
 ·have Um:=@aG;exact Qk
 rintro k hk;rcases Zn k E.length with ⟨hklt,Z3⟩|⟨hklt,Z3⟩
 ·have Z0:=Zr jU hklt;have hms:=aH (x:=x) hklt;obtain ⟨⟨yn,yt⟩,hy⟩:=exq (E.getD k jU);rw [hy] at Z0 hms;simp only at hms;cases hmm:fE E x k with
  | true =>
   rw [hmm,Bool.true_or] at hms;have Kq:KiM:=⟨⟩;exact Yh
  | false =>
   rw [hmm,Bool.false_or] at hms;cases Zz:(yn==x) with
   | true =>
    rw [Zz] at hms;have Kq:KiN:=⟨⟩;exact Yh
   | false =>
    rw [Zz] at hms;have Kq:KiO:=⟨⟩;exact Yh
 have hke:k=E.length:=by omega
 rw [hke] at Z3 ⊢;rw [aI];cases hmay:mayB E x with
 | true =>
  rw [hmay,Bool.and_true] at has;cases hal:mZ E F i with
  | true =>
   rw [hal] at has;have Kq:KiP:=⟨⟩;exact Yh
  | false =>
   rw [hal] at has;have Kq:KiQ:=⟨⟩;exact Yh
 | false =>
  rw [hmay,Bool.and_false] at has;cases hal:mZ E F i with
  | true =>
   have hxs:=hfst hal hmay;subst hxs;have Zw:(x != x)=false:=bne_self_eq_false x;have Kq:KiR:=⟨⟩;exact Yh
  | false =>
   have Kq:KiS:=⟨⟩;exact Yh):p:=h
structure KiJ:Prop
theorem KiJ.k (_:KiJ) (h:p:=by
 repeat' first|exact Z1|with_reducible apply Zb|intro _
 all_goals first|contradiction|with_reducible exact Qo|omega|exact hP|exact hE|exact hD|(rename_i i j h1 h2 h3;exact absurd h3 (hD i j h1 h2))|exact hT|skip
 refine Zi [2,15,16,79,80,81,82,83,84,85,86,87,88,89,90,91,92,93,94,95,96,97,98,99,100,101,102,103,104,105,106,107,108,109,110,111,112,113,114,115,116,117,118,119,120,121,122,123,124,125,126,127,128,129,130,131,132,133,134] (fun i:Nat=>[(13,.d (.bool (mZ E F i))),(14,.d (.int .i64 i))]) (fun i:Nat=>[]) (fun i:Nat=>i≤F.length) (fun i:Nat=>F.length-i) 0 ?_ ?_ ?_
 ·exact Nat.zero_le _
 ·have Um:=@cG;exact Qk
 rintro i hi;rcases Zn i F.length with ⟨hilt,Qv⟩|⟨hilt,Qv⟩
 rotate_left
 ·have hie:i=F.length:=by omega
  rw [hie] at Qv ⊢;rw [hoff.2];have Kq:KiK:=⟨⟩;exact Yh
 have Q4:=Zr ([]:List UInt8) hilt;have hfst:=hoff.1 i hilt;have has:=Ztl (E:=E) hilt;obtain ⟨x,hx⟩:=exq (F.getD i []);rw [hx] at Q4 hfst has;have Kq:KiL:=⟨⟩;exact Yh):p:=h
structure Kir:Prop
theorem Kir.k (_:Kir) (h:p:=by
 repeat' first|exact Z1|with_reducible apply Zb|intro _
 all_goals first|with_reducible exact Qo|omega|skip
 refine Zi [2,11,12,13,14,15,16,38,39,40,41,42,43,44,45,46,47,48,49,50,51,52,53,54,55,56,57,58,59,60,61,62,63,64,65,66,67,68,69,70,71,72,73,74,75,76,77,78,79,80,81,82,83,84,85,86,87,88,89,90,91,92,93,94,95,96,97,98,99,100,101,102,103,104,105,106,107,108,109,110,111,112,113,114,115,116,117,118,119,120,121,122,123,124,125,126,127,128,129,130,131,132,133,134,135,136,137,138,139,140,141,142,143,144,145,146,147,148] (fun d:Nat=>[(10,.d (.int .i64 d))]) (fun d:Nat=>[]) (fun d:Nat=>d≤md.length) (fun d:Nat=>md.length-d) 0 ?_ ?_ ?_
 ·exact Nat.zero_le _
 ·exact Qk
 rintro d hd;rcases Zn d md.length with ⟨hdlt,Qc⟩|⟨hdlt,Qc⟩
 rotate_left
 ·have Kq:Kis:=⟨⟩;exact Yh
 have Qh:=Zr Jx hdlt;have hdm:md.getD d Jx∈md:=by simp [hdlt]
 have hT:=htr _ hdm;have ho:=hoA d;have hab:=hab d hdlt;have hel:=iP hE (m:=(m:Int)) (d:=(d:Int));obtain ⟨E,Qp⟩:=exq (Ir l (m:Int) (d:Int));rw [Qp] at ho hel;obtain ⟨⟨dn,dt,de⟩,hDe⟩:=exq (md.getD d Jx);rw [hDe] at Qh hT ho;simp only at hT ho;have hFl:=Ab hT;obtain ⟨F,Qz⟩:=exq (Hq de);rw [Qz] at ho hFl;rcases Xx (a:Int) (m:Int) with ⟨h1,Z7⟩|⟨h1,Z7⟩
 ·clear hall htr hoA hab;have Kq:Kit:=⟨⟩;exact Yh
 by_cases h2:m=a
 case neg =>
  have Z9:((m:Int)==(a:Int))=false:=by rw [Za];omega
  have hoff:=hab (.inl (by omega))
  rw [ho] at hoff;clear hall htr hoA hab;have Kq:Kiu:=⟨⟩;exact Yh
 have Z9:((m:Int)==(a:Int))=true:=by rw [Zm];omega
 rcases Xx (b:Int) (d:Int) with ⟨h3,Qg⟩|⟨h3,Qg⟩
 ·clear hall htr hoA hab;have Kq:KiB:=⟨⟩;exact Yh
 by_cases h4:d=b
 case neg =>
  have Zv:((d:Int)==(b:Int))=false:=by rw [Za];omega
  have hoff:=hab (.inr ⟨h2,by omega⟩)
  rw [ho] at hoff;clear hall htr hoA hab;have Kq:KiC:=⟨⟩;exact Yh
 have Zv:((d:Int)==(b:Int))=true:=by rw [Zm];omega
 have hoff:=hat;rw [←h2,←h4,ho] at hoff;have hoff:=Zc6 hoff;clear hall htr hoA hab;have Kq:KiJ:=⟨⟩;exact Yh):p:=h
structure Kiq:Prop
theorem Kiq.k (_:Kiq) (h:p:=by
 repeat' first|exact Z1|with_reducible apply Zb|intro _
 all_goals first|contradiction|with_reducible exact Qo|omega|exact hP|exact hE|exact hD|(rename_i i j h1 h2 h3;exact absurd h3 (hD i j h1 h2))|rfl|skip
 refine Zi [2,10,11,12,13,14,15,16,32,33,34,35,36,37,38,39,40,41,42,43,44,45,46,47,48,49,50,51,52,53,54,55,56,57,58,59,60,61,62,63,64,65,66,67,68,69,70,71,72,73,74,75,76,77,78,79,80,81,82,83,84,85,86,87,88,89,90,91,92,93,94,95,96,97,98,99,100,101,102,103,104,105,106,107,108,109,110,111,112,113,114,115,116,117,118,119,120,121,122,123,124,125,126,127,128,129,130,131,132,133,134,135,136,137,138,139,140,141,142,143,144,145,146,147,148] (fun m:Nat=>[(9,.d (.int .i64 m))]) (fun m:Nat=>[]) (fun m:Nat=>m≤l.length) (fun m:Nat=>l.length-m) 0 ?_ ?_ ?_
 ·exact Nat.zero_le _
 ·exact Qk
 rintro m hm;rcases Zn m l.length with ⟨hlt,Z6⟩|⟨hlt,Z6⟩
 rotate_left
 ·exact Zwo
 have Qa:=Zr Js hlt;have hmem:l.getD m Js∈l:=by simp [hlt]
 have hdl:=hE.defs _ hmem;have htr:=hTr _ hmem;have hoA:∀ d,Zc7 l m d=Ip (Ir l m d) (Hq ((l.getD m Js).defs.getD d Jx).e):=fun d=>rfl;have hab:=fun d=>hall m d;obtain ⟨M,hM⟩:=exq (l.getD m Js);rw [hM] at Qa hdl htr hoA hab;obtain ⟨mn,mi,md,ms⟩:=M;simp only at hdl htr hoA hab;have Kq:Kir:=⟨⟩;exact Yh):p:=h
theorem good_ScopeNamed:Qq Tryz.prog (6,con_ScopeNamed):=by
 obtain ⟨Kx,Kt,Kc,Kd,Kb,Ku,Kw,K,W4,Gd,M4,Ln,Ek,_⟩:=X2 Z4 Zq [] false (Jh good_Program9 Bn.eq_def (Jh D9 Pq.eq_def (Jh good_NamesS Li.eq_def (Jh good_EnvS O9.eq_def (Jh good_Free5 Ft.eq_def X1)))));have Ko:=con_ScopeNamed.eq_def;refine Wh K Tryz.func6 [.tmp 2] rfl 158 rfl (fun c hc cvs hpre=>?_);unfold con_ScopeNamed at hpre;obtain ⟨⟨names,texts⟩,rfl,-⟩:=Jr hpre;clear hpre;have hg:=dY ⟨names,texts⟩;have ha:=I7 (t:=⟨names,texts⟩);obtain ⟨⟨l,ok⟩,Qd⟩:=exq (Gn ⟨names,texts⟩);rw [Qd] at hg ha;simp only at hg ha;obtain ⟨h20,hG⟩:=hg;cases hc;refine Yv 9 ?_;cases ok with
 | false =>
  have Qn:=@Ei.eq_def;exact Zwo
 | true =>
  have hD:=(ha rfl).1;have hP:=Aa h20 hG hD;have hE:=hP.ok.env;have hTr:=hP.ok.tree;clear hG;rcases Rr l with ⟨Qe,hall⟩|⟨a,b,s,Qe,-,hat,hall⟩
  ·clear ha;have Qn:=@Ei.eq_def;have Kq:Kig:=⟨⟩;exact Yh
  ·clear ha;have Qn:=@Ei.eq_def;have Kq:Kiq:=⟨⟩;exact Yh
end Go.Am.Ty
namespace Go.Am.Ty.Gr
open Go.Proofs
open Enc (enc dec)
theorem Tn {ks:List (List UInt8)} {vs:List Int}:(enc (MSI.mk ks vs):D)=.map (ks.map enc) (vs.map enc):=rfl
section
variable {α β:Type} [BEq α]
variable [LawfulBEq α]
theorem Sf {x:α}:∀ {l:List α},Xn x l=true↔x∈l
 | []=>by simp [Xn]
 | y::l=>by simp only [Xn,Bool.or_eq_true,Zm,Sf (l:=l),Zu]
theorem Zjq {x:α} {l:List α}:Xn x l=false↔x∉l:=by
 rw [←Sf,Bool.eq_false_iff]
end
theorem Mn {x:List UInt8} {z:Int}:∀ {ks:List (List UInt8)} {vs:List Int},Iq (.str x) (.int .i64 z) (ks.map enc) (vs.map enc)=.int .i64 (K5 x z ks vs)
 | [],vs=>by cases vs<;>rfl
 | k::ks,[]=>rfl
 | k::ks,v::vs=>by
  show cond (D.eqb (.str x) (.str k)) (D.int .i64 v) (Iq (.str x) (.int .i64 z) (ks.map enc) (vs.map enc))=_;rw [Mn,Zh2,K5];cases x==k<;>rfl
theorem Zqf {x:List UInt8} {z:Bool}:∀ {ks:List (List UInt8)} {vs:List Bool},Iq (.str x) (.bool z) (ks.map enc) (vs.map enc)=.bool (K5 x z ks vs)
 | [],vs=>by cases vs<;>rfl
 | k::ks,[]=>rfl
 | k::ks,v::vs=>by
  show cond (D.eqb (.str x) (.str k)) (D.bool v) (Iq (.str x) (.bool z) (ks.map enc) (vs.map enc))=_;rw [Zqf,Zh2,K5];cases x==k<;>rfl
theorem gB {x:Int} {z:Bool}:∀ {ks:List Int} {vs:List Bool},Iq (.int .i64 x) (.bool z) (ks.map enc) (vs.map enc)=.bool (K5 x z ks vs)
 | [],vs=>by cases vs<;>rfl
 | k::ks,[]=>rfl
 | k::ks,v::vs=>by
  show cond (D.eqb (.int .i64 x) (.int .i64 k)) (D.bool v) (Iq (.int .i64 x) (.bool z) (ks.map enc) (vs.map enc))=_;rw [gB,Zvb,K5];cases x==k<;>rfl
theorem Zlx {x:List UInt8} {v:Int}:∀ {ks:List (List UInt8)} {vs:List Int},Bh (.str x) (.int .i64 v) (ks.map enc) (vs.map enc)=(Hi x v ks vs).map enc
 | [],vs=>by cases vs<;>rfl
 | k::ks,[]=>rfl
 | k::ks,u::vs=>by
  show cond (D.eqb (.str x) (.str k)) (D.int .i64 v::vs.map enc) (D.int .i64 u::Bh (.str x) (.int .i64 v) (ks.map enc) (vs.map enc))=_;rw [Zlx,Zh2,Hi];cases x==k<;>rfl
theorem Zly {x:Int} {v:Bool}:∀ {ks:List Int} {vs:List Bool},Bh (.int .i64 x) (.bool v) (ks.map enc) (vs.map enc)=(Hi x v ks vs).map enc
 | [],vs=>by cases vs<;>rfl
 | k::ks,[]=>rfl
 | k::ks,u::vs=>by
  show cond (D.eqb (.int .i64 x) (.int .i64 k)) (D.bool v::vs.map enc) (D.bool u::Bh (.int .i64 x) (.bool v) (ks.map enc) (vs.map enc))=_;rw [Zly,Zvb,Hi];cases x==k<;>rfl
def fV (l:List Xd):Nat→List (List UInt8)
 | 0=>[]
 | k+1=>cond (Xn (nm l k) (fV l k)) (fV l k) (Vd (nm l k) (fV l k))
def Znu (l:List Xd):Nat→List Int
 | 0=>[]
 | k+1=>cond (Xn (nm l k) (fV l k)) (Znu l k) (Hi (nm l k) (k:Int) (fV l k) (Znu l k))
def Qr (l:List Xd):MSI:=⟨fV l l.length,Znu l l.length⟩
def Ao:Con:=Xj (fun (l:Sl Xd)=>Lo l.l.length) (fun l=>Qr l.l)
structure KiU:Prop
theorem KiU.k (_:KiU) (h:p:=by
 repeat' first|exact Z1|with_reducible apply Zb|intro _
 all_goals first|with_reducible exact Qo|omega|exact ⟨k+1,by rw [hSk,hSv];exact Qk,by omega,by omega⟩|skip):p:=h
structure KiV:Prop
theorem KiV.k (_:KiV) (h:p:=by
 repeat' first|exact Z1|with_reducible apply Zb|intro _
 all_goals first|with_reducible exact Qo|omega|exact ⟨k+1,by rw [hSk,hSv];exact Qk,by omega,by omega⟩|skip):p:=h
structure KiT:Prop
theorem KiT.k (_:KiT) (h:p:=by
 repeat' first|exact Z1|with_reducible apply Zb|intro _
 refine Zi [4,5,6,7,12,13,14,15,16,17,18,19,20,21,22,23,24,25,26,27,28,29] (fun k:Nat=>[(11,.d (.int .i64 k))]) (fun k:Nat=>[(8,.mp ((fV l k).map enc) ((Znu l k).map enc) false)]) (fun k:Nat=>k≤l.length) (fun k:Nat=>l.length-k) 0 ?_ ?_ ?_
 ·omega
 ·have Um:=@fV.eq_1;have Ix:=@fV.eq_2;have Zwc:=@Znu.eq_1;have Zxr:=@Znu.eq_2;exact Qk
 rintro k hk;have hSk:fV l (k+1)=cond (Xn (nm l k) (fV l k)) (fV l k) (Vd (nm l k) (fV l k)):=rfl;have hSv:Znu l (k+1)=cond (Xn (nm l k) (fV l k)) (Znu l k) (Hi (nm l k) (k:Int) (fV l k) (Znu l k)):=rfl;rcases Zn k l.length with ⟨hlt,Qd⟩|⟨hlt,Qd⟩
 ·have Qe:=Zr m0 hlt;unfold nm at hSk hSv;obtain ⟨x,hx⟩:=exq (l.getD k m0);obtain ⟨ks,hks⟩:=exq (fV l k);obtain ⟨vs,hvs⟩:=exq (Znu l k);rw [hx] at Qe;rw [hx,hks] at hSk hSv;rw [hvs] at hSv;rw [hks,hvs];cases Z6:Xn x.name ks with
  | true =>
   rw [Z6,cond_true] at hSk hSv;have Qc:=@Mn;have Qh:=@Xi;have Kq:KiU:=⟨⟩;exact Yh
  | false =>
   rw [Z6,cond_false] at hSk hSv;have Qc:=@Mn;have Qh:=@Zlx;have Qp:=@Xi;have Kq:KiV:=⟨⟩;exact Yh
 ·have hkl:k=l.length:=by omega
  have Qa:Qr l=⟨fV l l.length,Znu l l.length⟩:=rfl;rw [hkl];obtain ⟨ks,hks⟩:=exq (fV l l.length);obtain ⟨vs,hvs⟩:=exq (Znu l l.length);rw [hks,hvs] at Qa;rw [hkl] at Qd;rw [hks,hvs];have Qc:=@Tn;exact Zwo):p:=h
theorem good_places:Qq Tryz.prog (106,Ao):=by
 obtain ⟨Kx,Kt,Kc,Kd,Kb,Ku,Kw,K,_⟩:=X2 Z4 Zq [] false X1;have Ko:=Ao.eq_def;refine Wh K Tryz.func106 [.tmp 2] rfl 31 rfl (fun c hc cvs hpre=>?_);unfold Ao at hpre;obtain ⟨⟨l⟩,rfl,hl⟩:=Jr hpre;simp only at hl;clear hpre;cases hc;have Kq:KiT:=⟨⟩;exact Yh
def Zfx (l:List Xd) (m:MSI) (k:Nat):Bool:=K5 (nm l k) 0 m.ks m.vs != (k:Int)
def dB (l:List Xd) (m:MSI) (k:Nat):Bool:=(imp l k).any fun s=>!Xn s m.ks
def F4 (l:List Xd) (m:MSI):Int×Int:=match (List.range l.length).find? (Zfx l m) with
 | some i=>(i,7)
 | none=>match (List.range l.length).find? (dB l m) with
  | some i=>(i,6)
  | none=>(0,0)
def bE:Con:=Zeq (fun (l:Sl Xd) (_:MSI)=>aC l.l) (fun l m=>F4 l.l m)
theorem Zwd {p:Prop} (h:p:=by (sym=>simp [Kt,Kc,Kd,Kb,Ku,Kw,Ko,W4,Gd,M4,Ln,Ek,cL,fW,oB,Zcc,Zcb,Qd,Qe,Z6,Qa,Qc,Qh,Qp,Qz,Qv,Q4,Z0,Z3,Zz,Z7,Z9,Qg,Zv,Zw,Qn,Q6,Q5,Ja,Q7,Q0,Jo,Jj,Wx,X9,Wq,Wp,Wo,Ur,Uq,Up,Kj,Ki,Kh,Ka,Q2,Q1,kW,Jp,Ei.eq_def,jW,jV,Xo,Y2,iU,Tn,Y1,gT,gS,Xm,Yz,J7,Hn,gB,Zqf,Mn,Yn,Rw,Wm,Dx,Zly,L7,S1,L4,Zbv,Zbu,Zbt,Zbs,Zbr,Zbq,Zbp,Zbo,Zbn,Zbm,Zbl,Zbk,Zbj,Zbi,Zbh,Zbg,Zbf,Zbe,Zbd,Zbc,Zbb,Zba,Za9,Za8,Za7,Za6,Za5,Za4,Za3,Za2,Za1,Za0,Zaz,Zay,Zax,Zaw,Zav,Zau,Zat,Zas,Zar,Zaq,Zap,Zao,Zan,Zam,Zal,Zak,Zaj,Zai,Zah,Zag,Zaf,Zae,Zad,Zac,Zab,Zaa,zU,zT,zS,zR,zP,zO,zN,zM,zL,zI,zH,zG,zF,zE,zC,zB,zK,zW,zV,zY,zJ,zX,zZ,zQ,yU,yT,yS,yR,yP,yO,yN,yM,yL,yI,yH,yG,yF,yE,yD,yC,yB,yA,yK,yW,yV,yY,yJ,yX,yZ,yQ,xU,xT,xS,xR,xP,xO,xN,xM,xL,xI,xH,xG,xF,xE,xD,xC,xB,xA,xK,xW,xV,xY,xJ,xX,xZ,xQ,wU,wT,wS,wR,wL,wI,wH,wG,wF,wE,wD,wC,wA,wK,wW,wV,wY,wJ,wX,wZ,wQ,vU,vT,vS,vR,vP,vO,vN,vM,vL,vI,vH,vG,vF,vE,vD,vC,vB,vA,vK,vW,vV,vY,vJ,vX,vZ,vQ,uU,uT,uS,uR,uP,uO,uN,uM,uL,uI,uH,uG,uF,uE,uD,uC,uB,uA,uK,uW,uV,uY,uJ,uX,uZ,uQ,tU,tT,tS,tR,tP,tO,tN,tM,tL,tI,tH,tG,tF,tE,tD,tC,tB,tA,tK,tW,tV,tY,tJ,tX,tZ,tQ,sU,sT,sS,sR,sP,sO,sN,sM,sL,sI,sH,sG,sF,sE,sD,sC,sB,sA,sK,sW,sV,sY,sJ,sX,sZ,sQ,rU,rT,rS,rR,rP,rO,rN,rM,rL,rI,rH,rG,rF,rE,rD,rC,rB,rA,rK,rW,rV,rY,rJ,rX,rZ,rQ,qU,qT,qS,qR,qP,qO,qN,qM,qL,qI,qH,qG,qF,qE,qD,qC,qB,qA,qK,qW,qV,qY,qJ,qX,qZ,qQ,pU,pT,pS,pR,pL,pI,pH,pG,pF,pE,pD,pC,pA,pK,pW,pV,pY,pJ,pX,pZ,pQ,oU,oT,oS,oR,oP,oO,oN,oM,oL,oI,oH,oG,oF,oE,oD,oC,Tc,Tb,Ta,S9,S8,S7,Nk,Nj,Ni,Nh,Ng,Nf,Nd,Nc,Nb,Na,H9,H8,H7,H6,H5,H4,H3,H2,H0,Hz,Hy,Hx,Hw,Hv,Hu,Ht,Hs,Uc,Ub,Ua,V9,V8,V7,V6,V5,V4,V3,V2,V0,Vz,Vy,Vx,Vw,Vv,Vu,Vt,Vs,Vr,Vq,Vp,Vo,Vn,Vm,Vl,Vk,Vj,Vi,Vh])):p:=h
theorem U6 {p:Prop} (h:p:=by
 (sym=>simp [Kt,Kc,Kd,Kb,Ku,Kw,Ko,W4,Gd,M4,Ln,Ek,cL,fW,oB,Zcc,Zcb,Qd,Qe,Z6,Qa,Qc,Qh,Qp,Qz,Qv,Q4,Z0,Z3,Zz,Z7,Z9,Qg,Zv,Zw,Qn,Q6,Q5,Ja,Q7,Q0,Jo,Jj,Wx,X9,Wq,Wp,Wo,Ur,Uq,Up,Kj,Ki,Kh,Ka,Q2,Q1,kW,Jp,Ei.eq_def,jW,jV,Xo,Y2,iU,Tn,Y1,gT,gS,Xm,Yz,J7,Hn,gB,Zqf,Mn,Yn,Rw,Wm,Dx,Zly,L7,S1,L4,Zbv,Zbu,Zbt,Zbs,Zbr,Zbq,Zbp,Zbo,Zbn,Zbm,Zbl,Zbk,Zbj,Zbi,Zbh,Zbg,Zbf,Zbe,Zbd,Zbc,Zbb,Zba,Za9,Za8,Za7,Za6,Za5,Za4,Za3,Za2,Za1,Za0,Zaz,Zay,Zax,Zaw,Zav,Zau,Zat,Zas,Zar,Zaq,Zap,Zao,Zan,Zam,Zal,Zak,Zaj,Zai,Zah,Zag,Zaf,Zae,Zad,Zac,Zab,Zaa,zU,zT,zS,zR,zP,zO,zN,zM,zL,zI,zH,zG,zF,zE,zC,zB,zK,zW,zV,zY,zJ,zX,zZ,zQ,yU,yT,yS,yR,yP,yO,yN,yM,yL,yI,yH,yG,yF,yE,yD,yC,yB,yA,yK,yW,yV,yY,yJ,yX,yZ,yQ,xU,xT,xS,xR,xP,xO,xN,xM,xL,xI,xH,xG,xF,xE,xD,xC,xB,xA,xK,xW,xV,xY,xJ,xX,xZ,xQ,wU,wT,wS,wR,wL,wI,wH,wG,wF,wE,wD,wC,wA,wK,wW,wV,wY,wJ,wX,wZ,wQ,vU,vT,vS,vR,vP,vO,vN,vM,vL,vI,vH,vG,vF,vE,vD,vC,vB,vA,vK,vW,vV,vY,vJ,vX,vZ,vQ,uU,uT,uS,uR,uP,uO,uN,uM,uL,uI,uH,uG,uF,uE,uD,uC,uB,uA,uK,uW,uV,uY,uJ,uX,uZ,uQ,tU,tT,tS,tR,tP,tO,tN,tM,tL,tI,tH,tG,tF,tE,tD,tC,tB,tA,tK,tW,tV,tY,tJ,tX,tZ,tQ,sU,sT,sS,sR,sP,sO,sN,sM,sL,sI,sH,sG,sF,sE,sD,sC,sB,sA,sK,sW,sV,sY,sJ,sX,sZ,sQ,rU,rT,rS,rR,rP,rO,rN,rM,rL,rI,rH,rG,rF,rE,rD,rC,rB,rA,rK,rW,rV,rY,rJ,rX,rZ,rQ,qU,qT,qS,qR,qP,qO,qN,qM,qL,qI,qH,qG,qF,qE,qD,qC,qB,qA,qK,qW,qV,qY,qJ,qX,qZ,qQ,pU,pT,pS,pR,pL,pI,pH,pG,pF,pE,pD,pC,pA,pK,pW,pV,pY,pJ,pX,pZ,pQ,oU,oT,oS,oR,oP,oO,oN,oM,oL,oI,oH,oG,oF,oE,oD,oC,Tc,Tb,Ta,S9,S8,S7,Nk,Nj,Ni,Nh,Ng,Nf,Nd,Nc,Nb,Na,H9,H8,H7,H6,H5,H4,H3,H2,H0,Hz,Hy,Hx,Hw,Hv,Hu,Ht,Hs,Uc,Ub,Ua,V9,V8,V7,V6,V5,V4,V3,V2,V0,Vz,Vy,Vx,Vw,Vv,Vu,Vt,Vs,Vr,Vq,Vp,Vo,Vn,Vm,Vl,Vk,Vj,Vi,Vh];tactic =>
   try simp only [S4] at *
   try simp only [Znv] at *
   try simp (maxSteps:=4000000) only [Qd,Qe,Z6,Qa,Qc,Qh,Qp,Qz,Qv,Q4,Z0,Z3,Zz,Z7,Z9,Qg,Zv,Zw,Qn,Q6,Q5,Ja,Q7,Q0,Jo,Jj,Wx,X9,Wq,Wp,Wo,Ur,Uq,Up,Kj,Ki,Kh,Ka,Q2,Q1,kW,Jp,Ei.eq_def,jW,jV,Xo,Y2,iU,Tn,Y1,gT,gS,Xm,Yz,J7,Hn,gB,Zqf,Mn,Yn,Rw,Wm,Dx,Zly,L7,S1,L4,cM]
   first|done|exact Kq.k)):p:=h
theorem Znt {p:Prop} (h:p:=by
 (sym=>simp [Kt,Kc,Kd,Kb,Ku,Kw,Ko,W4,Gd,M4,Ln,Ek,cL,fW,oB,Zcc,Zcb,Qd,Qe,Z6,Qa,Qc,Qh,Qp,Qz,Qv,Q4,Z0,Z3,Zz,Z7,Z9,Qg,Zv,Zw,Qn,Q6,Q5,Ja,Q7,Q0,Jo,Jj,Wx,X9,Wq,Wp,Wo,Ur,Uq,Up,Kj,Ki,Kh,Ka,Q2,Q1,kW,Jp,Ei.eq_def,jW,jV,Xo,Y2,iU,Tn,Y1,gT,gS,Xm,Yz,J7,Hn,gB,Zqf,Mn,Yn,Rw,Wm,Dx,Zly,L7,S1,L4,Zbv,Zbu,Zbt,Zbs,Zbr,Zbq,Zbp,Zbo,Zbn,Zbm,Zbl,Zbk,Zbj,Zbi,Zbh,Zbg,Zbf,Zbe,Zbd,Zbc,Zbb,Zba,Za9,Za8,Za7,Za6,Za5,Za4,Za3,Za2,Za1,Za0,Zaz,Zay,Zax,Zaw,Zav,Zau,Zat,Zas,Zar,Zaq,Zap,Zao,Zan,Zam,Zal,Zak,Zaj,Zai,Zah,Zag,Zaf,Zae,Zad,Zac,Zab,Zaa,zU,zT,zS,zR,zP,zO,zN,zM,zL,zI,zH,zG,zF,zE,zC,zB,zK,zW,zV,zY,zJ,zX,zZ,zQ,yU,yT,yS,yR,yP,yO,yN,yM,yL,yI,yH,yG,yF,yE,yD,yC,yB,yA,yK,yW,yV,yY,yJ,yX,yZ,yQ,xU,xT,xS,xR,xP,xO,xN,xM,xL,xI,xH,xG,xF,xE,xD,xC,xB,xA,xK,xW,xV,xY,xJ,xX,xZ,xQ,wU,wT,wS,wR,wL,wI,wH,wG,wF,wE,wD,wC,wA,wK,wW,wV,wY,wJ,wX,wZ,wQ,vU,vT,vS,vR,vP,vO,vN,vM,vL,vI,vH,vG,vF,vE,vD,vC,vB,vA,vK,vW,vV,vY,vJ,vX,vZ,vQ,uU,uT,uS,uR,uP,uO,uN,uM,uL,uI,uH,uG,uF,uE,uD,uC,uB,uA,uK,uW,uV,uY,uJ,uX,uZ,uQ,tU,tT,tS,tR,tP,tO,tN,tM,tL,tI,tH,tG,tF,tE,tD,tC,tB,tA,tK,tW,tV,tY,tJ,tX,tZ,tQ,sU,sT,sS,sR,sP,sO,sN,sM,sL,sI,sH,sG,sF,sE,sD,sC,sB,sA,sK,sW,sV,sY,sJ,sX,sZ,sQ,rU,rT,rS,rR,rP,rO,rN,rM,rL,rI,rH,rG,rF,rE,rD,rC,rB,rA,rK,rW,rV,rY,rJ,rX,rZ,rQ,qU,qT,qS,qR,qP,qO,qN,qM,qL,qI,qH,qG,qF,qE,qD,qC,qB,qA,qK,qW,qV,qY,qJ,qX,qZ,qQ,pU,pT,pS,pR,pL,pI,pH,pG,pF,pE,pD,pC,pA,pK,pW,pV,pY,pJ,pX,pZ,pQ,oU,oT,oS,oR,oP,oO,oN,oM,oL,oI,oH,oG,oF,oE,oD,oC,Tc,Tb,Ta,S9,S8,S7,Nk,Nj,Ni,Nh,Ng,Nf,Nd,Nc,Nb,Na,H9,H8,H7,H6,H5,H4,H3,H2,H0,Hz,Hy,Hx,Hw,Hv,Hu,Ht,Hs,Uc,Ub,Ua,V9,V8,V7,V6,V5,V4,V3,V2,V0,Vz,Vy,Vx,Vw,Vv,Vu,Vt,Vs,Vr,Vq,Vp,Vo,Vn,Vm,Vl,Vk,Vj,Vi,Vh];tactic =>
   try simp only [S4] at *
   try simp only [Znv] at *
   try simp (maxSteps:=4000000) only [Qd,Qe,Z6,Qa,Qc,Qh,Qp,Qz,Qv,Q4,Z0,Z3,Zz,Z7,Z9,Qg,Zv,Zw,Qn,Q6,Q5,Ja,Q7,Q0,Jo,Jj,Wx,X9,Wq,Wp,Wo,Ur,Uq,Up,Kj,Ki,Kh,Ka,Q2,Q1,kW,Jp,Ei.eq_def,jW,jV,Xo,Y2,iU,Tn,Y1,gT,gS,Xm,Yz,J7,Hn,gB,Zqf,Mn,Yn,Rw,Wm,Dx,Zly,L7,S1,L4,cM]
   repeat' first|with_reducible assumption|with_reducible apply Zb|intro _|omega|(rw [Xy];omega)
   all_goals first|with_reducible exact Qo|omega|rfl|trivial|exact Or.inr trivial|assumption|contradiction|exact Qk)):p:=h
structure KiX:Prop
theorem KiX.k (_:KiX) (h:p:=by
 repeat' first|exact Z1|with_reducible apply Zb|intro _
 all_goals first|with_reducible exact Qo|omega|exact ⟨k+1,by exact Qk,by omega,hs,by omega⟩|skip):p:=h
structure Kja:Prop
theorem Kja.k (_:Kja) (h:p:=by
 repeat' first|exact Z1|with_reducible apply Zb|intro _
 all_goals first|with_reducible exact Qo|omega|exact ⟨j+1,by exact Qk,by omega,hs,by omega⟩|skip):p:=h
structure Kjb:Prop
theorem Kjb.k (_:Kjb) (h:p:=by
 repeat' first|exact Z1|with_reducible apply Zb|intro _
 all_goals first|with_reducible exact Qo|omega|exact ⟨k+1,by exact Qk,by omega,hs,by omega⟩|skip):p:=h
structure KiZ:Prop
theorem KiZ.k (_:KiZ) (h:p:=by
 repeat' first|exact Z1|with_reducible apply Zb|intro _
 refine Zi [4,5,11,12,13,40,41,42,43,44,45,46,47,48,49,50,51,52] (fun j:Nat=>[(39,.d (.int .i64 j))]) (fun j:Nat=>[]) (fun j:Nat=>j≤x.imps.length∧∀ i,i<j→Xn (x.imps.getD i []) ks=true) (fun j:Nat=>x.imps.length-j) 0 ?_ ?_ ?_
 ·simp
 ·exact Qk
 rintro j ⟨hj,hnj⟩;rcases Zn j x.imps.length with ⟨hjl,Qc⟩|⟨hjl,Qc⟩
 ·have Qh:=Zr ([]:List UInt8) hjl;have hsj:Xn (x.imps.getD j []) ks=true→∀ i,i<j+1→Xn (x.imps.getD i []) ks=true:=fun h=>nM hnj h;have hbj:Xn (x.imps.getD j []) ks=false→R1=k∧R2=6:=fun h=>hit (A8 (p:=fun s=>!Xn s ks) [] j hjl (by show (!Xn _ ks)=true;rw [h];rfl))
  obtain ⟨y,hy⟩:=exq (x.imps.getD j []);rw [hy] at Qh hsj hbj;cases Z6:Xn y ks with
  | false =>
   obtain ⟨e1,e2⟩:=hbj Z6;subst e1 e2;have Qp:=@Xi;exact Znt
  | true =>
   have hs:=hsj Z6;have Qp:=@Xi;have Kq:Kja:=⟨⟩;exact U6
 ·have hs:=hst (Ly (p:=fun s=>!Xn s ks) [] fun i hi=>by rw [hnj i (by omega)];rfl)
  have Qp:=@Xi;have Kq:Kjb:=⟨⟩;exact U6):p:=h
structure KiY:Prop
theorem KiY.k (_:KiY) (h:p:=by
 repeat' first|exact Z1|with_reducible apply Zb|intro _
 refine Zi [4,5,8,9,11,12,13,32,33,34,35,36,37,38,39,40,41,42,43,44,45,46,47,48,49,50,51,52,53] (fun k:Nat=>[(31,.d (.int .i64 k))]) (fun k:Nat=>[]) (fun k:Nat=>k≤l.length∧∀ j,j<k→dB l ⟨ks,vs⟩ j=false) (fun k:Nat=>l.length-k) 0 ?_ ?_ ?_
 ·simp
 ·exact Qk
 clear Qd hlt hk;rintro k ⟨hk,hno⟩;rcases Zn k l.length with ⟨hlt,Qd⟩|⟨hlt,Qd⟩
 ·have Qe:=Zr m0 hlt;have hi20:=bB hf k;have hst:dB l ⟨ks,vs⟩ k=false→∀ j,j<k+1→dB l ⟨ks,vs⟩ j=false:=fun h=>nM hno h;have hit:dB l ⟨ks,vs⟩ k=true→R1=k∧R2=6:=fun h=>by
   rw [iL hlt hno h] at hR2;injection hR2 with e1 e2
   exact ⟨e1.symm,e2.symm⟩
  unfold dB at hst hit;unfold imp at hi20 hst hit;obtain ⟨x,hx⟩:=exq (l.getD k m0);rw [hx] at Qe hst hit hi20;simp only at hst hit;have Qp:=@Xi;have Kq:KiZ:=⟨⟩;exact U6
 have hlack:=iI (p:=dB l ⟨ks,vs⟩) (n:=l.length) fun j hj=>hno j (by omega)
 rw [hlack] at hR2;injection hR2 with e1 e2
 subst e1 e2;exact Zwd):p:=h
structure KiW:Prop
theorem KiW.k (_:KiW) (h:p:=by
 repeat' first|exact Z1|with_reducible apply Zb|intro _
 refine Zi [4,5,6,7,17,18,19,20,21,22,23,24,25,26,27,28] (fun k:Nat=>[(16,.d (.int .i64 k))]) (fun k:Nat=>[]) (fun k:Nat=>k≤l.length∧∀ j,j<k→Zfx l ⟨ks,vs⟩ j=false) (fun k:Nat=>l.length-k) 0 ?_ ?_ ?_
 ·simp
 ·exact Qk
 rintro k ⟨hk,hno⟩;rcases Zn k l.length with ⟨hlt,Qd⟩|⟨hlt,Qd⟩
 ·have Qe:=Zr m0 hlt;have hst:Zfx l ⟨ks,vs⟩ k=false→∀ j,j<k+1→Zfx l ⟨ks,vs⟩ j=false:=fun h=>nM hno h;have hit:Zfx l ⟨ks,vs⟩ k=true→R1=k∧R2=7:=fun h=>by
   rw [iL hlt hno h] at hR2;injection hR2 with e1 e2
   exact ⟨e1.symm,e2.symm⟩
  unfold Zfx nm at hst hit;obtain ⟨x,hx⟩:=exq (l.getD k m0);rw [hx] at Qe hst hit;simp only at hst hit;cases Z6:(K5 x.name 0 ks vs != (k:Int)) with
  | true =>
   obtain ⟨e1,e2⟩:=hit Z6;subst e1 e2;have Qp:=@Xi;exact Znt
  | false =>
   have hs:=hst Z6;have Qp:=@Xi;have Kq:KiX:=⟨⟩;exact U6
 have hdup:=iI (p:=Zfx l ⟨ks,vs⟩) (n:=l.length) fun j hj=>hno j (by omega)
 rw [hdup] at hR2;simp only at hR2;clear hno;have Kq:KiY:=⟨⟩;exact U6):p:=h
theorem good_wrong:Qq Tryz.prog (107,bE):=by
 obtain ⟨Kx,Kt,Kc,Kd,Kb,Ku,Kw,K,_⟩:=X2 Z4 Zq [] false X1;have Ko:=bE.eq_def;refine Wh K Tryz.func107 [.tmp 4,.tmp 5] rfl 54 rfl (fun c hc cvs hpre=>?_);unfold bE at hpre;obtain ⟨⟨l⟩,⟨ks,vs⟩,rfl,hf⟩:=lS hpre;simp only at hf;clear hpre;have hl20:=Tm hf;obtain ⟨R1,R2,Qa⟩:∃ a b,F4 l ⟨ks,vs⟩=(a,b):=⟨_,_,rfl⟩;have hR2:=Qa;unfold F4 at hR2;cases hc;refine Yv 3 ?_;have Kq:KiW:=⟨⟩;exact U6
end Go.Am.Ty.Gr
