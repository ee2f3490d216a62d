/- Contracts of functions that the law reaches, and plain laws. Conditions: those that each contract states. -/
import Derived.Test.YtilpfkjhahnfaaaGreatK5
set_option maxHeartbeats 4000000
set_option linter.unusedVariables false
set_option linter.unusedSimpArgs false
set_option maxRecDepth 100000
namespace Go.Am.Ty
open Go.Proofs
open Enc (enc dec)
def J9 (p:Part) (w tg b t u li na op:Bool):Bool :=
 if p.kind≠0∧p.kind≠14∧p.num≠0 then false
 else if p.kind=0 then ((p.bind==[]&&p.many==0)&&((p.u.length:Int)==0))&&li
 else if p.kind=1 then (((p.bind==[]&&p.many==0)&&((p.t.length:Int)==0))&&((p.u.length:Int)==0))&&na
 else if p.kind=2∨p.kind=4 then (((p.name==[]&&p.many==0)&&b)&&t)&&((p.u.length:Int)==0)
 else if p.kind=3∨p.kind=6 then ((p.name==[]&&(p.bind==[]&&p.many==0))&&((p.t.length:Int)==0))&&((p.u.length:Int)==0)
 else if p.kind=5 then (((w&&p.many==0)&&b)&&t)&&u
 else if p.kind=7 then ((((p.name==[]&&p.bind==[])&&Xu 1 p.many)&&Xu p.many 50)&&((p.t.length:Int)==0))&&((p.u.length:Int)==0)
 else if p.kind=8 then (((p.name==[]&&p.many==0)&&b)&&((p.t.length:Int)==0))&&((p.u.length:Int)==0)
 else if p.kind=9 then ((op&&(p.bind==[]&&p.many==0))&&((p.t.length:Int)==0))&&((p.u.length:Int)==0)
 else if p.kind=10 then ((((p.name==[]&&p.bind==[])&&Xu 0 p.many)&&Xu p.many 50)&&((p.t.length:Int)==0))&&((p.u.length:Int)==0)
 else if p.kind=11 then ((w&&(p.bind==[]&&p.many==0))&&((p.t.length:Int)==0))&&((p.u.length:Int)==0)
 else if p.kind=12 then ((tg&&(p.bind==[]&&p.many==0))&&t)&&((p.u.length:Int)==0)
 else if p.kind=13 then ((p.name==[]&&(p.bind==[]&&p.many==0))&&t)&&((p.u.length:Int)==0)
 else if p.kind=14 then (((p.name==[]&&(p.bind==[]&&p.many==0))&&t)&&u)&&Xu 0 p.num
 else false
def D3 (p:Part):Bool:=J9 p (Wo p.name) (Pg p.name) (Wo p.bind) (bS p.t) (bS p.u) (Ev p) (Zdf p.name) (Zqd p.name)
def Rc:Con:=Xy (fun (p:Part)=>Zou p∧p.name.length≤9223372036854775806) (fun p=>D3 p)
structure w393k:Prop
theorem w393k.k (_:w393k) {p:Prop} (h:p:=by
 repeat' first|exact Qg|with_reducible apply And.intro|intro _
 all_goals first|with_reducible exact Jf|omega|(symm;rw [←hR2];clear hR2 Q2 hF f1 f2 f3 f4 f5 f6 f7 hn K Qh Qi Z2 Qd Z5 Z9 Qu Q0 Qz Zv Zx Zu Zy Zz Z4 Zs Zt Z8 Qt Qw Qv Qj Qq Q6 Q9;unfold J9;simp_all;done)|(symm;rw [←hR2];clear hR2 Q2 hF f1 f2 f3 f4 f5 f6 f7 hn K Qh Qi Z2 Qd Z5 Z9 Qu Q0 Qz Zv Zx Zu Zy Zz Z4 Zs Zt Z8 Qt Qw Qv Qj Qq Q6 Q9;unfold J9 Xu;simp_all;done)|(symm;rw [←hR2];clear hR2 Q2 hF f1 f2 f3 f4 f5 f6 f7 hn K Qh Qi Z2 Qd Z5 Z9 Qu Q0 Qz Zv Zx Zu Zy Zz Z4 Zs Zt Z8 Qt Qw Qv Qj Qq Q6 Q9;unfold J9 Xu;simp_all;omega)|skip):p:=h
structure w394k:Prop
theorem w394k.k (_:w394k) {p:Prop} (h:p:=by
 repeat' first|exact Qg|with_reducible apply And.intro|intro _
 all_goals first|with_reducible exact Jf|omega|(symm;rw [←hR2];clear hR2 Q2 hF f1 f2 f3 f4 f5 f6 f7 hn K Qh Qi Z2 Qd Z5 Z9 Qu Q0 Qz Zv Zx Zu Zy Zz Z4 Zs Zt Z8 Qt Qw Qv Qj Qq Q6 Q9;unfold J9;simp_all;done)|(symm;rw [←hR2];clear hR2 Q2 hF f1 f2 f3 f4 f5 f6 f7 hn K Qh Qi Z2 Qd Z5 Z9 Qu Q0 Qz Zv Zx Zu Zy Zz Z4 Zs Zt Z8 Qt Qw Qv Qj Qq Q6 Q9;unfold J9 Xu;simp_all;done)|(symm;rw [←hR2];clear hR2 Q2 hF f1 f2 f3 f4 f5 f6 f7 hn K Qh Qi Z2 Qd Z5 Z9 Qu Q0 Qz Zv Zx Zu Zy Zz Z4 Zs Zt Z8 Qt Qw Qv Qj Qq Q6 Q9;unfold J9 Xu;simp_all;omega)|skip):p:=h
structure w395k:Prop
theorem w395k.k (_:w395k) {p:Prop} (h:p:=by
 repeat' first|exact Qg|with_reducible apply And.intro|intro _
 all_goals first|with_reducible exact Jf|omega|(symm;rw [←hR2];clear hR2 Q2 hF f1 f2 f3 f4 f5 f6 f7 hn K Qh Qi Z2 Qd Z5 Z9 Qu Q0 Qz Zv Zx Zu Zy Zz Z4 Zs Zt Z8 Qt Qw Qv Qj Qq Q6 Q9;unfold J9;simp_all;done)|(symm;rw [←hR2];clear hR2 Q2 hF f1 f2 f3 f4 f5 f6 f7 hn K Qh Qi Z2 Qd Z5 Z9 Qu Q0 Qz Zv Zx Zu Zy Zz Z4 Zs Zt Z8 Qt Qw Qv Qj Qq Q6 Q9;unfold J9 Xu;simp_all;done)|(symm;rw [←hR2];clear hR2 Q2 hF f1 f2 f3 f4 f5 f6 f7 hn K Qh Qi Z2 Qd Z5 Z9 Qu Q0 Qz Zv Zx Zu Zy Zz Z4 Zs Zt Z8 Qt Qw Qv Qj Qq Q6 Q9;unfold J9 Xu;simp_all;omega)|skip):p:=h
structure w396k:Prop
theorem w396k.k (_:w396k) {p:Prop} (h:p:=by
 repeat' first|exact Qg|with_reducible apply And.intro|intro _
 all_goals first|with_reducible exact Jf|omega|(symm;rw [←hR2];clear hR2 Q2 hF f1 f2 f3 f4 f5 f6 f7 hn K Qh Qi Z2 Qd Z5 Z9 Qu Q0 Qz Zv Zx Zu Zy Zz Z4 Zs Zt Z8 Qt Qw Qv Qj Qq Q6 Q9;unfold J9;simp_all;done)|(symm;rw [←hR2];clear hR2 Q2 hF f1 f2 f3 f4 f5 f6 f7 hn K Qh Qi Z2 Qd Z5 Z9 Qu Q0 Qz Zv Zx Zu Zy Zz Z4 Zs Zt Z8 Qt Qw Qv Qj Qq Q6 Q9;unfold J9 Xu;simp_all;done)|(symm;rw [←hR2];clear hR2 Q2 hF f1 f2 f3 f4 f5 f6 f7 hn K Qh Qi Z2 Qd Z5 Z9 Qu Q0 Qz Zv Zx Zu Zy Zz Z4 Zs Zt Z8 Qt Qw Qv Qj Qq Q6 Q9;unfold J9 Xu;simp_all;omega)|skip):p:=h
structure w397k:Prop
theorem w397k.k (_:w397k) {p:Prop} (h:p:=by
 repeat' first|exact Qg|with_reducible apply And.intro|intro _
 all_goals first|with_reducible exact Jf|omega|(symm;rw [←hR2];clear hR2 Q2 hF f1 f2 f3 f4 f5 f6 f7 hn K Qh Qi Z2 Qd Z5 Z9 Qu Q0 Qz Zv Zx Zu Zy Zz Z4 Zs Zt Z8 Qt Qw Qv Qj Qq Q6 Q9;unfold J9;simp_all;done)|(symm;rw [←hR2];clear hR2 Q2 hF f1 f2 f3 f4 f5 f6 f7 hn K Qh Qi Z2 Qd Z5 Z9 Qu Q0 Qz Zv Zx Zu Zy Zz Z4 Zs Zt Z8 Qt Qw Qv Qj Qq Q6 Q9;unfold J9 Xu;simp_all;done)|(symm;rw [←hR2];clear hR2 Q2 hF f1 f2 f3 f4 f5 f6 f7 hn K Qh Qi Z2 Qd Z5 Z9 Qu Q0 Qz Zv Zx Zu Zy Zz Z4 Zs Zt Z8 Qt Qw Qv Qj Qq Q6 Q9;unfold J9 Xu;simp_all;omega)|skip):p:=h
structure w398k:Prop
theorem w398k.k (_:w398k) {p:Prop} (h:p:=by
 repeat' first|exact Qg|with_reducible apply And.intro|intro _
 all_goals first|with_reducible exact Jf|omega|(symm;rw [←hR2];clear hR2 Q2 hF f1 f2 f3 f4 f5 f6 f7 hn K Qh Qi Z2 Qd Z5 Z9 Qu Q0 Qz Zv Zx Zu Zy Zz Z4 Zs Zt Z8 Qt Qw Qv Qj Qq Q6 Q9;unfold J9;simp_all;done)|(symm;rw [←hR2];clear hR2 Q2 hF f1 f2 f3 f4 f5 f6 f7 hn K Qh Qi Z2 Qd Z5 Z9 Qu Q0 Qz Zv Zx Zu Zy Zz Z4 Zs Zt Z8 Qt Qw Qv Qj Qq Q6 Q9;unfold J9 Xu;simp_all;done)|(symm;rw [←hR2];clear hR2 Q2 hF f1 f2 f3 f4 f5 f6 f7 hn K Qh Qi Z2 Qd Z5 Z9 Qu Q0 Qz Zv Zx Zu Zy Zz Z4 Zs Zt Z8 Qt Qw Qv Qj Qq Q6 Q9;unfold J9 Xu;simp_all;omega)|skip):p:=h
structure w399k:Prop
theorem w399k.k (_:w399k) {p:Prop} (h:p:=by
 repeat' first|exact Qg|with_reducible apply And.intro|intro _
 all_goals first|with_reducible exact Jf|omega|(symm;rw [←hR2];clear hR2 Q2 hF f1 f2 f3 f4 f5 f6 f7 hn K Qh Qi Z2 Qd Z5 Z9 Qu Q0 Qz Zv Zx Zu Zy Zz Z4 Zs Zt Z8 Qt Qw Qv Qj Qq Q6 Q9;unfold J9;simp_all;done)|(symm;rw [←hR2];clear hR2 Q2 hF f1 f2 f3 f4 f5 f6 f7 hn K Qh Qi Z2 Qd Z5 Z9 Qu Q0 Qz Zv Zx Zu Zy Zz Z4 Zs Zt Z8 Qt Qw Qv Qj Qq Q6 Q9;unfold J9 Xu;simp_all;done)|(symm;rw [←hR2];clear hR2 Q2 hF f1 f2 f3 f4 f5 f6 f7 hn K Qh Qi Z2 Qd Z5 Z9 Qu Q0 Qz Zv Zx Zu Zy Zz Z4 Zs Zt Z8 Qt Qw Qv Qj Qq Q6 Q9;unfold J9 Xu;simp_all;omega)|skip):p:=h
structure w400k:Prop
theorem w400k.k (_:w400k) {p:Prop} (h:p:=by
 repeat' first|exact Qg|with_reducible apply And.intro|intro _
 all_goals first|with_reducible exact Jf|omega|(symm;rw [←hR2];clear hR2 Q2 hF f1 f2 f3 f4 f5 f6 f7 hn K Qh Qi Z2 Qd Z5 Z9 Qu Q0 Qz Zv Zx Zu Zy Zz Z4 Zs Zt Z8 Qt Qw Qv Qj Qq Q6 Q9;unfold J9;simp_all;done)|(symm;rw [←hR2];clear hR2 Q2 hF f1 f2 f3 f4 f5 f6 f7 hn K Qh Qi Z2 Qd Z5 Z9 Qu Q0 Qz Zv Zx Zu Zy Zz Z4 Zs Zt Z8 Qt Qw Qv Qj Qq Q6 Q9;unfold J9 Xu;simp_all;done)|(symm;rw [←hR2];clear hR2 Q2 hF f1 f2 f3 f4 f5 f6 f7 hn K Qh Qi Z2 Qd Z5 Z9 Qu Q0 Qz Zv Zx Zu Zy Zz Z4 Zs Zt Z8 Qt Qw Qv Qj Qq Q6 Q9;unfold J9 Xu;simp_all;omega)|skip):p:=h
structure w401k:Prop
theorem w401k.k (_:w401k) {p:Prop} (h:p:=by
 repeat' first|exact Qg|with_reducible apply And.intro|intro _
 all_goals first|with_reducible exact Jf|omega|(symm;rw [←hR2];clear hR2 Q2 hF f1 f2 f3 f4 f5 f6 f7 hn K Qh Qi Z2 Qd Z5 Z9 Qu Q0 Qz Zv Zx Zu Zy Zz Z4 Zs Zt Z8 Qt Qw Qv Qj Qq Q6 Q9;unfold J9;simp_all;done)|(symm;rw [←hR2];clear hR2 Q2 hF f1 f2 f3 f4 f5 f6 f7 hn K Qh Qi Z2 Qd Z5 Z9 Qu Q0 Qz Zv Zx Zu Zy Zz Z4 Zs Zt Z8 Qt Qw Qv Qj Qq Q6 Q9;unfold J9 Xu;simp_all;done)|(symm;rw [←hR2];clear hR2 Q2 hF f1 f2 f3 f4 f5 f6 f7 hn K Qh Qi Z2 Qd Z5 Z9 Qu Q0 Qz Zv Zx Zu Zy Zz Z4 Zs Zt Z8 Qt Qw Qv Qj Qq Q6 Q9;unfold J9 Xu;simp_all;omega)|skip):p:=h
structure w402k:Prop
theorem w402k.k (_:w402k) {p:Prop} (h:p:=by
 repeat' first|exact Qg|with_reducible apply And.intro|intro _
 all_goals first|with_reducible exact Jf|omega|(symm;rw [←hR2];clear hR2 Q2 hF f1 f2 f3 f4 f5 f6 f7 hn K Qh Qi Z2 Qd Z5 Z9 Qu Q0 Qz Zv Zx Zu Zy Zz Z4 Zs Zt Z8 Qt Qw Qv Qj Qq Q6 Q9;unfold J9;simp_all;done)|(symm;rw [←hR2];clear hR2 Q2 hF f1 f2 f3 f4 f5 f6 f7 hn K Qh Qi Z2 Qd Z5 Z9 Qu Q0 Qz Zv Zx Zu Zy Zz Z4 Zs Zt Z8 Qt Qw Qv Qj Qq Q6 Q9;unfold J9 Xu;simp_all;done)|(symm;rw [←hR2];clear hR2 Q2 hF f1 f2 f3 f4 f5 f6 f7 hn K Qh Qi Z2 Qd Z5 Z9 Qu Q0 Qz Zv Zx Zu Zy Zz Z4 Zs Zt Z8 Qt Qw Qv Qj Qq Q6 Q9;unfold J9 Xu;simp_all;omega)|skip):p:=h
structure w403k:Prop
theorem w403k.k (_:w403k) {p:Prop} (h:p:=by
 repeat' first|exact Qg|with_reducible apply And.intro|intro _
 all_goals first|with_reducible exact Jf|omega|(symm;rw [←hR2];clear hR2 Q2 hF f1 f2 f3 f4 f5 f6 f7 hn K Qh Qi Z2 Qd Z5 Z9 Qu Q0 Qz Zv Zx Zu Zy Zz Z4 Zs Zt Z8 Qt Qw Qv Qj Qq Q6 Q9;unfold J9;simp_all;done)|(symm;rw [←hR2];clear hR2 Q2 hF f1 f2 f3 f4 f5 f6 f7 hn K Qh Qi Z2 Qd Z5 Z9 Qu Q0 Qz Zv Zx Zu Zy Zz Z4 Zs Zt Z8 Qt Qw Qv Qj Qq Q6 Q9;unfold J9 Xu;simp_all;done)|(symm;rw [←hR2];clear hR2 Q2 hF f1 f2 f3 f4 f5 f6 f7 hn K Qh Qi Z2 Qd Z5 Z9 Qu Q0 Qz Zv Zx Zu Zy Zz Z4 Zs Zt Z8 Qt Qw Qv Qj Qq Q6 Q9;unfold J9 Xu;simp_all;omega)|skip):p:=h
structure w404k:Prop
theorem w404k.k (_:w404k) {p:Prop} (h:p:=by
 repeat' first|exact Qg|with_reducible apply And.intro|intro _
 all_goals first|with_reducible exact Jf|omega|(symm;rw [←hR2];clear hR2 Q2 hF f1 f2 f3 f4 f5 f6 f7 hn K Qh Qi Z2 Qd Z5 Z9 Qu Q0 Qz Zv Zx Zu Zy Zz Z4 Zs Zt Z8 Qt Qw Qv Qj Qq Q6 Q9;unfold J9;simp_all;done)|(symm;rw [←hR2];clear hR2 Q2 hF f1 f2 f3 f4 f5 f6 f7 hn K Qh Qi Z2 Qd Z5 Z9 Qu Q0 Qz Zv Zx Zu Zy Zz Z4 Zs Zt Z8 Qt Qw Qv Qj Qq Q6 Q9;unfold J9 Xu;simp_all;done)|(symm;rw [←hR2];clear hR2 Q2 hF f1 f2 f3 f4 f5 f6 f7 hn K Qh Qi Z2 Qd Z5 Z9 Qu Q0 Qz Zv Zx Zu Zy Zz Z4 Zs Zt Z8 Qt Qw Qv Qj Qq Q6 Q9;unfold J9 Xu;simp_all;omega)|skip):p:=h
structure w405k:Prop
theorem w405k.k (_:w405k) {p:Prop} (h:p:=by
 repeat' first|exact Qg|with_reducible apply And.intro|intro _
 all_goals first|with_reducible exact Jf|omega|(symm;rw [←hR2];clear hR2 Q2 hF f1 f2 f3 f4 f5 f6 f7 hn K Qh Qi Z2 Qd Z5 Z9 Qu Q0 Qz Zv Zx Zu Zy Zz Z4 Zs Zt Z8 Qt Qw Qv Qj Qq Q6 Q9;unfold J9;simp_all;done)|(symm;rw [←hR2];clear hR2 Q2 hF f1 f2 f3 f4 f5 f6 f7 hn K Qh Qi Z2 Qd Z5 Z9 Qu Q0 Qz Zv Zx Zu Zy Zz Z4 Zs Zt Z8 Qt Qw Qv Qj Qq Q6 Q9;unfold J9 Xu;simp_all;done)|(symm;rw [←hR2];clear hR2 Q2 hF f1 f2 f3 f4 f5 f6 f7 hn K Qh Qi Z2 Qd Z5 Z9 Qu Q0 Qz Zv Zx Zu Zy Zz Z4 Zs Zt Z8 Qt Qw Qv Qj Qq Q6 Q9;unfold J9 Xu;simp_all;omega)|skip):p:=h
structure w406k:Prop
theorem w406k.k (_:w406k) {p:Prop} (h:p:=by
 repeat' first|exact Qg|with_reducible apply And.intro|intro _
 all_goals first|with_reducible exact Jf|omega|(symm;rw [←hR2];clear hR2 Q2 hF f1 f2 f3 f4 f5 f6 f7 hn K Qh Qi Z2 Qd Z5 Z9 Qu Q0 Qz Zv Zx Zu Zy Zz Z4 Zs Zt Z8 Qt Qw Qv Qj Qq Q6 Q9;unfold J9;simp_all;done)|(symm;rw [←hR2];clear hR2 Q2 hF f1 f2 f3 f4 f5 f6 f7 hn K Qh Qi Z2 Qd Z5 Z9 Qu Q0 Qz Zv Zx Zu Zy Zz Z4 Zs Zt Z8 Qt Qw Qv Qj Qq Q6 Q9;unfold J9 Xu;simp_all;done)|(symm;rw [←hR2];clear hR2 Q2 hF f1 f2 f3 f4 f5 f6 f7 hn K Qh Qi Z2 Qd Z5 Z9 Qu Q0 Qz Zv Zx Zu Zy Zz Z4 Zs Zt Z8 Qt Qw Qv Qj Qq Q6 Q9;unfold J9 Xu;simp_all;omega)|skip):p:=h
structure w407k:Prop
theorem w407k.k (_:w407k) {p:Prop} (h:p:=by
 repeat' first|exact Qg|with_reducible apply And.intro|intro _
 all_goals first|with_reducible exact Jf|omega|(symm;rw [←hR2];clear hR2 Q2 hF f1 f2 f3 f4 f5 f6 f7 hn K Qh Qi Z2 Qd Z5 Z9 Qu Q0 Qz Zv Zx Zu Zy Zz Z4 Zs Zt Z8 Qt Qw Qv Qj Qq Q6 Q9;unfold J9;simp_all;done)|(symm;rw [←hR2];clear hR2 Q2 hF f1 f2 f3 f4 f5 f6 f7 hn K Qh Qi Z2 Qd Z5 Z9 Qu Q0 Qz Zv Zx Zu Zy Zz Z4 Zs Zt Z8 Qt Qw Qv Qj Qq Q6 Q9;unfold J9 Xu;simp_all;done)|(symm;rw [←hR2];clear hR2 Q2 hF f1 f2 f3 f4 f5 f6 f7 hn K Qh Qi Z2 Qd Z5 Z9 Qu Q0 Qz Zv Zx Zu Zy Zz Z4 Zs Zt Z8 Qt Qw Qv Qj Qq Q6 Q9;unfold J9 Xu;simp_all;omega)|skip):p:=h
structure w408k:Prop
theorem w408k.k (_:w408k) {p:Prop} (h:p:=by
 repeat' first|exact Qg|with_reducible apply And.intro|intro _
 all_goals first|with_reducible exact Jf|omega|(symm;rw [←hR2];clear hR2 Q2 hF f1 f2 f3 f4 f5 f6 f7 hn K Qh Qi Z2 Qd Z5 Z9 Qu Q0 Qz Zv Zx Zu Zy Zz Z4 Zs Zt Z8 Qt Qw Qv Qj Qq Q6 Q9;unfold J9;simp_all;done)|(symm;rw [←hR2];clear hR2 Q2 hF f1 f2 f3 f4 f5 f6 f7 hn K Qh Qi Z2 Qd Z5 Z9 Qu Q0 Qz Zv Zx Zu Zy Zz Z4 Zs Zt Z8 Qt Qw Qv Qj Qq Q6 Q9;unfold J9 Xu;simp_all;done)|(symm;rw [←hR2];clear hR2 Q2 hF f1 f2 f3 f4 f5 f6 f7 hn K Qh Qi Z2 Qd Z5 Z9 Qu Q0 Qz Zv Zx Zu Zy Zz Z4 Zs Zt Z8 Qt Qw Qv Qj Qq Q6 Q9;unfold J9 Xu;simp_all;omega)|skip):p:=h
theorem good_uses5:Qr Tryz.prog (150,Rc):=by
 obtain ⟨Kx,Kt,Kc,Kd,Kb,Ku,Kw,K,Yj,Kv,P4,B6,D2,It,_⟩:=Wi Z3 Zn [] false (Ja good_IsTag1 fW (Ja good_IsWord1 Sa (Ja good_plain5 Df.eq_def (Ja good_literal5 Bq.eq_def (Ja good_name5 Rf.eq_def (Ja good_op5 fY.eq_def Wg))))));have Ko:=Rc.eq_def;refine Wh K Tryz.func150 [.tmp 2] rfl 275 rfl (fun c hc cvs hpre=>?_);unfold Rc at hpre;obtain ⟨p,rfl,hF,hn⟩:=J4 hpre;clear hpre;have hF2:=hF;obtain ⟨⟨f1,f2⟩,⟨f3,f4⟩,f5,f6,f7⟩:=hF2;obtain ⟨R,Q2⟩:=exq (D3 p);have hR2:=Q2;unfold D3 at hR2;obtain ⟨w,Qh⟩:=exq (Wo p.name);obtain ⟨tg,Qi⟩:=exq (Pg p.name);obtain ⟨b,Z2⟩:=exq (Wo p.bind);obtain ⟨t,Qd⟩:=exq (bS p.t);obtain ⟨u,Z5⟩:=exq (bS p.u);obtain ⟨li,Z9⟩:=exq (Ev p);obtain ⟨na,Qu⟩:=exq (Zdf p.name);obtain ⟨op,Q0⟩:=exq (Zqd p.name);rw [Qh,Qi,Z2,Qd,Z5,Z9,Qu,Q0] at hR2;cases hc;refine Ys 17 ?_;by_cases hc:p.kind=0
 ·have Qz:(p.kind==0)=true:=beq_iff_eq.2 hc;have Zv:(p.kind==1)=false:=beq_eq_false_iff_ne.2 (by omega)
  have Zx:(p.kind==2)=false:=beq_eq_false_iff_ne.2 (by omega)
  have Zu:(p.kind==3)=false:=beq_eq_false_iff_ne.2 (by omega)
  have Zy:(p.kind==4)=false:=beq_eq_false_iff_ne.2 (by omega)
  have Zz:(p.kind==5)=false:=beq_eq_false_iff_ne.2 (by omega)
  have Z4:(p.kind==6)=false:=beq_eq_false_iff_ne.2 (by omega)
  have Zs:(p.kind==7)=false:=beq_eq_false_iff_ne.2 (by omega)
  have Zt:(p.kind==8)=false:=beq_eq_false_iff_ne.2 (by omega)
  have Z8:(p.kind==9)=false:=beq_eq_false_iff_ne.2 (by omega)
  have Qt:(p.kind==10)=false:=beq_eq_false_iff_ne.2 (by omega)
  have Qw:(p.kind==11)=false:=beq_eq_false_iff_ne.2 (by omega)
  have Qv:(p.kind==12)=false:=beq_eq_false_iff_ne.2 (by omega)
  have Qj:(p.kind==13)=false:=beq_eq_false_iff_ne.2 (by omega)
  have Qq:(p.kind==14)=false:=beq_eq_false_iff_ne.2 (by omega)
  have Q6:(p.kind != 0)=false:=by rw [bne,Qz];rfl
  have Q9:(p.kind != 14)=true:=by rw [bne,Qq];rfl
  have Wb:=@Z0;have Xp:=@Z6;have X8:=@Z7;have X7:=@Qa;have X6:=@Mh;have Kq:w393k:=⟨⟩;exact Pc
 have c0:=hc;clear hc;by_cases hc:p.kind=1
 ·have Qz:(p.kind==0)=false:=beq_eq_false_iff_ne.2 (by omega)
  have Zv:(p.kind==1)=true:=beq_iff_eq.2 hc;have Zx:(p.kind==2)=false:=beq_eq_false_iff_ne.2 (by omega)
  have Zu:(p.kind==3)=false:=beq_eq_false_iff_ne.2 (by omega)
  have Zy:(p.kind==4)=false:=beq_eq_false_iff_ne.2 (by omega)
  have Zz:(p.kind==5)=false:=beq_eq_false_iff_ne.2 (by omega)
  have Z4:(p.kind==6)=false:=beq_eq_false_iff_ne.2 (by omega)
  have Zs:(p.kind==7)=false:=beq_eq_false_iff_ne.2 (by omega)
  have Zt:(p.kind==8)=false:=beq_eq_false_iff_ne.2 (by omega)
  have Z8:(p.kind==9)=false:=beq_eq_false_iff_ne.2 (by omega)
  have Qt:(p.kind==10)=false:=beq_eq_false_iff_ne.2 (by omega)
  have Qw:(p.kind==11)=false:=beq_eq_false_iff_ne.2 (by omega)
  have Qv:(p.kind==12)=false:=beq_eq_false_iff_ne.2 (by omega)
  have Qj:(p.kind==13)=false:=beq_eq_false_iff_ne.2 (by omega)
  have Qq:(p.kind==14)=false:=beq_eq_false_iff_ne.2 (by omega)
  have Q6:(p.kind != 0)=true:=by rw [bne,Qz];rfl
  have Q9:(p.kind != 14)=true:=by rw [bne,Qq];rfl
  have Wb:=@Z0;have Xp:=@Z6;have X8:=@Z7;have X7:=@Qa;have X6:=@Mh;have Kq:w394k:=⟨⟩;exact Pc
 have c1:=hc;clear hc;by_cases hc:p.kind=2
 ·have Qz:(p.kind==0)=false:=beq_eq_false_iff_ne.2 (by omega)
  have Zv:(p.kind==1)=false:=beq_eq_false_iff_ne.2 (by omega)
  have Zx:(p.kind==2)=true:=beq_iff_eq.2 hc;have Zu:(p.kind==3)=false:=beq_eq_false_iff_ne.2 (by omega)
  have Zy:(p.kind==4)=false:=beq_eq_false_iff_ne.2 (by omega)
  have Zz:(p.kind==5)=false:=beq_eq_false_iff_ne.2 (by omega)
  have Z4:(p.kind==6)=false:=beq_eq_false_iff_ne.2 (by omega)
  have Zs:(p.kind==7)=false:=beq_eq_false_iff_ne.2 (by omega)
  have Zt:(p.kind==8)=false:=beq_eq_false_iff_ne.2 (by omega)
  have Z8:(p.kind==9)=false:=beq_eq_false_iff_ne.2 (by omega)
  have Qt:(p.kind==10)=false:=beq_eq_false_iff_ne.2 (by omega)
  have Qw:(p.kind==11)=false:=beq_eq_false_iff_ne.2 (by omega)
  have Qv:(p.kind==12)=false:=beq_eq_false_iff_ne.2 (by omega)
  have Qj:(p.kind==13)=false:=beq_eq_false_iff_ne.2 (by omega)
  have Qq:(p.kind==14)=false:=beq_eq_false_iff_ne.2 (by omega)
  have Q6:(p.kind != 0)=true:=by rw [bne,Qz];rfl
  have Q9:(p.kind != 14)=true:=by rw [bne,Qq];rfl
  have Wb:=@Z0;have Xp:=@Z6;have X8:=@Z7;have X7:=@Qa;have X6:=@Mh;have Kq:w395k:=⟨⟩;exact Pc
 have c2:=hc;clear hc;by_cases hc:p.kind=3
 ·have Qz:(p.kind==0)=false:=beq_eq_false_iff_ne.2 (by omega)
  have Zv:(p.kind==1)=false:=beq_eq_false_iff_ne.2 (by omega)
  have Zx:(p.kind==2)=false:=beq_eq_false_iff_ne.2 (by omega)
  have Zu:(p.kind==3)=true:=beq_iff_eq.2 hc;have Zy:(p.kind==4)=false:=beq_eq_false_iff_ne.2 (by omega)
  have Zz:(p.kind==5)=false:=beq_eq_false_iff_ne.2 (by omega)
  have Z4:(p.kind==6)=false:=beq_eq_false_iff_ne.2 (by omega)
  have Zs:(p.kind==7)=false:=beq_eq_false_iff_ne.2 (by omega)
  have Zt:(p.kind==8)=false:=beq_eq_false_iff_ne.2 (by omega)
  have Z8:(p.kind==9)=false:=beq_eq_false_iff_ne.2 (by omega)
  have Qt:(p.kind==10)=false:=beq_eq_false_iff_ne.2 (by omega)
  have Qw:(p.kind==11)=false:=beq_eq_false_iff_ne.2 (by omega)
  have Qv:(p.kind==12)=false:=beq_eq_false_iff_ne.2 (by omega)
  have Qj:(p.kind==13)=false:=beq_eq_false_iff_ne.2 (by omega)
  have Qq:(p.kind==14)=false:=beq_eq_false_iff_ne.2 (by omega)
  have Q6:(p.kind != 0)=true:=by rw [bne,Qz];rfl
  have Q9:(p.kind != 14)=true:=by rw [bne,Qq];rfl
  have Wb:=@Z0;have Xp:=@Z6;have X8:=@Z7;have X7:=@Qa;have X6:=@Mh;have Kq:w396k:=⟨⟩;exact Pc
 have c3:=hc;clear hc;by_cases hc:p.kind=4
 ·have Qz:(p.kind==0)=false:=beq_eq_false_iff_ne.2 (by omega)
  have Zv:(p.kind==1)=false:=beq_eq_false_iff_ne.2 (by omega)
  have Zx:(p.kind==2)=false:=beq_eq_false_iff_ne.2 (by omega)
  have Zu:(p.kind==3)=false:=beq_eq_false_iff_ne.2 (by omega)
  have Zy:(p.kind==4)=true:=beq_iff_eq.2 hc;have Zz:(p.kind==5)=false:=beq_eq_false_iff_ne.2 (by omega)
  have Z4:(p.kind==6)=false:=beq_eq_false_iff_ne.2 (by omega)
  have Zs:(p.kind==7)=false:=beq_eq_false_iff_ne.2 (by omega)
  have Zt:(p.kind==8)=false:=beq_eq_false_iff_ne.2 (by omega)
  have Z8:(p.kind==9)=false:=beq_eq_false_iff_ne.2 (by omega)
  have Qt:(p.kind==10)=false:=beq_eq_false_iff_ne.2 (by omega)
  have Qw:(p.kind==11)=false:=beq_eq_false_iff_ne.2 (by omega)
  have Qv:(p.kind==12)=false:=beq_eq_false_iff_ne.2 (by omega)
  have Qj:(p.kind==13)=false:=beq_eq_false_iff_ne.2 (by omega)
  have Qq:(p.kind==14)=false:=beq_eq_false_iff_ne.2 (by omega)
  have Q6:(p.kind != 0)=true:=by rw [bne,Qz];rfl
  have Q9:(p.kind != 14)=true:=by rw [bne,Qq];rfl
  have Wb:=@Z0;have Xp:=@Z6;have X8:=@Z7;have X7:=@Qa;have X6:=@Mh;have Kq:w397k:=⟨⟩;exact Pc
 have c4:=hc;clear hc;by_cases hc:p.kind=5
 ·have Qz:(p.kind==0)=false:=beq_eq_false_iff_ne.2 (by omega)
  have Zv:(p.kind==1)=false:=beq_eq_false_iff_ne.2 (by omega)
  have Zx:(p.kind==2)=false:=beq_eq_false_iff_ne.2 (by omega)
  have Zu:(p.kind==3)=false:=beq_eq_false_iff_ne.2 (by omega)
  have Zy:(p.kind==4)=false:=beq_eq_false_iff_ne.2 (by omega)
  have Zz:(p.kind==5)=true:=beq_iff_eq.2 hc;have Z4:(p.kind==6)=false:=beq_eq_false_iff_ne.2 (by omega)
  have Zs:(p.kind==7)=false:=beq_eq_false_iff_ne.2 (by omega)
  have Zt:(p.kind==8)=false:=beq_eq_false_iff_ne.2 (by omega)
  have Z8:(p.kind==9)=false:=beq_eq_false_iff_ne.2 (by omega)
  have Qt:(p.kind==10)=false:=beq_eq_false_iff_ne.2 (by omega)
  have Qw:(p.kind==11)=false:=beq_eq_false_iff_ne.2 (by omega)
  have Qv:(p.kind==12)=false:=beq_eq_false_iff_ne.2 (by omega)
  have Qj:(p.kind==13)=false:=beq_eq_false_iff_ne.2 (by omega)
  have Qq:(p.kind==14)=false:=beq_eq_false_iff_ne.2 (by omega)
  have Q6:(p.kind != 0)=true:=by rw [bne,Qz];rfl
  have Q9:(p.kind != 14)=true:=by rw [bne,Qq];rfl
  have Wb:=@Z0;have Xp:=@Z6;have X8:=@Z7;have X7:=@Qa;have X6:=@Mh;have Kq:w398k:=⟨⟩;exact Pc
 have c5:=hc;clear hc;by_cases hc:p.kind=6
 ·have Qz:(p.kind==0)=false:=beq_eq_false_iff_ne.2 (by omega)
  have Zv:(p.kind==1)=false:=beq_eq_false_iff_ne.2 (by omega)
  have Zx:(p.kind==2)=false:=beq_eq_false_iff_ne.2 (by omega)
  have Zu:(p.kind==3)=false:=beq_eq_false_iff_ne.2 (by omega)
  have Zy:(p.kind==4)=false:=beq_eq_false_iff_ne.2 (by omega)
  have Zz:(p.kind==5)=false:=beq_eq_false_iff_ne.2 (by omega)
  have Z4:(p.kind==6)=true:=beq_iff_eq.2 hc;have Zs:(p.kind==7)=false:=beq_eq_false_iff_ne.2 (by omega)
  have Zt:(p.kind==8)=false:=beq_eq_false_iff_ne.2 (by omega)
  have Z8:(p.kind==9)=false:=beq_eq_false_iff_ne.2 (by omega)
  have Qt:(p.kind==10)=false:=beq_eq_false_iff_ne.2 (by omega)
  have Qw:(p.kind==11)=false:=beq_eq_false_iff_ne.2 (by omega)
  have Qv:(p.kind==12)=false:=beq_eq_false_iff_ne.2 (by omega)
  have Qj:(p.kind==13)=false:=beq_eq_false_iff_ne.2 (by omega)
  have Qq:(p.kind==14)=false:=beq_eq_false_iff_ne.2 (by omega)
  have Q6:(p.kind != 0)=true:=by rw [bne,Qz];rfl
  have Q9:(p.kind != 14)=true:=by rw [bne,Qq];rfl
  have Wb:=@Z0;have Xp:=@Z6;have X8:=@Z7;have X7:=@Qa;have X6:=@Mh;have Kq:w399k:=⟨⟩;exact Pc
 have c6:=hc;clear hc;by_cases hc:p.kind=7
 ·have Qz:(p.kind==0)=false:=beq_eq_false_iff_ne.2 (by omega)
  have Zv:(p.kind==1)=false:=beq_eq_false_iff_ne.2 (by omega)
  have Zx:(p.kind==2)=false:=beq_eq_false_iff_ne.2 (by omega)
  have Zu:(p.kind==3)=false:=beq_eq_false_iff_ne.2 (by omega)
  have Zy:(p.kind==4)=false:=beq_eq_false_iff_ne.2 (by omega)
  have Zz:(p.kind==5)=false:=beq_eq_false_iff_ne.2 (by omega)
  have Z4:(p.kind==6)=false:=beq_eq_false_iff_ne.2 (by omega)
  have Zs:(p.kind==7)=true:=beq_iff_eq.2 hc;have Zt:(p.kind==8)=false:=beq_eq_false_iff_ne.2 (by omega)
  have Z8:(p.kind==9)=false:=beq_eq_false_iff_ne.2 (by omega)
  have Qt:(p.kind==10)=false:=beq_eq_false_iff_ne.2 (by omega)
  have Qw:(p.kind==11)=false:=beq_eq_false_iff_ne.2 (by omega)
  have Qv:(p.kind==12)=false:=beq_eq_false_iff_ne.2 (by omega)
  have Qj:(p.kind==13)=false:=beq_eq_false_iff_ne.2 (by omega)
  have Qq:(p.kind==14)=false:=beq_eq_false_iff_ne.2 (by omega)
  have Q6:(p.kind != 0)=true:=by rw [bne,Qz];rfl
  have Q9:(p.kind != 14)=true:=by rw [bne,Qq];rfl
  have Wb:=@Z0;have Xp:=@Z6;have X8:=@Z7;have X7:=@Qa;have X6:=@Mh;have Kq:w400k:=⟨⟩;exact Pc
 have c7:=hc;clear hc;by_cases hc:p.kind=8
 ·have Qz:(p.kind==0)=false:=beq_eq_false_iff_ne.2 (by omega)
  have Zv:(p.kind==1)=false:=beq_eq_false_iff_ne.2 (by omega)
  have Zx:(p.kind==2)=false:=beq_eq_false_iff_ne.2 (by omega)
  have Zu:(p.kind==3)=false:=beq_eq_false_iff_ne.2 (by omega)
  have Zy:(p.kind==4)=false:=beq_eq_false_iff_ne.2 (by omega)
  have Zz:(p.kind==5)=false:=beq_eq_false_iff_ne.2 (by omega)
  have Z4:(p.kind==6)=false:=beq_eq_false_iff_ne.2 (by omega)
  have Zs:(p.kind==7)=false:=beq_eq_false_iff_ne.2 (by omega)
  have Zt:(p.kind==8)=true:=beq_iff_eq.2 hc;have Z8:(p.kind==9)=false:=beq_eq_false_iff_ne.2 (by omega)
  have Qt:(p.kind==10)=false:=beq_eq_false_iff_ne.2 (by omega)
  have Qw:(p.kind==11)=false:=beq_eq_false_iff_ne.2 (by omega)
  have Qv:(p.kind==12)=false:=beq_eq_false_iff_ne.2 (by omega)
  have Qj:(p.kind==13)=false:=beq_eq_false_iff_ne.2 (by omega)
  have Qq:(p.kind==14)=false:=beq_eq_false_iff_ne.2 (by omega)
  have Q6:(p.kind != 0)=true:=by rw [bne,Qz];rfl
  have Q9:(p.kind != 14)=true:=by rw [bne,Qq];rfl
  have Wb:=@Z0;have Xp:=@Z6;have X8:=@Z7;have X7:=@Qa;have X6:=@Mh;have Kq:w401k:=⟨⟩;exact Pc
 have c8:=hc;clear hc;by_cases hc:p.kind=9
 ·have Qz:(p.kind==0)=false:=beq_eq_false_iff_ne.2 (by omega)
  have Zv:(p.kind==1)=false:=beq_eq_false_iff_ne.2 (by omega)
  have Zx:(p.kind==2)=false:=beq_eq_false_iff_ne.2 (by omega)
  have Zu:(p.kind==3)=false:=beq_eq_false_iff_ne.2 (by omega)
  have Zy:(p.kind==4)=false:=beq_eq_false_iff_ne.2 (by omega)
  have Zz:(p.kind==5)=false:=beq_eq_false_iff_ne.2 (by omega)
  have Z4:(p.kind==6)=false:=beq_eq_false_iff_ne.2 (by omega)
  have Zs:(p.kind==7)=false:=beq_eq_false_iff_ne.2 (by omega)
  have Zt:(p.kind==8)=false:=beq_eq_false_iff_ne.2 (by omega)
  have Z8:(p.kind==9)=true:=beq_iff_eq.2 hc;have Qt:(p.kind==10)=false:=beq_eq_false_iff_ne.2 (by omega)
  have Qw:(p.kind==11)=false:=beq_eq_false_iff_ne.2 (by omega)
  have Qv:(p.kind==12)=false:=beq_eq_false_iff_ne.2 (by omega)
  have Qj:(p.kind==13)=false:=beq_eq_false_iff_ne.2 (by omega)
  have Qq:(p.kind==14)=false:=beq_eq_false_iff_ne.2 (by omega)
  have Q6:(p.kind != 0)=true:=by rw [bne,Qz];rfl
  have Q9:(p.kind != 14)=true:=by rw [bne,Qq];rfl
  have Wb:=@Z0;have Xp:=@Z6;have X8:=@Z7;have X7:=@Qa;have X6:=@Mh;have Kq:w402k:=⟨⟩;exact Pc
 have c9:=hc;clear hc;by_cases hc:p.kind=10
 ·have Qz:(p.kind==0)=false:=beq_eq_false_iff_ne.2 (by omega)
  have Zv:(p.kind==1)=false:=beq_eq_false_iff_ne.2 (by omega)
  have Zx:(p.kind==2)=false:=beq_eq_false_iff_ne.2 (by omega)
  have Zu:(p.kind==3)=false:=beq_eq_false_iff_ne.2 (by omega)
  have Zy:(p.kind==4)=false:=beq_eq_false_iff_ne.2 (by omega)
  have Zz:(p.kind==5)=false:=beq_eq_false_iff_ne.2 (by omega)
  have Z4:(p.kind==6)=false:=beq_eq_false_iff_ne.2 (by omega)
  have Zs:(p.kind==7)=false:=beq_eq_false_iff_ne.2 (by omega)
  have Zt:(p.kind==8)=false:=beq_eq_false_iff_ne.2 (by omega)
  have Z8:(p.kind==9)=false:=beq_eq_false_iff_ne.2 (by omega)
  have Qt:(p.kind==10)=true:=beq_iff_eq.2 hc;have Qw:(p.kind==11)=false:=beq_eq_false_iff_ne.2 (by omega)
  have Qv:(p.kind==12)=false:=beq_eq_false_iff_ne.2 (by omega)
  have Qj:(p.kind==13)=false:=beq_eq_false_iff_ne.2 (by omega)
  have Qq:(p.kind==14)=false:=beq_eq_false_iff_ne.2 (by omega)
  have Q6:(p.kind != 0)=true:=by rw [bne,Qz];rfl
  have Q9:(p.kind != 14)=true:=by rw [bne,Qq];rfl
  have Wb:=@Z0;have Xp:=@Z6;have X8:=@Z7;have X7:=@Qa;have X6:=@Mh;have Kq:w403k:=⟨⟩;exact Pc
 have c10:=hc;clear hc;by_cases hc:p.kind=11
 ·have Qz:(p.kind==0)=false:=beq_eq_false_iff_ne.2 (by omega)
  have Zv:(p.kind==1)=false:=beq_eq_false_iff_ne.2 (by omega)
  have Zx:(p.kind==2)=false:=beq_eq_false_iff_ne.2 (by omega)
  have Zu:(p.kind==3)=false:=beq_eq_false_iff_ne.2 (by omega)
  have Zy:(p.kind==4)=false:=beq_eq_false_iff_ne.2 (by omega)
  have Zz:(p.kind==5)=false:=beq_eq_false_iff_ne.2 (by omega)
  have Z4:(p.kind==6)=false:=beq_eq_false_iff_ne.2 (by omega)
  have Zs:(p.kind==7)=false:=beq_eq_false_iff_ne.2 (by omega)
  have Zt:(p.kind==8)=false:=beq_eq_false_iff_ne.2 (by omega)
  have Z8:(p.kind==9)=false:=beq_eq_false_iff_ne.2 (by omega)
  have Qt:(p.kind==10)=false:=beq_eq_false_iff_ne.2 (by omega)
  have Qw:(p.kind==11)=true:=beq_iff_eq.2 hc;have Qv:(p.kind==12)=false:=beq_eq_false_iff_ne.2 (by omega)
  have Qj:(p.kind==13)=false:=beq_eq_false_iff_ne.2 (by omega)
  have Qq:(p.kind==14)=false:=beq_eq_false_iff_ne.2 (by omega)
  have Q6:(p.kind != 0)=true:=by rw [bne,Qz];rfl
  have Q9:(p.kind != 14)=true:=by rw [bne,Qq];rfl
  have Wb:=@Z0;have Xp:=@Z6;have X8:=@Z7;have X7:=@Qa;have X6:=@Mh;have Kq:w404k:=⟨⟩;exact Pc
 have c11:=hc;clear hc;by_cases hc:p.kind=12
 ·have Qz:(p.kind==0)=false:=beq_eq_false_iff_ne.2 (by omega)
  have Zv:(p.kind==1)=false:=beq_eq_false_iff_ne.2 (by omega)
  have Zx:(p.kind==2)=false:=beq_eq_false_iff_ne.2 (by omega)
  have Zu:(p.kind==3)=false:=beq_eq_false_iff_ne.2 (by omega)
  have Zy:(p.kind==4)=false:=beq_eq_false_iff_ne.2 (by omega)
  have Zz:(p.kind==5)=false:=beq_eq_false_iff_ne.2 (by omega)
  have Z4:(p.kind==6)=false:=beq_eq_false_iff_ne.2 (by omega)
  have Zs:(p.kind==7)=false:=beq_eq_false_iff_ne.2 (by omega)
  have Zt:(p.kind==8)=false:=beq_eq_false_iff_ne.2 (by omega)
  have Z8:(p.kind==9)=false:=beq_eq_false_iff_ne.2 (by omega)
  have Qt:(p.kind==10)=false:=beq_eq_false_iff_ne.2 (by omega)
  have Qw:(p.kind==11)=false:=beq_eq_false_iff_ne.2 (by omega)
  have Qv:(p.kind==12)=true:=beq_iff_eq.2 hc;have Qj:(p.kind==13)=false:=beq_eq_false_iff_ne.2 (by omega)
  have Qq:(p.kind==14)=false:=beq_eq_false_iff_ne.2 (by omega)
  have Q6:(p.kind != 0)=true:=by rw [bne,Qz];rfl
  have Q9:(p.kind != 14)=true:=by rw [bne,Qq];rfl
  have Wb:=@Z0;have Xp:=@Z6;have X8:=@Z7;have X7:=@Qa;have X6:=@Mh;have Kq:w405k:=⟨⟩;exact Pc
 have c12:=hc;clear hc;by_cases hc:p.kind=13
 ·have Qz:(p.kind==0)=false:=beq_eq_false_iff_ne.2 (by omega)
  have Zv:(p.kind==1)=false:=beq_eq_false_iff_ne.2 (by omega)
  have Zx:(p.kind==2)=false:=beq_eq_false_iff_ne.2 (by omega)
  have Zu:(p.kind==3)=false:=beq_eq_false_iff_ne.2 (by omega)
  have Zy:(p.kind==4)=false:=beq_eq_false_iff_ne.2 (by omega)
  have Zz:(p.kind==5)=false:=beq_eq_false_iff_ne.2 (by omega)
  have Z4:(p.kind==6)=false:=beq_eq_false_iff_ne.2 (by omega)
  have Zs:(p.kind==7)=false:=beq_eq_false_iff_ne.2 (by omega)
  have Zt:(p.kind==8)=false:=beq_eq_false_iff_ne.2 (by omega)
  have Z8:(p.kind==9)=false:=beq_eq_false_iff_ne.2 (by omega)
  have Qt:(p.kind==10)=false:=beq_eq_false_iff_ne.2 (by omega)
  have Qw:(p.kind==11)=false:=beq_eq_false_iff_ne.2 (by omega)
  have Qv:(p.kind==12)=false:=beq_eq_false_iff_ne.2 (by omega)
  have Qj:(p.kind==13)=true:=beq_iff_eq.2 hc;have Qq:(p.kind==14)=false:=beq_eq_false_iff_ne.2 (by omega)
  have Q6:(p.kind != 0)=true:=by rw [bne,Qz];rfl
  have Q9:(p.kind != 14)=true:=by rw [bne,Qq];rfl
  have Wb:=@Z0;have Xp:=@Z6;have X8:=@Z7;have X7:=@Qa;have X6:=@Mh;have Kq:w406k:=⟨⟩;exact Pc
 have c13:=hc;clear hc;by_cases hc:p.kind=14
 ·have Qz:(p.kind==0)=false:=beq_eq_false_iff_ne.2 (by omega)
  have Zv:(p.kind==1)=false:=beq_eq_false_iff_ne.2 (by omega)
  have Zx:(p.kind==2)=false:=beq_eq_false_iff_ne.2 (by omega)
  have Zu:(p.kind==3)=false:=beq_eq_false_iff_ne.2 (by omega)
  have Zy:(p.kind==4)=false:=beq_eq_false_iff_ne.2 (by omega)
  have Zz:(p.kind==5)=false:=beq_eq_false_iff_ne.2 (by omega)
  have Z4:(p.kind==6)=false:=beq_eq_false_iff_ne.2 (by omega)
  have Zs:(p.kind==7)=false:=beq_eq_false_iff_ne.2 (by omega)
  have Zt:(p.kind==8)=false:=beq_eq_false_iff_ne.2 (by omega)
  have Z8:(p.kind==9)=false:=beq_eq_false_iff_ne.2 (by omega)
  have Qt:(p.kind==10)=false:=beq_eq_false_iff_ne.2 (by omega)
  have Qw:(p.kind==11)=false:=beq_eq_false_iff_ne.2 (by omega)
  have Qv:(p.kind==12)=false:=beq_eq_false_iff_ne.2 (by omega)
  have Qj:(p.kind==13)=false:=beq_eq_false_iff_ne.2 (by omega)
  have Qq:(p.kind==14)=true:=beq_iff_eq.2 hc;have Q6:(p.kind != 0)=true:=by rw [bne,Qz];rfl
  have Q9:(p.kind != 14)=false:=by rw [bne,Qq];rfl
  have Wb:=@Z0;have Xp:=@Z6;have X8:=@Z7;have X7:=@Qa;have X6:=@Mh;have Kq:w407k:=⟨⟩;exact Pc
 have c14:=hc;clear hc;have Qz:(p.kind==0)=false:=beq_eq_false_iff_ne.2 (by omega)
 have Zv:(p.kind==1)=false:=beq_eq_false_iff_ne.2 (by omega)
 have Zx:(p.kind==2)=false:=beq_eq_false_iff_ne.2 (by omega)
 have Zu:(p.kind==3)=false:=beq_eq_false_iff_ne.2 (by omega)
 have Zy:(p.kind==4)=false:=beq_eq_false_iff_ne.2 (by omega)
 have Zz:(p.kind==5)=false:=beq_eq_false_iff_ne.2 (by omega)
 have Z4:(p.kind==6)=false:=beq_eq_false_iff_ne.2 (by omega)
 have Zs:(p.kind==7)=false:=beq_eq_false_iff_ne.2 (by omega)
 have Zt:(p.kind==8)=false:=beq_eq_false_iff_ne.2 (by omega)
 have Z8:(p.kind==9)=false:=beq_eq_false_iff_ne.2 (by omega)
 have Qt:(p.kind==10)=false:=beq_eq_false_iff_ne.2 (by omega)
 have Qw:(p.kind==11)=false:=beq_eq_false_iff_ne.2 (by omega)
 have Qv:(p.kind==12)=false:=beq_eq_false_iff_ne.2 (by omega)
 have Qj:(p.kind==13)=false:=beq_eq_false_iff_ne.2 (by omega)
 have Qq:(p.kind==14)=false:=beq_eq_false_iff_ne.2 (by omega)
 have Q6:(p.kind != 0)=true:=by rw [bne,Qz];rfl
 have Q9:(p.kind != 14)=true:=by rw [bne,Qq];rfl
 have Wb:=@Z0;have Xp:=@Z6;have X8:=@Z7;have X7:=@Qa;have X6:=@Mh;have Kq:w408k:=⟨⟩;exact Pc
def yZ:List Part→List Int→Bool
 | [],_=>true
 | n::l,rs=>if 100≤rs.length then false else yZ l (Eb (Uo n) rs)
def I0 (t:List Part):Bool:=yZ t []
def Znk (rs:List Int):Prop:=(∀ x∈rs,0≤x∧x≤60)∧∀ x∈rs.tail,1≤x
def Bm:Con:=Xy (fun (t:Sl Part)=>Zan t.l) (fun t=>I0 t.l)
structure w411k:Prop
theorem w411k.k (_:w411k) {p:Prop} (h:p:=by
 repeat' first|exact Qg|with_reducible apply And.intro|intro _
 simp only [Ziz] at g4;exact ⟨(k+1,[]),by exact Qy,by simp only;omega,by simp,by simp,by simp only;rw [←h4,e1,g4],by simp only;omega⟩):p:=h
structure w412k:Prop
theorem w412k.k (_:w412k) {p:Prop} (h:p:=by
 repeat' first|exact Qg|with_reducible apply And.intro|intro _
 exact ⟨[],by exact Qy,⟨by simp,by simp⟩,by simp,by rw [←g4];rfl,by simp⟩):p:=h
structure w413k:Prop
theorem w413k.k (_:w413k) {p:Prop} (h:p:=by
 repeat' first|exact Qg|with_reducible apply And.intro|intro _
 refine ⟨(y-1)::r,by exact Qy,⟨fun z Z2=>?_,fun z Z2=>g2 z (List.mem_cons_of_mem _ Z2)⟩,by simp only [Zi];omega,by rw [←g4];simp only [Ziz,Eb,if_true],by simp only [Zi];omega⟩
 rcases List.mem_cons.1 Z2 with rfl|Z2
 ·omega
 ·exact g1 z (List.mem_cons_of_mem _ (List.mem_cons_of_mem _ Z2))):p:=h
structure w414k:Prop
theorem w414k.k (_:w414k) {p:Prop} (h:p:=by
 repeat' first|exact Qg|with_reducible apply And.intro|intro _
 have e3:Eb M rs=x::r:=by rw [←g4];exact Fq hx0
 refine ⟨(k+1,x::r),by exact Qy,by simp only;omega,by simp only [Zi];omega,fun z Z2=>?_,by simp only;rw [←h4,e1,e3],by simp only;omega⟩
 rcases List.mem_cons.1 Z2 with rfl|Z2
 ·omega
 ·exact ⟨g2 z Z2,(g1 z (List.mem_cons_of_mem _ Z2)).2⟩):p:=h
structure w410k:Prop
theorem w410k.k (_:w410k) {p:Prop} (h:p:=by
 revert e1 hmk;generalize Uo (t.getD k e0)=M;intro hmk e1;repeat' first|exact Qg|with_reducible apply And.intro|intro _
 ·rw [if_pos (by omega)] at e1
  rw [←h4,e1]
 ·rw [if_neg (by omega)] at e1
  have e2:rs.reverse++[M]=(M::rs).reverse:=by simp
  have hS:∀ (q:List Int),q≠[]→((q.length:Nat):Int)-1=((q.length-1:Nat):Int):=by
   intro q hq;have:=List.length_pos_iff.2 hq;omega
  refine Zh [23,24,25,26,27,28,29,30,31,32,33,34,35,36,37,38,39,40,41,42,43,44,45,46,47,48,49,50] (fun q:List Int=>[(3,.sl 5 (q.reverse.map enc).length),(5,.dead),(12,.dead),(15,.dead),(22,.dead)]) (fun q:List Int=>[(5,.row 1 (q.reverse.map enc) 0)]) (fun q:List Int=>Znk q∧q.length≤101∧Ziz q=Eb M rs) (fun q:List Int=>q.length) (M::rs) ?_ ?_ ?_
  ·refine ⟨⟨fun x hx=>?_,fun x hx=>(h3 x hx).1⟩,by simp only [Zi];omega,rfl⟩
   rcases List.mem_cons.1 hx with rfl|hx
   ·exact hmk
   ·have:=h3 x hx;omega
  ·exact Qy
  rintro q ⟨⟨g1,g2⟩,g3,g4⟩;cases q with
  | nil =>
   have Z2:Yr 0 ((0:Nat):Int)=false:=rfl;have Zx:=@List.length_reverse.{0};have Zu:=@List.reverse_nil.{0};have Zy:=@Z0;have Zz:=@Z6;have Z4:=@Z7;have Zs:=@Qa;have Zt:=@Mh;have Kq:w411k:=⟨⟩;exact Pc
  | cons x r =>
   have Z2:Yr 0 ((r.length+1:Nat):Int)=true:=by rw [Jw];omega
   have Qd:((r.length+1:Nat):Int)-1=(r.length:Int):=by omega
   have hx1:=g1 x (by simp)
   have Z5:el (List.map enc (x::r).reverse) r.length=.int .i64 x:=I6;have Z9:List.take r.length (List.map (enc:Int→D) (x::r).reverse)=List.map enc r.reverse:=Zcu;simp only [Zi] at g3;by_cases hx0:x=0
   ·subst hx0;cases r with
    | nil =>
     have Qu:Yr 0 ((0:Nat):Int)=false:=rfl;simp only [List.length_nil] at Z2 Qd Z5 Z9;have Zx:=@List.length_reverse.{0};have Zu:=@List.reverse_nil.{0};have Zy:=@Z0;have Zz:=@Z6;have Z4:=@Z7;have Zs:=@Qa;have Zt:=@Mh;have Kq:w412k:=⟨⟩;exact Pc
    | cons y r =>
     have hy1:=g2 y (by simp)
     have hy2:=g1 y (by simp)
     have Q0:Yr 0 ((r.length+1:Nat):Int)=true:=by rw [Jw];omega
     have Q2:((r.length+1:Nat):Int)-1=(r.length:Int):=by omega
     have Qz:el (List.map enc (y::r).reverse) r.length=.int .i64 y:=I6;simp only [Zi] at Z2 Qd Z5 Z9 g3;have Zx:=@List.length_reverse.{0};have Zu:=@Z0;have Zy:=@Z6;have Zz:=@Z7;have Z4:=@Qa;have Zs:=@Mh;have Kq:w413k:=⟨⟩;exact Pc
   ·have Zv:(x==(0:Int))=false:=by simpa using hx0
    have Zx:=@List.length_reverse.{0};have Zu:=@Z0;have Zy:=@Z6;have Zz:=@Z7;have Z4:=@Qa;have Zs:=@Mh;have Kq:w414k:=⟨⟩;exact Pc):p:=h
structure w415k:Prop
theorem w415k.k (_:w415k) {p:Prop} (h:p:=by
 rw [←h4,List.drop_eq_nil_of_le hlt];rfl):p:=h
structure w409k:Prop
theorem w409k.k (_:w409k) {p:Prop} (h:p:=by
 refine Zh [2,6,7,8,9,10,11,12,13,14,15,16,17,18,19,20,21,22,23,24,25,26,27,28,29,30,31,32,33,34,35,36,37,38,39,40,41,42,43,44,45,46,47,48,49,50] (fun p:Nat×List Int=>[(3,.sl 5 (p.2.reverse.map enc).length),(4,.d (.int .i64 p.1)),(5,.dead)]) (fun p:Nat×List Int=>[(5,.row 1 (p.2.reverse.map enc) 0)]) (fun p:Nat×List Int=>p.1≤t.length∧p.2.length≤101∧(∀ x∈p.2,1≤x∧x≤60)∧yZ (t.drop p.1) p.2=I0 t) (fun p:Nat×List Int=>t.length-p.1) (0,[]) ?_ ?_ ?_
 ·exact ⟨Nat.zero_le _,by simp,by simp,rfl⟩
 ·exact Qy
 rintro ⟨k,rs⟩ ⟨h1,h2,h3,h4⟩;simp only at h1 h2 h3 h4;rcases Zl k t.length with ⟨hlt,Qh⟩|⟨hlt,Qh⟩
 ·have hmk3:=(hm (t.getD k e0) (by simp [hlt])).2.2
  have hmk:0≤Uo (t.getD k e0)∧Uo (t.getD k e0)≤60:=⟨(hm (t.getD k e0) (by simp [hlt])).1,(hm (t.getD k e0) (by simp [hlt])).2.1⟩
  have e1:yZ (t.drop k) rs=if 100≤rs.length then false else yZ (t.drop (k+1)) (Eb (Uo (t.getD k e0)) rs):=by
   rw [List.drop_eq_getElem_cons hlt,yZ];simp [hlt]
  have Qi:=Zo (e0:Part) hlt;have Zx:=@List.length_reverse.{0};have Zu:=@Z0;have Zy:=@Z6;have Zz:=@Z7;have Z4:=@Qa;have Zs:=@Mh;have Kq:w410k:=⟨⟩;exact Pc
 ·have Zx:=@Z0;have Zu:=@Z6;have Zy:=@Z7;have Zz:=@Qa;have Z4:=@Mh;have Kq:w415k:=⟨⟩;exact Pc):p:=h
theorem good_shallow5:Qr Tryz.prog (151,Bm):=by
 obtain ⟨Kx,Kt,Kc,Kd,Kb,Ku,Kw,K,Yj,_⟩:=Wi Z3 Zn [39] false (Ja good_Many5 Mz.eq_def Wg);have Ko:=Bm.eq_def;refine Wh K Tryz.func151 [.tmp 2] rfl 51 rfl (fun c hc cvs hpre=>?_);unfold Bm at hpre;obtain ⟨⟨t⟩,rfl,⟨ht,hm⟩⟩:=J4 hpre;simp only at ht hm;cases hc;refine Ys 3 ?_;have Zx:=@Z0;have Zu:=@Z6;have Zy:=@Z7;have Zz:=@Qa;have Z4:=@Mh;have Kq:w409k:=⟨⟩;exact Pc
def Ju (t:List Part) (l:List Int) (k:Nat):Part:=t.getD (l.getD k 0).toNat e0
def Zlr (t:List Part) (l:List Int) (x:Part) (k:Nat):Bool:=(List.range k).any fun j=>!(x.label==[])&&((Ju t l j).label==x.label)
def Znw (p x:Part) (br:Bool):Bool:=((x.kind==8)==br)&&!((br&&!Pg x.label)||(((p.kind==10)&&!Wo x.label)||((!br&&!(p.kind==10))&&!(x.label==[]))))
def Ic (t:List Part) (p:Part) (l:List Int) (k:Nat):Bool:=Znw p (Ju t l k) ((p.kind==7)&&Yr 0 k)&&!Zlr t l (Ju t l k) k
def Zf7 (t:List Part) (i:Nat):Bool:=(((D7 t i).length:Int)==Uo (t.getD i e0))&&(List.range (D7 t i).length).all fun k=>Ic t (t.getD i e0) (D7 t i) k
theorem Ot (t:List Part):∀ (m q:Nat),∀ x∈Wn t m q,(q:Int)≤x∧x<t.length
 | 0,q,x,hx=>by simp [Wn] at hx
 | m+1,q,x,hx=>by
  unfold Wn at hx;split at hx
  ·rcases List.mem_cons.1 hx with rfl|hx
   ·omega
   ·have:=Ot t m _ x hx;omega
  ·cases hx
theorem Zk8 {t:List Part} {i:Nat}:∀ x∈D7 t i,(i:Int)<x∧x<t.length:=by
 intro x hx;unfold D7 at hx;split at hx
 ·cases hx
 ·have:=Ot t _ _ x hx;omega
theorem Ap (t:List Part):∀ (m q:Nat),(Wn t m q).length≤m
 | 0,q=>by simp [Wn]
 | m+1,q=>by
  unfold Wn;split
  ·simp only [Zi];have:=Ap t m (q+Ip (t.drop q) 1);omega
  ·simp
def Zqp (t:List Part):Prop:=∀ n∈t,n.label.length≤9223372036854775807
theorem B3 {p:Nat→Bool} {l:List Nat} (h:∀ m∈l,p m=false):l.any p=false:=by
 rw [List.any_eq_false];intro x hx;rw [h x hx];simp
def M6:Con:=Wc (fun (t:Sl Part) (i:Int)=>Zan t.l∧Zqp t.l∧0≤i∧i<t.l.length) (fun t i=>Zf7 t.l i.toNat)
theorem Zip {p:Prop} (h:p:=by (sym=>simp [Kt,Kc,Kd,Kb,Ku,Kw,Ko,Yj,Kv,P4,B6,D2,It,bD,jC,jH,jG,Qh,Qi,Z2,Qd,Z5,Z9,Qu,Q0,Q2,Qz,Zv,Zx,Zu,Zy,Zz,Z4,Zs,Zt,Z8,Qt,Qw,Qv,Qj,Qq,Q6,Q9,Wb,Xp,X8,X7,X6,V7,V6,V5,Ul,Uk,Uj,D.setCell.eq_1,Ze,Jo,Q1,Jh,Jt,Xg,Xq,J8,J7,Js,Qn,Z7,Jg,Qf,Z0,Qm,Jn,Kr,Ql,Z6,Jj,Jc,X3,Qk,Qa,Bf,Mh,Xe,wU,wT,wS,wR,wP,wO,wN,wM,wL,wI,wH,wG,wF,wE,wD,wC,wB,wA,wK,wW,wV,wY,wJ,wX,wZ,wQ,vU,vT,vS,vR,vP,vO,vN,vM,vL,vI,vH,vG,vF,vE,vD,vC,vB,vA,vK,vW,vV,vY,vJ,vX,vZ,vQ,uU,uT,uS,uR,uP,uO,uN,uM,uL,uI,uH,uG,uF,uE,uD,uC,uB,uA,uK,uW,uV,uY,uJ,uX,uZ,uQ,tU,tT,tS,tR,tP,tO,tN,tM,tL,tI,tH,tG,tF,tE,tD,tC,tB,tA,tK,tW,tV,tY,tJ,tX,tZ,tQ,sU,sT,sS,sR,sP,sO,sN,sM,sL,sI,sH,sG,sF,sE,sD,sC,sB,sA,sK,sW,sV,sY,sJ,sX,sZ,sQ,rU,rT,rS,rR,rP,rO,rN,rM,rL,rI,rH,rG,rF,rE,rD,rC,rB,rA,rK,rW,rV,rY,rJ,rX,rZ,rQ,qU,qT,qS,qR,qP,qO,qN,qM,qL,qI,qH,qG,qF,qE,qD,qC,qB,qA,qK,qW,qV,qY,qJ,qX,qZ,qQ,pU,pT,pS,pR,pP,pO,pN,pM,pL,pI,pH,pG,pF,pE,pD,pC,pB,pA,pK,pW,pV,pY,pJ,pX,pZ,pQ,oU,oT,oS,oR,oP,oO,oN,oM,oL,oI,oH,oG,oF,oE,oD,oC,oB,oA,oK,oW,oV,oY,oJ,oX,oZ,oQ,nU,nT,nS,nR,nP,nO,nN,nM,nL,nI,nH,nG,nF,nE,nD,nC,nB,nA,nK,nW,nV,nY,nJ,nX,nZ,nQ,mU,mT,mS,mR,mP,mO,mN,mM,mL,mI,mH,mG,mF,mE,mD,mC,mB,mA,mK,mW,mV,mY,mJ,mX,mZ,mQ,lU,lT,lS,lR,lP,lO,lN,lM,lL,lI,lH,lG,lF,lE,lD,lC,lB,lA,lK,lW,lV,lY,lJ,lX,lZ,lQ,kU,kT,kS,kR,kP,kO,kN,kM,kL,kI,kH,kG,kF,kE,kD,kC,kB,kA,kK,kW,kV,kY,kJ,kX,kZ,kQ,jU,jT,jS,jR,jP,jO,jN,jM,jL,jI,S9,S8,S7,S6,S5,S4,H6,H5,H4,H3,H2,H1,H0,Hz,Hy,Hx,Hw,Hv,Hu,Ht,Hs,Hr,Hq,Hp,Ho,Hn,Hm,Hl,Hk,Hj,Hi,Hh,Hg,V2,V1,V0,Vz,Vy,Vx,Vw,Vv,Vu,Vt,Vs,Vr,Vq,Vp,Vo,Vn,Vm,Vl,Vk,Vj,Vi,Vh,Vg,Vf,Ve,Vd,Vc,Vb,Va,Y9,Y8])):p:=h
theorem V3 {p:Prop} (h:p:=by
 (sym=>simp [Kt,Kc,Kd,Kb,Ku,Kw,Ko,Yj,Kv,P4,B6,D2,It,bD,jC,jH,jG,Qh,Qi,Z2,Qd,Z5,Z9,Qu,Q0,Q2,Qz,Zv,Zx,Zu,Zy,Zz,Z4,Zs,Zt,Z8,Qt,Qw,Qv,Qj,Qq,Q6,Q9,Wb,Xp,X8,X7,X6,V7,V6,V5,Ul,Uk,Uj,D.setCell.eq_1,Ze,Jo,Q1,Jh,Jt,Xg,Xq,J8,J7,Js,Qn,Z7,Jg,Qf,Z0,Qm,Jn,Kr,Ql,Z6,Jj,Jc,X3,Qk,Qa,Bf,Mh,Xe,wU,wT,wS,wR,wP,wO,wN,wM,wL,wI,wH,wG,wF,wE,wD,wC,wB,wA,wK,wW,wV,wY,wJ,wX,wZ,wQ,vU,vT,vS,vR,vP,vO,vN,vM,vL,vI,vH,vG,vF,vE,vD,vC,vB,vA,vK,vW,vV,vY,vJ,vX,vZ,vQ,uU,uT,uS,uR,uP,uO,uN,uM,uL,uI,uH,uG,uF,uE,uD,uC,uB,uA,uK,uW,uV,uY,uJ,uX,uZ,uQ,tU,tT,tS,tR,tP,tO,tN,tM,tL,tI,tH,tG,tF,tE,tD,tC,tB,tA,tK,tW,tV,tY,tJ,tX,tZ,tQ,sU,sT,sS,sR,sP,sO,sN,sM,sL,sI,sH,sG,sF,sE,sD,sC,sB,sA,sK,sW,sV,sY,sJ,sX,sZ,sQ,rU,rT,rS,rR,rP,rO,rN,rM,rL,rI,rH,rG,rF,rE,rD,rC,rB,rA,rK,rW,rV,rY,rJ,rX,rZ,rQ,qU,qT,qS,qR,qP,qO,qN,qM,qL,qI,qH,qG,qF,qE,qD,qC,qB,qA,qK,qW,qV,qY,qJ,qX,qZ,qQ,pU,pT,pS,pR,pP,pO,pN,pM,pL,pI,pH,pG,pF,pE,pD,pC,pB,pA,pK,pW,pV,pY,pJ,pX,pZ,pQ,oU,oT,oS,oR,oP,oO,oN,oM,oL,oI,oH,oG,oF,oE,oD,oC,oB,oA,oK,oW,oV,oY,oJ,oX,oZ,oQ,nU,nT,nS,nR,nP,nO,nN,nM,nL,nI,nH,nG,nF,nE,nD,nC,nB,nA,nK,nW,nV,nY,nJ,nX,nZ,nQ,mU,mT,mS,mR,mP,mO,mN,mM,mL,mI,mH,mG,mF,mE,mD,mC,mB,mA,mK,mW,mV,mY,mJ,mX,mZ,mQ,lU,lT,lS,lR,lP,lO,lN,lM,lL,lI,lH,lG,lF,lE,lD,lC,lB,lA,lK,lW,lV,lY,lJ,lX,lZ,lQ,kU,kT,kS,kR,kP,kO,kN,kM,kL,kI,kH,kG,kF,kE,kD,kC,kB,kA,kK,kW,kV,kY,kJ,kX,kZ,kQ,jU,jT,jS,jR,jP,jO,jN,jM,jL,jI,S9,S8,S7,S6,S5,S4,H6,H5,H4,H3,H2,H1,H0,Hz,Hy,Hx,Hw,Hv,Hu,Ht,Hs,Hr,Hq,Hp,Ho,Hn,Hm,Hl,Hk,Hj,Hi,Hh,Hg,V2,V1,V0,Vz,Vy,Vx,Vw,Vv,Vu,Vt,Vs,Vr,Vq,Vp,Vo,Vn,Vm,Vl,Vk,Vj,Vi,Vh,Vg,Vf,Ve,Vd,Vc,Vb,Va,Y9,Y8];tactic =>
   try simp only [Sh] at *
   try simp only [Zhf] at *
   try simp (maxSteps:=4000000) only [Qh,Qi,Z2,Qd,Z5,Z9,Qu,Q0,Q2,Qz,Zv,Zx,Zu,Zy,Zz,Z4,Zs,Zt,Z8,Qt,Qw,Qv,Qj,Qq,Q6,Q9,Wb,Xp,X8,X7,X6,V7,V6,V5,Ul,Uk,Uj,D.setCell.eq_1,Ze,Jo,Q1,Jh,Jt,Xg,Xq,J8,J7,Js,Qn,Z7,Jg,Qf,Z0,Qm,Jn,Kr,Ql,Z6,Jj,Jc,X3,Qk,Qa,Bf,Mh,Xe,Ix]
   first|done|exact Kq.k)):p:=h
theorem M2 {p:Prop} (h:p:=by
 (sym=>simp [Kt,Kc,Kd,Kb,Ku,Kw,Ko,Yj,Kv,P4,B6,D2,It,bD,jC,jH,jG,Qh,Qi,Z2,Qd,Z5,Z9,Qu,Q0,Q2,Qz,Zv,Zx,Zu,Zy,Zz,Z4,Zs,Zt,Z8,Qt,Qw,Qv,Qj,Qq,Q6,Q9,Wb,Xp,X8,X7,X6,V7,V6,V5,Ul,Uk,Uj,D.setCell.eq_1,Ze,Jo,Q1,Jh,Jt,Xg,Xq,J8,J7,Js,Qn,Z7,Jg,Qf,Z0,Qm,Jn,Kr,Ql,Z6,Jj,Jc,X3,Qk,Qa,Bf,Mh,Xe,wU,wT,wS,wR,wP,wO,wN,wM,wL,wI,wH,wG,wF,wE,wD,wC,wB,wA,wK,wW,wV,wY,wJ,wX,wZ,wQ,vU,vT,vS,vR,vP,vO,vN,vM,vL,vI,vH,vG,vF,vE,vD,vC,vB,vA,vK,vW,vV,vY,vJ,vX,vZ,vQ,uU,uT,uS,uR,uP,uO,uN,uM,uL,uI,uH,uG,uF,uE,uD,uC,uB,uA,uK,uW,uV,uY,uJ,uX,uZ,uQ,tU,tT,tS,tR,tP,tO,tN,tM,tL,tI,tH,tG,tF,tE,tD,tC,tB,tA,tK,tW,tV,tY,tJ,tX,tZ,tQ,sU,sT,sS,sR,sP,sO,sN,sM,sL,sI,sH,sG,sF,sE,sD,sC,sB,sA,sK,sW,sV,sY,sJ,sX,sZ,sQ,rU,rT,rS,rR,rP,rO,rN,rM,rL,rI,rH,rG,rF,rE,rD,rC,rB,rA,rK,rW,rV,rY,rJ,rX,rZ,rQ,qU,qT,qS,qR,qP,qO,qN,qM,qL,qI,qH,qG,qF,qE,qD,qC,qB,qA,qK,qW,qV,qY,qJ,qX,qZ,qQ,pU,pT,pS,pR,pP,pO,pN,pM,pL,pI,pH,pG,pF,pE,pD,pC,pB,pA,pK,pW,pV,pY,pJ,pX,pZ,pQ,oU,oT,oS,oR,oP,oO,oN,oM,oL,oI,oH,oG,oF,oE,oD,oC,oB,oA,oK,oW,oV,oY,oJ,oX,oZ,oQ,nU,nT,nS,nR,nP,nO,nN,nM,nL,nI,nH,nG,nF,nE,nD,nC,nB,nA,nK,nW,nV,nY,nJ,nX,nZ,nQ,mU,mT,mS,mR,mP,mO,mN,mM,mL,mI,mH,mG,mF,mE,mD,mC,mB,mA,mK,mW,mV,mY,mJ,mX,mZ,mQ,lU,lT,lS,lR,lP,lO,lN,lM,lL,lI,lH,lG,lF,lE,lD,lC,lB,lA,lK,lW,lV,lY,lJ,lX,lZ,lQ,kU,kT,kS,kR,kP,kO,kN,kM,kL,kI,kH,kG,kF,kE,kD,kC,kB,kA,kK,kW,kV,kY,kJ,kX,kZ,kQ,jU,jT,jS,jR,jP,jO,jN,jM,jL,jI,S9,S8,S7,S6,S5,S4,H6,H5,H4,H3,H2,H1,H0,Hz,Hy,Hx,Hw,Hv,Hu,Ht,Hs,Hr,Hq,Hp,Ho,Hn,Hm,Hl,Hk,Hj,Hi,Hh,Hg,V2,V1,V0,Vz,Vy,Vx,Vw,Vv,Vu,Vt,Vs,Vr,Vq,Vp,Vo,Vn,Vm,Vl,Vk,Vj,Vi,Vh,Vg,Vf,Ve,Vd,Vc,Vb,Va,Y9,Y8];tactic =>
   try simp only [Sh] at *
   try simp only [Zhf] at *
   try simp (maxSteps:=4000000) only [Qh,Qi,Z2,Qd,Z5,Z9,Qu,Q0,Q2,Qz,Zv,Zx,Zu,Zy,Zz,Z4,Zs,Zt,Z8,Qt,Qw,Qv,Qj,Qq,Q6,Q9,Wb,Xp,X8,X7,X6,V7,V6,V5,Ul,Uk,Uj,D.setCell.eq_1,Ze,Jo,Q1,Jh,Jt,Xg,Xq,J8,J7,Js,Qn,Z7,Jg,Qf,Z0,Qm,Jn,Kr,Ql,Z6,Jj,Jc,X3,Qk,Qa,Bf,Mh,Xe,Ix]
   repeat' first|with_reducible assumption|with_reducible apply And.intro|intro _|omega|(rw [Xb];omega)
   all_goals first|with_reducible exact Jf|omega|rfl|trivial|exact Or.inr trivial|assumption|contradiction|exact Qy)):p:=h
structure w417k:Prop
theorem w417k.k (_:w417k) {p:Prop} (h:p:=by
 repeat' first|exact Qg|with_reducible apply And.intro|intro _
 all_goals first|with_reducible exact Jf|omega|assumption|trivial|rfl|(exfalso;clear hE hno Qd hR2 hin hT hN Qi Z9 Qu K hki hkt;simp_all;done)|(exfalso;clear hno Qd hR2 hin hT hN Qi Z9 Qu K hki hkt;simp_all;done)|skip):p:=h
structure w419k:Prop
theorem w419k.k (_:w419k) {p:Prop} (h:p:=by
 repeat' first|exact Qg|with_reducible apply And.intro|intro _
 all_goals first|with_reducible exact Jf|omega|exact ⟨j+1,by exact Qy,by omega,by omega⟩|skip):p:=h
structure w420k:Prop
theorem w420k.k (_:w420k) {p:Prop} (h:p:=by
 repeat' first|exact Qg|with_reducible apply And.intro|intro _
 all_goals first|with_reducible exact Jf|omega|exact ⟨k+1,by exact Qy,by omega,Eq.mpr hQ hs,by omega⟩|skip):p:=h
structure w418k:Prop
theorem w418k.k (_:w418k) {p:Prop} (h:p:=by
 repeat' first|exact Qg|with_reducible apply And.intro|intro _
 all_goals first|with_reducible exact Jf|omega|assumption|skip
 refine Zh [4,85,86,87,88,89,90,91,92,93,94,95,96,97,98,99,100,101,102,103,104,105] (fun j:Nat=>[(10,.d (.int .i64 j))]) (fun j:Nat=>[]) (fun j:Nat=>j≤k∧∀ m,m<j→(!true&&((Ju t l m).label==x.label))=false) (fun j:Nat=>k-j) 0 ?_ ?_ ?_
 ·simp
 ·exact Qy
 rintro j ⟨hj,hnj⟩;rcases Zl j k with ⟨hjl,Zz⟩|⟨hjl,Zz⟩
 ·have hsj:(!true&&((Ju t l j).label==x.label))=false→∀ m,m<j+1→(!true&&((Ju t l m).label==x.label))=false:=fun h=>U7 hnj h;have hbj:(!true&&((Ju t l j).label==x.label))=true→R=false:=fun h=>hbad (by rw [List.any_eq_true];exact ⟨j,List.mem_range.2 hjl,h⟩)
  have hjlt:j<l.length:=by omega
  have hji:=hin (l.getD j 0) (by simp [hjlt])
  have hjt:(l.getD j 0).toNat<t.length:=by omega
  have Z4:=Zo (0:Int) hjlt;have Zs:=Zo e0 hjt
  change el _ _=enc (Ju t l j) at Zs
  obtain ⟨u,hu⟩:=exq (l.getD j 0);rw [hu] at Z4 Zs hji hjt;obtain ⟨u,rfl⟩:∃ n:Nat,u=n:=⟨u.toNat,by omega⟩
  rw [Ze] at Zs hjt;obtain ⟨y,hy⟩:=exq (Ju t l j);rw [hy] at Zs hsj hbj;obtain ⟨ee,Zt⟩:=exq ((y.label==x.label));rw [Zt] at hsj hbj;have Kq:w419k:=⟨⟩;exact V3
 ·have hs:=hyes (B3 fun m hm=>hnj m (by have:=List.mem_range.1 hm;omega))
  have Kq:w420k:=⟨⟩;exact V3):p:=h
structure w422k:Prop
theorem w422k.k (_:w422k) {p:Prop} (h:p:=by
 repeat' first|exact Qg|with_reducible apply And.intro|intro _
 all_goals first|with_reducible exact Jf|omega|exact ⟨j+1,by exact Qy,by omega,fun m hm=>by simpa using h2 m hm,by omega⟩|skip):p:=h
structure w423k:Prop
theorem w423k.k (_:w423k) {p:Prop} (h:p:=by
 repeat' first|exact Qg|with_reducible apply And.intro|intro _
 all_goals first|with_reducible exact Jf|omega|exact ⟨k+1,by exact Qy,by omega,Eq.mpr hQ hs,by omega⟩|skip):p:=h
structure w421k:Prop
theorem w421k.k (_:w421k) {p:Prop} (h:p:=by
 repeat' first|exact Qg|with_reducible apply And.intro|intro _
 all_goals first|with_reducible exact Jf|omega|assumption|skip
 refine Zh [4,85,86,87,88,89,90,91,92,93,94,95,96,97,98,99,100,101,102,103,104,105] (fun j:Nat=>[(10,.d (.int .i64 j))]) (fun j:Nat=>[]) (fun j:Nat=>j≤k∧∀ m,m<j→(!false&&((Ju t l m).label==x.label))=false) (fun j:Nat=>k-j) 0 ?_ ?_ ?_
 ·simp
 ·exact Qy
 rintro j ⟨hj,hnj⟩;rcases Zl j k with ⟨hjl,Zz⟩|⟨hjl,Zz⟩
 ·have hsj:(!false&&((Ju t l j).label==x.label))=false→∀ m,m<j+1→(!false&&((Ju t l m).label==x.label))=false:=fun h=>U7 hnj h;have hbj:(!false&&((Ju t l j).label==x.label))=true→R=false:=fun h=>hbad (by rw [List.any_eq_true];exact ⟨j,List.mem_range.2 hjl,h⟩)
  have hjlt:j<l.length:=by omega
  have hji:=hin (l.getD j 0) (by simp [hjlt])
  have hjt:(l.getD j 0).toNat<t.length:=by omega
  have Z4:=Zo (0:Int) hjlt;have Zs:=Zo e0 hjt
  change el _ _=enc (Ju t l j) at Zs
  obtain ⟨u,hu⟩:=exq (l.getD j 0);rw [hu] at Z4 Zs hji hjt;obtain ⟨u,rfl⟩:∃ n:Nat,u=n:=⟨u.toNat,by omega⟩
  rw [Ze] at Zs hjt;obtain ⟨y,hy⟩:=exq (Ju t l j);rw [hy] at Zs hsj hbj;obtain ⟨ee,Zt⟩:=exq ((y.label==x.label));rw [Zt] at hsj hbj;cases ee with
  | true =>
   have hr:=hbj rfl;subst hr;exact M2
  | false =>
   have h2:=hsj rfl;have Kq:w422k:=⟨⟩;exact V3
 ·have hs:=hyes (B3 fun m hm=>hnj m (by have:=List.mem_range.1 hm;omega))
  have Kq:w423k:=⟨⟩;exact V3):p:=h
structure w425k:Prop
theorem w425k.k (_:w425k) {p:Prop} (h:p:=by
 repeat' first|exact Qg|with_reducible apply And.intro|intro _
 all_goals first|with_reducible exact Jf|omega|exact ⟨j+1,by exact Qy,by omega,by omega⟩|skip):p:=h
structure w426k:Prop
theorem w426k.k (_:w426k) {p:Prop} (h:p:=by
 repeat' first|exact Qg|with_reducible apply And.intro|intro _
 all_goals first|with_reducible exact Jf|omega|exact ⟨k+1,by exact Qy,by omega,Eq.mpr hQ hs,by omega⟩|skip):p:=h
structure w424k:Prop
theorem w424k.k (_:w424k) {p:Prop} (h:p:=by
 repeat' first|exact Qg|with_reducible apply And.intro|intro _
 all_goals first|with_reducible exact Jf|omega|assumption|skip
 refine Zh [4,85,86,87,88,89,90,91,92,93,94,95,96,97,98,99,100,101,102,103,104,105] (fun j:Nat=>[(10,.d (.int .i64 j))]) (fun j:Nat=>[]) (fun j:Nat=>j≤k∧∀ m,m<j→(!true&&((Ju t l m).label==x.label))=false) (fun j:Nat=>k-j) 0 ?_ ?_ ?_
 ·simp
 ·exact Qy
 rintro j ⟨hj,hnj⟩;rcases Zl j k with ⟨hjl,Zz⟩|⟨hjl,Zz⟩
 ·have hsj:(!true&&((Ju t l j).label==x.label))=false→∀ m,m<j+1→(!true&&((Ju t l m).label==x.label))=false:=fun h=>U7 hnj h;have hbj:(!true&&((Ju t l j).label==x.label))=true→R=false:=fun h=>hbad (by rw [List.any_eq_true];exact ⟨j,List.mem_range.2 hjl,h⟩)
  have hjlt:j<l.length:=by omega
  have hji:=hin (l.getD j 0) (by simp [hjlt])
  have hjt:(l.getD j 0).toNat<t.length:=by omega
  have Z4:=Zo (0:Int) hjlt;have Zs:=Zo e0 hjt
  change el _ _=enc (Ju t l j) at Zs
  obtain ⟨u,hu⟩:=exq (l.getD j 0);rw [hu] at Z4 Zs hji hjt;obtain ⟨u,rfl⟩:∃ n:Nat,u=n:=⟨u.toNat,by omega⟩
  rw [Ze] at Zs hjt;obtain ⟨y,hy⟩:=exq (Ju t l j);rw [hy] at Zs hsj hbj;obtain ⟨ee,Zt⟩:=exq ((y.label==x.label));rw [Zt] at hsj hbj;have Kq:w425k:=⟨⟩;exact V3
 ·have hs:=hyes (B3 fun m hm=>hnj m (by have:=List.mem_range.1 hm;omega))
  have Kq:w426k:=⟨⟩;exact V3):p:=h
structure w428k:Prop
theorem w428k.k (_:w428k) {p:Prop} (h:p:=by
 repeat' first|exact Qg|with_reducible apply And.intro|intro _
 all_goals first|with_reducible exact Jf|omega|exact ⟨j+1,by exact Qy,by omega,fun m hm=>by simpa using h2 m hm,by omega⟩|skip):p:=h
structure w429k:Prop
theorem w429k.k (_:w429k) {p:Prop} (h:p:=by
 repeat' first|exact Qg|with_reducible apply And.intro|intro _
 all_goals first|with_reducible exact Jf|omega|exact ⟨k+1,by exact Qy,by omega,Eq.mpr hQ hs,by omega⟩|skip):p:=h
structure w427k:Prop
theorem w427k.k (_:w427k) {p:Prop} (h:p:=by
 repeat' first|exact Qg|with_reducible apply And.intro|intro _
 all_goals first|with_reducible exact Jf|omega|assumption|skip
 refine Zh [4,85,86,87,88,89,90,91,92,93,94,95,96,97,98,99,100,101,102,103,104,105] (fun j:Nat=>[(10,.d (.int .i64 j))]) (fun j:Nat=>[]) (fun j:Nat=>j≤k∧∀ m,m<j→(!false&&((Ju t l m).label==x.label))=false) (fun j:Nat=>k-j) 0 ?_ ?_ ?_
 ·simp
 ·exact Qy
 rintro j ⟨hj,hnj⟩;rcases Zl j k with ⟨hjl,Zz⟩|⟨hjl,Zz⟩
 ·have hsj:(!false&&((Ju t l j).label==x.label))=false→∀ m,m<j+1→(!false&&((Ju t l m).label==x.label))=false:=fun h=>U7 hnj h;have hbj:(!false&&((Ju t l j).label==x.label))=true→R=false:=fun h=>hbad (by rw [List.any_eq_true];exact ⟨j,List.mem_range.2 hjl,h⟩)
  have hjlt:j<l.length:=by omega
  have hji:=hin (l.getD j 0) (by simp [hjlt])
  have hjt:(l.getD j 0).toNat<t.length:=by omega
  have Z4:=Zo (0:Int) hjlt;have Zs:=Zo e0 hjt
  change el _ _=enc (Ju t l j) at Zs
  obtain ⟨u,hu⟩:=exq (l.getD j 0);rw [hu] at Z4 Zs hji hjt;obtain ⟨u,rfl⟩:∃ n:Nat,u=n:=⟨u.toNat,by omega⟩
  rw [Ze] at Zs hjt;obtain ⟨y,hy⟩:=exq (Ju t l j);rw [hy] at Zs hsj hbj;obtain ⟨ee,Zt⟩:=exq ((y.label==x.label));rw [Zt] at hsj hbj;cases ee with
  | true =>
   have hr:=hbj rfl;subst hr;exact M2
  | false =>
   have h2:=hsj rfl;have Kq:w428k:=⟨⟩;exact V3
 ·have hs:=hyes (B3 fun m hm=>hnj m (by have:=List.mem_range.1 hm;omega))
  have Kq:w429k:=⟨⟩;exact V3):p:=h
structure w431k:Prop
theorem w431k.k (_:w431k) {p:Prop} (h:p:=by
 repeat' first|exact Qg|with_reducible apply And.intro|intro _
 all_goals first|with_reducible exact Jf|omega|exact ⟨j+1,by exact Qy,by omega,by omega⟩|skip):p:=h
structure w432k:Prop
theorem w432k.k (_:w432k) {p:Prop} (h:p:=by
 repeat' first|exact Qg|with_reducible apply And.intro|intro _
 all_goals first|with_reducible exact Jf|omega|exact ⟨k+1,by exact Qy,by omega,Eq.mpr hQ hs,by omega⟩|skip):p:=h
structure w430k:Prop
theorem w430k.k (_:w430k) {p:Prop} (h:p:=by
 repeat' first|exact Qg|with_reducible apply And.intro|intro _
 all_goals first|with_reducible exact Jf|omega|assumption|skip
 refine Zh [4,85,86,87,88,89,90,91,92,93,94,95,96,97,98,99,100,101,102,103,104,105] (fun j:Nat=>[(10,.d (.int .i64 j))]) (fun j:Nat=>[]) (fun j:Nat=>j≤k∧∀ m,m<j→(!true&&((Ju t l m).label==x.label))=false) (fun j:Nat=>k-j) 0 ?_ ?_ ?_
 ·simp
 ·exact Qy
 rintro j ⟨hj,hnj⟩;rcases Zl j k with ⟨hjl,Zz⟩|⟨hjl,Zz⟩
 ·have hsj:(!true&&((Ju t l j).label==x.label))=false→∀ m,m<j+1→(!true&&((Ju t l m).label==x.label))=false:=fun h=>U7 hnj h;have hbj:(!true&&((Ju t l j).label==x.label))=true→R=false:=fun h=>hbad (by rw [List.any_eq_true];exact ⟨j,List.mem_range.2 hjl,h⟩)
  have hjlt:j<l.length:=by omega
  have hji:=hin (l.getD j 0) (by simp [hjlt])
  have hjt:(l.getD j 0).toNat<t.length:=by omega
  have Z4:=Zo (0:Int) hjlt;have Zs:=Zo e0 hjt
  change el _ _=enc (Ju t l j) at Zs
  obtain ⟨u,hu⟩:=exq (l.getD j 0);rw [hu] at Z4 Zs hji hjt;obtain ⟨u,rfl⟩:∃ n:Nat,u=n:=⟨u.toNat,by omega⟩
  rw [Ze] at Zs hjt;obtain ⟨y,hy⟩:=exq (Ju t l j);rw [hy] at Zs hsj hbj;obtain ⟨ee,Zt⟩:=exq ((y.label==x.label));rw [Zt] at hsj hbj;have Kq:w431k:=⟨⟩;exact V3
 ·have hs:=hyes (B3 fun m hm=>hnj m (by have:=List.mem_range.1 hm;omega))
  have Kq:w432k:=⟨⟩;exact V3):p:=h
structure w434k:Prop
theorem w434k.k (_:w434k) {p:Prop} (h:p:=by
 repeat' first|exact Qg|with_reducible apply And.intro|intro _
 all_goals first|with_reducible exact Jf|omega|exact ⟨j+1,by exact Qy,by omega,by omega⟩|skip):p:=h
structure w435k:Prop
theorem w435k.k (_:w435k) {p:Prop} (h:p:=by
 repeat' first|exact Qg|with_reducible apply And.intro|intro _
 all_goals first|with_reducible exact Jf|omega|exact ⟨k+1,by exact Qy,by omega,Eq.mpr hQ hs,by omega⟩|skip):p:=h
structure w433k:Prop
theorem w433k.k (_:w433k) {p:Prop} (h:p:=by
 repeat' first|exact Qg|with_reducible apply And.intro|intro _
 all_goals first|with_reducible exact Jf|omega|assumption|skip
 refine Zh [4,85,86,87,88,89,90,91,92,93,94,95,96,97,98,99,100,101,102,103,104,105] (fun j:Nat=>[(10,.d (.int .i64 j))]) (fun j:Nat=>[]) (fun j:Nat=>j≤k∧∀ m,m<j→(!true&&((Ju t l m).label==x.label))=false) (fun j:Nat=>k-j) 0 ?_ ?_ ?_
 ·simp
 ·exact Qy
 rintro j ⟨hj,hnj⟩;rcases Zl j k with ⟨hjl,Zz⟩|⟨hjl,Zz⟩
 ·have hsj:(!true&&((Ju t l j).label==x.label))=false→∀ m,m<j+1→(!true&&((Ju t l m).label==x.label))=false:=fun h=>U7 hnj h;have hbj:(!true&&((Ju t l j).label==x.label))=true→R=false:=fun h=>hbad (by rw [List.any_eq_true];exact ⟨j,List.mem_range.2 hjl,h⟩)
  have hjlt:j<l.length:=by omega
  have hji:=hin (l.getD j 0) (by simp [hjlt])
  have hjt:(l.getD j 0).toNat<t.length:=by omega
  have Z4:=Zo (0:Int) hjlt;have Zs:=Zo e0 hjt
  change el _ _=enc (Ju t l j) at Zs
  obtain ⟨u,hu⟩:=exq (l.getD j 0);rw [hu] at Z4 Zs hji hjt;obtain ⟨u,rfl⟩:∃ n:Nat,u=n:=⟨u.toNat,by omega⟩
  rw [Ze] at Zs hjt;obtain ⟨y,hy⟩:=exq (Ju t l j);rw [hy] at Zs hsj hbj;obtain ⟨ee,Zt⟩:=exq ((y.label==x.label));rw [Zt] at hsj hbj;have Kq:w434k:=⟨⟩;exact V3
 ·have hs:=hyes (B3 fun m hm=>hnj m (by have:=List.mem_range.1 hm;omega))
  have Kq:w435k:=⟨⟩;exact V3):p:=h
structure w416k:Prop
theorem w416k.k (_:w416k) {p:Prop} (h:p:=by
 repeat' first|exact Qg|with_reducible apply And.intro|intro _
 all_goals try assumption
 refine Zh [4,7,8,9,10,22,23,24,25,26,27,28,29,30,31,32,33,34,35,36,37,38,39,40,41,42,43,44,45,46,47,48,49,50,51,52,53,54,55,56,57,58,59,60,61,62,63,64,65,66,67,68,69,70,71,72,73,74,75,76,77,78,79,80,81,82,83,84,85,86,87,88,89,90,91,92,93,94,95,96,97,98,99,100,101,102,103,104,105] (fun k:Nat=>[(6,.d (.int .i64 k))]) (fun k:Nat=>[]) (fun k:Nat=>k≤l.length∧∀ j,j<k→Ic t p l j=true) (fun k:Nat=>l.length-k) 0 ?_ ?_ ?_
 ·simp
 ·exact Qy
 rintro k ⟨hk,hno⟩;rcases Zl k l.length with ⟨hlt,Z5⟩|⟨hlt,Z5⟩
 ·have hki:=hin (l.getD k 0) (by simp [hlt])
  have hkt:(l.getD k 0).toNat<t.length:=by omega
  have hkn:(Ju t l k).label.length≤9223372036854775807:=hN (Ju t l k) (by
   show t.getD _ e0∈t;rw [Zc,Zd hkt];exact List.getElem_mem hkt)
  have hyes:Ic t p l k=true→∀ j,j<k+1→Ic t p l j=true:=fun h=>U7 hno h;have hbad:Ic t p l k=false→R=false:=by
   intro h;rw [←hR2,Bool.eq_false_iff];intro hc;rw [List.all_eq_true] at hc;have:=hc k (List.mem_range.2 hlt);rw [h] at this;cases this
  obtain ⟨Q,hQ⟩:=exq ((∀ j,j<k+1→Ic t p l j=true));rw [hQ] at hyes;unfold Ic at hyes hbad;have Z9:=Zo (0:Int) hlt;have Qu:=Zo e0 hkt
  change el _ _=enc (Ju t l k) at Qu
  obtain ⟨v,hv⟩:=exq (l.getD k 0);rw [hv] at Z9 Qu hki hkt;obtain ⟨v,rfl⟩:∃ n:Nat,v=n:=⟨v.toNat,by omega⟩
  rw [Ze] at Qu hkt;obtain ⟨x,hx⟩:=exq (Ju t l k);rw [hx] at hkn hyes hbad Qu;unfold Znw at hyes hbad;obtain ⟨kb,Q0⟩:=exq (Yr 0 (k:Int));rw [Q0] at hyes hbad;obtain ⟨a7,Q2⟩:=exq ((p.kind==7));obtain ⟨a10,Qz⟩:=exq ((p.kind==10));obtain ⟨a8,Zv⟩:=exq ((x.kind==8));obtain ⟨tg,Zx⟩:=exq (Pg x.label);obtain ⟨w,Zu⟩:=exq (Wo x.label);obtain ⟨le,Zy⟩:=exq ((x.label==[]));rw [Q2,Qz,Zv,Zx,Zu,Zy] at hyes hbad;have hE:a7=true→a10=false:=fun e=>by rw [←Q2,Zp] at e;rw [←Qz,e];rfl
  cases hA:((a8==(a7&&kb))&&!(((a7&&kb)&&!tg)||((a10&&!w)||((!(a7&&kb)&&!a10)&&!le)))) with
  | false =>
   have hr:=hbad (by rw [hA,Bool.false_and])
   subst hr;clear hbad hyes;have Kq:w417k:=⟨⟩;exact V3
  | true =>
   rw [hA,Bool.true_and,Bool.not_eq_true'] at hyes;rw [hA,Bool.true_and,Bool.not_eq_false'] at hbad;unfold Zlr at hyes hbad;rw [Zy] at hyes hbad;have hpath:(a7=true∧kb=true∧a10=false∧a8=true∧tg=true)∨(a7=false∧a10=true∧a8=false∧w=true)∨(a7=false∧a10=false∧a8=false∧le=true)∨(a7=true∧kb=false∧a10=false∧a8=false∧le=true):=by
    clear hbad hyes hno Qd hR2 hin hT hN Qi Z9 Qu Q2 Qz Zv Zx Zu Zy Q0;revert hA hE;cases a7<;>cases kb<;>cases a10<;>cases a8<;>cases tg<;>cases w<;>cases le<;>simp
   clear hA hE;rcases hpath with ⟨rfl,rfl,rfl,rfl,rfl⟩|⟨rfl,rfl,rfl,rfl⟩|⟨rfl,rfl,rfl,rfl⟩|⟨rfl,rfl,rfl,rfl,rfl⟩
   ·cases le with
    | true =>
     have Kq:w418k:=⟨⟩;exact V3
    | false =>
     have Kq:w421k:=⟨⟩;exact V3
   ·cases le with
    | true =>
     have Kq:w424k:=⟨⟩;exact V3
    | false =>
     have Kq:w427k:=⟨⟩;exact V3
   ·have Kq:w430k:=⟨⟩;exact V3
   ·have Kq:w433k:=⟨⟩;exact V3
 ·have hr:R=true:=by
   rw [←hR2,List.all_eq_true];intro j hj;exact hno j (by have:=List.mem_range.1 hj;omega)
  subst hr;exact Zip):p:=h
theorem good_labelled5:Qr Tryz.prog (152,M6):=by
 obtain ⟨Kx,Kt,Kc,Kd,Kb,Ku,Kw,K,Yj,Kv,P4,B6,_⟩:=Wi Z3 Zn [] false (Ja good_Kids5 Rq.eq_def (Ja good_Many5 Mz.eq_def (Ja good_IsTag1 fW (Ja good_IsWord1 Sa Wg))));have Ko:=M6.eq_def;refine Wh K Tryz.func152 [.tmp 4] rfl 106 rfl (fun c hc cvs hpre=>?_);unfold M6 at hpre;obtain ⟨⟨t⟩,i,rfl,hT,hN,hi0,hi1⟩:=Jr hpre;simp only at hT hN hi0 hi1;clear hpre;obtain ⟨i,rfl⟩:∃ n:Nat,i=n:=⟨i.toNat,by omega⟩
 have hil:i<t.length:=by omega
 have hlen:=hT.1;obtain ⟨R,Qd⟩:=exq (Zf7 t i);have hR2:=Qd;unfold Zf7 at hR2;obtain ⟨l,Qh⟩:=exq (D7 t i);have hin:∀ x∈l,(i:Int)<x∧x<t.length:=by rw [←Qh];exact Zk8
 have Qi:=Zo e0 hil;have hpi:=hT.2 (t.getD i e0) (by simp [hil])
 have hll:l.length≤100000:=by
  rw [←Qh];unfold D7;split
  ·simp
  ·have h1:=Ap t (Uo (t.getD (Int.toNat i) e0)).toNat ((Int.toNat i)+1);have h2:=hpi.2.1;simp only [Ze] at h1 ⊢;omega
 rw [Qh] at hR2;obtain ⟨p,hp⟩:=exq (t.getD i e0);rw [hp] at hR2 Qi hpi;have hpm:=hpi.2.2;cases hmm:((l.length:Int)==Uo p) with
 | false =>
  rw [hmm,Bool.false_and] at hR2;subst hR2;have Z2:((l.length:Int) != Uo p)=true:=by rw [bne,hmm];rfl
  cases hc;refine Ys 6 ?_;exact M2
 | true =>
 rw [hmm,Bool.true_and] at hR2;have Z2:((l.length:Int) != Uo p)=false:=by rw [bne,hmm];rfl
 cases hc;refine Ys 6 ?_;have Kq:w416k:=⟨⟩;exact V3
theorem Zff {p:Part} {w tg b t u li na op:Bool} (h:J9 p w tg b t u li na op=true):p.many≤50∧(p.kind=7→1≤p.many)∧(p.kind=10→0≤p.many):=by
 unfold J9 at h;by_cases h0:p.kind≠0∧p.kind≠14∧p.num≠0
 ·rw [if_pos h0] at h;cases h
 rw [if_neg h0] at h;by_cases h1:p.kind=0
 ·rw [if_pos h1] at h;simp only [Zg,Zp] at h;omega
 rw [if_neg h1] at h;by_cases h2:p.kind=1
 ·rw [if_pos h2] at h;simp only [Zg,Zp] at h;omega
 rw [if_neg h2] at h;by_cases h3:p.kind=2∨p.kind=4
 ·rw [if_pos h3] at h;simp only [Zg,Zp] at h;omega
 rw [if_neg h3] at h;by_cases h4:p.kind=3∨p.kind=6
 ·rw [if_pos h4] at h;simp only [Zg,Zp] at h;omega
 rw [if_neg h4] at h;by_cases h5:p.kind=5
 ·rw [if_pos h5] at h;simp only [Zg,Zp] at h;omega
 rw [if_neg h5] at h;by_cases h6:p.kind=7
 ·rw [if_pos h6] at h;simp only [Zg,Zp,Qp] at h;omega
 rw [if_neg h6] at h;by_cases h7:p.kind=8
 ·rw [if_pos h7] at h;simp only [Zg,Zp] at h;omega
 rw [if_neg h7] at h;by_cases h8:p.kind=9
 ·rw [if_pos h8] at h;simp only [Zg,Zp] at h;omega
 rw [if_neg h8] at h;by_cases h9:p.kind=10
 ·rw [if_pos h9] at h;simp only [Zg,Zp,Qp] at h;omega
 rw [if_neg h9] at h;by_cases ha:p.kind=11
 ·rw [if_pos ha] at h;simp only [Zg,Zp] at h;omega
 rw [if_neg ha] at h;by_cases hb:p.kind=12
 ·rw [if_pos hb] at h;simp only [Zg,Zp] at h;omega
 rw [if_neg hb] at h;by_cases hc:p.kind=13
 ·rw [if_pos hc] at h;simp only [Zg,Zp] at h;omega
 rw [if_neg hc] at h;by_cases hd:p.kind=14
 ·rw [if_pos hd] at h;simp only [Zg,Zp] at h;omega
 rw [if_neg hd] at h;cases h
theorem Zid {n:Part} (h:D3 n=true):n.many≤50∧(n.kind=7→1≤n.many)∧(n.kind=10→0≤n.many):=by
 unfold D3 at h;exact Zff h
theorem Zic {n:Part} (h:D3 n=true):0≤Uo n∧Uo n≤60∧n.many≤1000000:=by
 obtain ⟨h1,h2,h3⟩:=Zid h;have hm:Zjb n.many 0=if n.many<0 then 0 else n.many:=rfl
 unfold Uo;rw [hm];refine ⟨?_,?_,by omega⟩
 ·repeat' (split;first|omega|skip)
  all_goals omega
 ·repeat' (split;first|omega|skip)
  all_goals omega
def Pk (t:List Part):Bool:=t.length==0||Yr 10000 t.length||!((t.getD 0 e0).label==[])||(t.getD 0 e0).kind==8
def Hf (t:List Part):Bool:=!Pk t&&(t.all D3&&((iB t 0==(t.length:Int)&&I0 t)&&(List.range t.length).all fun i=>Zf7 t i))
def Zot (p:Part):Prop:=Zou p∧p.name.length≤9223372036854775806
def Dp:Con:=Xy (fun (t:Sl Part)=>t.l.length≤9223372036854775807∧∀ p∈t.l,Zot p) (fun t=>Hf t.l)
structure w436k:Prop
theorem w436k.k (_:w436k) {p:Prop} (h:p:=by
 unfold Hf Pk;simp [h0]):p:=h
structure w438k:Prop
theorem w438k.k (_:w438k) {p:Prop} (h:p:=by
 repeat' first|exact Qg|with_reducible apply And.intro|intro _
 ·rename_i hb;rw [hr,R8 (p:=D3) e0 k hlt hb];rfl
 ·rename_i hb;refine ⟨k+1,by exact Qy,by omega,fun j hj=>?_,by omega⟩
  by_cases hjk:j=k
  ·subst hjk;exact hb
  ·exact hno j (by omega)):p:=h
structure w440k:Prop
theorem w440k.k (_:w440k) {p:Prop} (h:p:=by
 repeat' first|exact Qg|with_reducible apply And.intro|intro _
 ·rename_i hb;rw [hr2,M3 k hlt2 hb]
 ·rename_i hb;refine ⟨k+1,by exact Qy,by omega,fun j hj=>?_,by omega⟩
  by_cases hjk:j=k
  ·subst hjk;exact hb
  ·exact hno2 j (by omega)):p:=h
structure w441k:Prop
theorem w441k.k (_:w441k) {p:Prop} (h:p:=by
 rw [hr2,Gq fun j hj=>hno2 j (by omega)]):p:=h
structure w439k:Prop
theorem w439k.k (_:w439k) {p:Prop} (h:p:=by
 repeat' first|exact Qg|with_reducible apply And.intro|intro _
 ·rename_i he hs;rw [hr,hs];simp
 ·rename_i he hs;have hr2:Hf t=(List.range t.length).all fun i=>Zf7 t i:=by
   rw [hr,hs,show (iB t 0==(t.length:Int))=true by simpa using he]
   rfl
  refine Zh [2,49,50,51,52,53,54,55,56,57,58] (fun k:Nat=>[(4,.d (.int .i64 k))]) (fun k:Nat=>[]) (fun k:Nat=>k≤t.length∧∀ j,j<k→Zf7 t j=true) (fun k:Nat=>t.length-k) 0 ?_ ?_ ?_
  ·simp
  ·exact Qy
  rintro k ⟨hk2,hno2⟩;rcases Zl k t.length with ⟨hlt2,Z5⟩|⟨hlt2,Z5⟩
  ·have Kq:w440k:=⟨⟩;exact V3
  ·have Kq:w441k:=⟨⟩;exact V3
 ·rename_i he;rw [hr,show (iB t 0==(t.length:Int))=false by simpa using he]
  rfl):p:=h
structure w437k:Prop
theorem w437k.k (_:w437k) {p:Prop} (h:p:=by
 repeat' first|exact Qg|with_reducible apply And.intro|intro _
 ·rename_i h1 h2 h9;exact heb (by unfold Pk;rw [show ((t.getD 0 e0).kind==8)=true by rw [Zp];exact h9];simp only [Bool.or_true])
 ·rename_i h1 h3 h9;have hle:t.length≤10000:=by omega
  have hnb:Pk t=false:=by
   unfold Pk;simp only [Bool.or_eq_false_iff,Q3,Zf];refine ⟨⟨⟨by omega,by omega⟩,?_⟩,h9⟩
   simpa using h3
  have hr:Hf t=(t.all D3&&((iB t 0==(t.length:Int)&&I0 t)&&(List.range t.length).all fun i=>Zf7 t i)):=by
   unfold Hf;rw [hnb];rfl
  refine Zh [2,27,28,29,30,31,32,33,34,35,36,37,38] (fun k:Nat=>[(3,.d (.int .i64 k))]) (fun k:Nat=>[]) (fun k:Nat=>k≤t.length∧∀ j,j<k→D3 (t.getD j e0)=true) (fun k:Nat=>t.length-k) 0 ?_ ?_ ?_
  ·simp
  ·exact Qy
  rintro k ⟨hk,hno⟩;rcases Zl k t.length with ⟨hlt,Z2⟩|⟨hlt,Z2⟩
  ·obtain ⟨hf1,hf2⟩:=hN (t.getD k e0) (by simp [hlt])
   have Qd:=Zo e0 hlt;have Kq:w438k:=⟨⟩;exact V3
  ·have hall:t.all D3=true:=B4 (p:=D3) e0 fun j hj=>hno j (by omega)
   have hT:Zan t:=⟨by omega,fun n hn=>Zic (List.all_eq_true.1 hall n hn)⟩
   have hL:Zqp t:=fun n hn=>(hN n hn).1.2.2.1;rw [hall,Bool.true_and] at hr;have Kq:w439k:=⟨⟩;exact V3
 ·rename_i h1 h3;exact heb (by unfold Pk;rw [show ((t.getD 0 e0).label==[])=false by rw [Zf];exact h3];simp only [Bool.not_false,Bool.or_true,Bool.true_or])
 ·rename_i h1;exact heb (by unfold Pk;rw [show Yr 10000 (t.length:Int)=true by rw [Jw];exact h1];simp only [Bool.or_true,Bool.true_or])):p:=h
theorem good_Right5:Qr Tryz.prog (105,Dp):=by
 obtain ⟨Kx,Kt,Kc,Kd,Kb,Ku,Kw,K,Yj,Kv,P4,B6,_⟩:=Wi Z3 Zn [] false (Ja good_End5 Fe.eq_def (Ja good_uses5 Rc.eq_def (Ja good_shallow5 Bm.eq_def (Ja good_labelled5 M6.eq_def Wg))));have Ko:=Dp.eq_def;refine Wh K Tryz.func105 [.tmp 2] rfl 59 rfl (fun c hc cvs hpre=>?_);unfold Dp at hpre;obtain ⟨⟨t⟩,rfl,ht,hN⟩:=J4 hpre;simp only at ht hN;cases hc;refine Ys 3 ?_;by_cases h0:t.length=0
 ·have Qh:((t.length:Int)==0)=true:=by simp [h0]
  have Kq:w436k:=⟨⟩;exact V3
 have Qh:((t.length:Int)==0)=false:=by rw [Zf];omega
 have hlt0:0<t.length:=by omega
 have heb:Pk t=true→false=Hf t:=by
  intro h;unfold Hf;rw [h];rfl
 have Qi:=Zo e0 hlt0;have Kq:w437k:=⟨⟩;exact V3
def Hc (n:Part):Part:=⟨n.kind,n.label,n.name,n.bind,n.many,n.num,n.t.map Ab,n.u.map Ab⟩
def Zlg (x y:Part):Bool:=(x.kind==y.kind)&&((x.label==y.label)&&((x.name==y.name)&&((x.bind==y.bind)&&((x.many==y.many)&&(x.num==y.num)))))
def fN (x y:Part):Bool:=Zlg x y&&(Tn x.t y.t&&Tn x.u y.u)
theorem fM {x y:Part}:fN x y=true↔Hc x=Hc y:=by
 cases x;cases y;unfold fN Zlg Hc Tn;simp [and_assoc]
def Ai (a b:List Part):Bool:=a.map Hc==b.map Hc
def Zqo (n:Part):Prop:=n.t.length≤9223372036854775807∧n.u.length≤9223372036854775807
def Zmg (a:List Part):Prop:=a.length≤9223372036854775807∧∀ n∈a,Zqo n
def T5:Con:=Wc (fun (a b:Sl Part)=>Zmg a.l∧Zmg b.l) (fun a b=>Ai a.l b.l)
structure w443k:Prop
theorem w443k.k (_:w443k) {p:Prop} (h:p:=by
 repeat' first|exact Qg|with_reducible apply And.intro|intro _
 all_goals first|with_reducible exact Jf|omega|assumption|(symm;apply hbad;clear hbad hyes hno Qi hR2 hQ Qd Z5 K hA hB;simp_all;done)|(refine ⟨k+1,by exact Qy,by omega,Eq.mpr hQ (hyes ?_),by omega⟩;clear hbad hyes hno Qi hR2 hQ Qd Z5 K hA hB;simp_all;done)|skip):p:=h
structure w442k:Prop
theorem w442k.k (_:w442k) {p:Prop} (h:p:=by
 repeat' first|exact Qg|with_reducible apply And.intro|intro _
 refine Zh [4,6,7,13,14,15,16,17,18,19,20,21,22,23,24,25,26,27,28,29,30,31,32,33,34,35,36,37,38,39,40,41,42,43,44,45,46,47,48,49,50,51,52,53,54,55,56,57,58,59,60,61,62,63,64,65,66,67,68,69,70,71,72,73,74,75,76,77,78,79,80] (fun k:Nat=>[(5,.d (.int .i64 k))]) (fun k:Nat=>[]) (fun k:Nat=>k≤a.length∧∀ j,j<k→Hc (a.getD j e0)=Hc (b.getD j e0)) (fun k:Nat=>a.length-k) 0 ?_ ?_ ?_
 ·simp
 ·exact Qy
 rintro k ⟨hk,hno⟩;rcases Zl k a.length with ⟨hlt,Z2⟩|⟨hlt,Z2⟩
 ·have hlt2:k<b.length:=by omega
  have Qd:=Zo e0 hlt;have Z5:=Zo e0 hlt2;obtain ⟨s1,s2⟩:=hA (a.getD k e0) (by simp [hlt])
  obtain ⟨s3,s4⟩:=hB (b.getD k e0) (by simp [hlt2])
  have hbad:fN (a.getD k e0) (b.getD k e0)=false→R=false:=by
   intro h;rw [←hR2,Zf];intro e;have h1:(a.map Hc).getD k e0=(b.map Hc).getD k e0:=by rw [e]
   have h2:Hc (a.getD k e0)=Hc (b.getD k e0):=by simpa [hlt,hlt2] using h1
   rw [fM.2 h2] at h;cases h
  have hyes:fN (a.getD k e0) (b.getD k e0)=true→∀ j,j<k+1→Hc (a.getD j e0)=Hc (b.getD j e0):=fun h=>U7 hno (fM.1 h);obtain ⟨Q,hQ⟩:=exq ((∀ j,j<k+1→Hc (a.getD j e0)=Hc (b.getD j e0)));rw [hQ] at hyes;obtain ⟨x,hx⟩:=exq (a.getD k e0);obtain ⟨y,hy⟩:=exq (b.getD k e0);rw [hx] at Qd s1 s2 hbad hyes;rw [hy] at Z5 s3 s4 hbad hyes;unfold fN Zlg at hbad hyes;obtain ⟨b1,h1⟩:=exq ((x.kind==y.kind));obtain ⟨b5,h5⟩:=exq ((x.many==y.many));obtain ⟨b6,h6⟩:=exq ((x.num==y.num));obtain ⟨b7,Q2⟩:=exq (Tn x.t y.t);obtain ⟨b8,Qz⟩:=exq (Tn x.u y.u);have Z9:(x.kind != y.kind)=!b1:=by rw [bne,h1]
  have Qu:(x.many != y.many)=!b5:=by rw [bne,h5]
  have Q0:(x.num != y.num)=!b6:=by rw [bne,h6]
  rw [h1,h5,h6,Q2,Qz] at hbad hyes;have Kq:w443k:=⟨⟩;exact V3
 ·have hr:R=true:=by
   rw [←hR2,Zp];refine List.ext_getElem (by simp [hne]) fun j h1 h2=>?_
   rw [Zk] at h1 h2;have:=hno j (by omega)
   simpa [h1,h2] using this
  subst hr;exact Zip):p:=h
theorem good_Same5:Qr Tryz.prog (131,T5):=by
 obtain ⟨Kx,Kt,Kc,Kd,Kb,Ku,Kw,K,Yj,_⟩:=Wi Z3 Zn [] false (Ja good_Same3 T6.eq_def Wg);have Ko:=T5.eq_def;refine Wh K Tryz.func131 [.tmp 4] rfl 81 rfl (fun c hc cvs hpre=>?_);unfold T5 at hpre;obtain ⟨⟨a⟩,⟨b⟩,rfl,hIa,hIb⟩:=Jr hpre;obtain ⟨ha,hA⟩:Zmg a:=hIa;obtain ⟨hb,hB⟩:Zmg b:=hIb;clear hpre;obtain ⟨R,Qi⟩:=exq (Ai a b);have hR2:=Qi;unfold Ai at hR2;by_cases hne:a.length=b.length
 case neg =>
  have hr:R=false:=by
   rw [←hR2,Zf];intro h;have:=congrArg List.length h;rw [Zk,Zk] at this;exact hne this
  have Qh:((a.length:Int) != (b.length:Int))=true:=by rw [bne_iff_ne];omega
  subst hr;cases hc;refine Ys 5 ?_;exact Zip
 have Qh:((a.length:Int) != (b.length:Int))=false:=by rw [bne_eq_false_iff_eq];omega
 cases hc;refine Ys 5 ?_;have Kq:w442k:=⟨⟩;exact V3
theorem Zlw {a b:List Part} (h:(a==b)=true):Ai a b=true:=by
 rw [eq_of_beq h];unfold Ai;exact beq_self_eq_true _
theorem Zbg {a:List Part} (h:a.length≤9223372036854775807) (h2:∀ n∈a,Zqo n):Zmg a:=⟨h,h2⟩
def aM:Con:=Wc (fun (a b:Sl Part)=>Zmg a.l∧Zmg b.l) (fun a b=>a.l==b.l)
structure w444k:Prop
theorem w444k.k (_:w444k) {p:Prop} (h:p:=by
 repeat' first|exact Qg|with_reducible apply And.intro|intro _
 all_goals first|exact Zbg ha hA|exact Zbg hb hB|skip):p:=h
structure w446k:Prop
theorem w446k.k (_:w446k) {p:Prop} (h:p:=by
 repeat' first|exact Qg|with_reducible apply And.intro|intro _
 all_goals first|with_reducible exact Jf|omega|assumption|(symm;apply hbad;clear hbad hyes hno Qi hQ Qd Z5 K hA hB;simp_all;done)|(refine ⟨k+1,by exact Qy,by omega,Eq.mpr hQ (hyes ?_),by omega⟩;clear hbad hyes hno Qi hQ Qd Z5 K hA hB;simp_all;done)|skip):p:=h
structure w445k:Prop
theorem w445k.k (_:w445k) {p:Prop} (h:p:=by
 repeat' first|exact Qg|with_reducible apply And.intro|intro _
 all_goals first|exact Zbg ha hA|exact Zbg hb hB|skip
 refine Zh [4,10,11,12,13,14,15,16,17,18,19,20,21,22,23,24,25,26,27,28,29,30,31,32,33,34,35,36,37,38,39,40,41] (fun k:Nat=>[(5,.d (.int .i64 k))]) (fun k:Nat=>[]) (fun k:Nat=>k≤a.length∧∀ j,j<k→a.getD j e0=b.getD j e0) (fun k:Nat=>a.length-k) 0 ?_ ?_ ?_
 ·simp
 ·exact Qy
 rintro k ⟨hk,hno⟩;rcases Zl k a.length with ⟨hlt,Z2⟩|⟨hlt,Z2⟩
 ·have hlt2:k<b.length:=by omega
  have Qd:=Zo e0 hlt;have Z5:=Zo e0 hlt2;obtain ⟨s1,s2⟩:=hA (a.getD k e0) (by simp [hlt])
  obtain ⟨s3,s4⟩:=hB (b.getD k e0) (by simp [hlt2])
  have hnk:Hc (a.getD k e0)=Hc (b.getD k e0):=by
   have Z9:(a.map Hc).getD k e0=(b.map Hc).getD k e0:=by rw [hmap]
   simpa [hlt,hlt2] using Z9
  have hbad:a.getD k e0≠b.getD k e0→R=false:=by
   intro h;rw [←Qi,Zf];intro e;exact h (by rw [e])
  have hyes:a.getD k e0=b.getD k e0→∀ j,j<k+1→a.getD j e0=b.getD j e0:=fun h=>U7 hno h;obtain ⟨Q,hQ⟩:=exq ((∀ j,j<k+1→a.getD j e0=b.getD j e0));rw [hQ] at hyes;obtain ⟨x,hx⟩:=exq (a.getD k e0);obtain ⟨y,hy⟩:=exq (b.getD k e0);rw [hx] at Qd s1 s2 hbad hyes hnk;rw [hy] at Z5 s3 s4 hbad hyes hnk;have hxy:x=y↔((x.t==y.t)&&(x.u==y.u))=true:=by
   constructor
   ·rintro rfl;simp
   ·intro h;rw [Zg,Zp,Zp] at h;cases x;cases y;unfold Hc at hnk;simp only [Part.mk.injEq] at hnk h ⊢;exact ⟨hnk.1,hnk.2.1,hnk.2.2.1,hnk.2.2.2.1,hnk.2.2.2.2.1,hnk.2.2.2.2.2.1,h.1,h.2⟩
  obtain ⟨b1,Z9⟩:=exq ((x.t==y.t));obtain ⟨b2,Qu⟩:=exq ((x.u==y.u));rw [Z9,Qu] at hxy;rw [ne_eq,hxy] at hbad;rw [hxy] at hyes;clear hxy;have Kq:w446k:=⟨⟩;exact V3
 ·have hr:R=true:=by
   rw [←Qi,Zp];refine List.ext_getElem hne fun j Z9 Qu=>?_;have:=hno j (by omega)
   simpa [Z9,Qu] using this
  subst hr;exact Zip):p:=h
theorem good_One5:Qr Tryz.prog (93,aM):=by
 obtain ⟨Kx,Kt,Kc,Kd,Kb,Ku,Kw,K,Yj,Kv,_⟩:=Wi Z3 Zn [] false (Ja good_One3 T7.eq_def (Ja good_Same5 T5.eq_def Wg));have Ko:=aM.eq_def;refine Wh K Tryz.func93 [.tmp 4] rfl 42 rfl (fun c hc cvs hpre=>?_);unfold aM at hpre;obtain ⟨⟨a⟩,⟨b⟩,rfl,hIa,hIb⟩:=Jr hpre;obtain ⟨ha,hA⟩:Zmg a:=hIa;obtain ⟨hb,hB⟩:Zmg b:=hIb;clear hpre;obtain ⟨R,Qi⟩:=exq ((a==b));cases Qh:Ai a b with
 | false =>
  have hr:R=false:=by
   rw [←Qi,Bool.eq_false_iff];intro h;rw [Zlw h] at Qh;cases Qh
  subst hr;cases hc;refine Ys 2 ?_;have Kq:w444k:=⟨⟩;exact V3
 | true =>
 have hmap:a.map Hc=b.map Hc:=by unfold Ai at Qh;exact eq_of_beq Qh
 have hne:a.length=b.length:=by have:=congrArg List.length hmap;rwa [Zk,Zk] at this
 cases hc;refine Ys 2 ?_;have Kq:w445k:=⟨⟩;exact V3
structure Ch where
 site:Int
 t:List Node
 deriving DecidableEq
instance encCh:Enc Ch:=⟨fun a=>.agg [.int .i64 a.site,.list 3 (a.t.map enc)],fun x=>match x with
 | .agg [a,b]=>⟨a.i,b.l.map dec⟩
 | _=>⟨0,[]⟩,fun a=>by
  have h:∀ l:List Node,(l.map (enc:Node→D)).map dec=l:=fun l=>Jz;cases a;simp [D.l,D.i,h]⟩
instance szCh:Sz Ch:=⟨2⟩
def c0:Ch:=⟨0,[]⟩
abbrev ty (l:List Ch) (k:Nat):List Node:=(l.getD k c0).t
abbrev si (l:List Ch) (k:Nat):Int:=(l.getD k c0).site
def Zax (t:List Node):Bool:=t.all fun n=>n.kind != 0
def Zlh (t:List Node):Bool:=W0 t&&(Em t&&Zax t)
def Zqw (l:List Ch) (k:Nat):Bool:=!(Yr (si l k) 1||(Yr 0 (k:Int)&&Xu (si l k) (si l (k-1))))&&Zlh (ty l k)
def right11 (l:List Ch):Bool:=(List.range l.length).all (Zqw l)
section
variable {α β:Type} [BEq α]
def Zbk (x:α):List α→Bool
 | []=>false
 | y::l=>(x==y)||Zbk x l
def E4 (x:α) (z:β):List α→List β→β
 | y::ks,v::vs=>cond (x==y) v (E4 x z ks vs)
 | _,_=>z
def As (x:α) (ks:List α):List α:=cond (Zbk x ks) ks (ks++[x])
def E3 (x:α) (v:β):List α→List β→List β
 | y::ks,u::vs=>cond (x==y) (v::vs) (u::E3 x v ks vs)
 | _,_=>[v]
theorem zG {x:α} {v:β}:∀ {ks:List α} {vs:List β},ks.length=vs.length→(E3 x v ks vs).length=(As x ks).length
 | [],[],_=>rfl
 | [],_::_,h=>by simp at h
 | _::_,[],h=>by simp at h
 | k::ks,u::vs,h=>by
  have h':ks.length=vs.length:=by simpa using h
  have ih:=zG (x:=x) (v:=v) h';unfold As at ih ⊢;simp only [E3,Zbk];cases hx:(x==k) with
  | true=>simp only [cond_true,Bool.true_or,Zi,h']
  | false =>
   simp only [cond_false,Bool.false_or,Zi,ih];cases Zbk x ks<;>simp
variable [LawfulBEq α]
theorem Zd2 {x y:α} {z v:β}:∀ {ks:List α} {vs:List β},ks.length=vs.length→E4 x z (As y ks) (E3 y v ks vs)=cond (x==y) v (E4 x z ks vs)
 | [],[],_=>by
  show E4 x z [y] [v]=_;cases h:x==y<;>simp [E4,h]
 | [],_::_,h=>by simp at h
 | _::_,[],h=>by simp at h
 | k::ks,u::vs,h=>by
  have h':ks.length=vs.length:=by simpa using h
  have ih:=Zd2 (x:=x) (y:=y) (z:=z) (v:=v) h';unfold As at ih ⊢;simp only [E3,Zbk];cases hk:(y==k) with
  | true =>
   have e:=eq_of_beq hk;subst e;simp only [cond_true,Bool.true_or,E4];cases x==y<;>rfl
  | false =>
   simp only [cond_false,Bool.false_or];cases hh:Zbk y ks with
   | true =>
    rw [hh] at ih;simp only [cond_true] at ih ⊢;simp only [E4,ih];cases hxk:(x==k) with
    | true =>
     have e:=eq_of_beq hxk;subst e;have:(x==y)=false:=by rw [Zf] at hk ⊢;exact fun e=>hk e.symm
     rw [this];rfl
    | false=>rfl
   | false =>
    rw [hh] at ih;simp only [cond_false] at ih ⊢;simp only [List.cons_append,E4,ih];cases hxk:(x==k) with
    | true =>
     have e:=eq_of_beq hxk;subst e;have:(x==y)=false:=by rw [Zf] at hk ⊢;exact fun e=>hk e.symm
     rw [this];rfl
    | false=>rfl
end
def named (s:List UInt8):List Node→List Node
 | []=>[]
 | n::r=>⟨n.kind,s,n.n⟩::r
theorem yH {s:List UInt8} {l:List Node}:(named s l).length=l.length:=by cases l<;>rfl
theorem yX {P:List Node} {n:Node} {r:List Node} {s:List UInt8}:((P++n::r).map (enc:Node→D)).set P.length (.agg [.int .i64 n.kind,.str s,.int .i64 n.n])=(P++named s (n::r)).map enc:=by
 rw [List.map_append,List.map_append,List.set_append];simp [named,Qf]
theorem Zef {P:List Node} {n:Node} {r:List Node}:el ((P++n::r).map (enc:Node→D)) P.length=enc n:=by
 unfold el;simp
def Znt:List Ch→Int→Option (List Node)
 | [],_=>none
 | c::l,s=>if c.site=s then some c.t else Znt l s
def Zoq (l:List Ch):Prop:=∀ i j,i<j→j<l.length→si l i<si l j
theorem Zir {l:List Ch} (h:right11 l=true):Zoq l:=by
 unfold right11 at h;rw [List.all_eq_true] at h;have step:∀ j,j+1<l.length→si l j<si l (j+1):=by
  intro j hj;have:=h (j+1) (List.mem_range.2 hj);unfold Zqw at this;simp only [Zg,Bool.not_eq_true',Bool.or_eq_false_iff,Bool.and_eq_false_iff,Q3] at this;have h2:=this.1.2;simp only [Nat.add_sub_cancel] at h2;rcases h2 with h2|h2
  ·omega
  ·rw [←Bool.not_eq_true,Qp] at h2;omega
 intro i j hij
 induction j with
 | zero=>omega
 | succ j ih =>
  intro hj;have:=step j hj;rcases Nat.lt_or_ge i j with h1|h1
  ·have:=ih h1 (by omega)
   omega
  ·have:i=j:=by omega
   subst this;exact step i hj
theorem Zhw {l:List Ch} (h:right11 l=true):∀ c∈l,1≤c.site∧W0 c.t=true∧Em c.t=true∧Zax c.t=true:=by
 unfold right11 at h;rw [List.all_eq_true] at h;intro c hc;obtain ⟨k,hk,rfl⟩:=List.mem_iff_getElem.1 hc;have:=h k (List.mem_range.2 hk);unfold Zqw Zlh si ty at this;have hg:l.getD k c0=l[k]:=by simp [hk]
 rw [hg] at this;simp only [Zg,Bool.not_eq_true',Bool.or_eq_false_iff,Q3] at this;exact ⟨this.1.1,this.2.1,this.2.2.1,this.2.2.2⟩
theorem Zfq {t:List Node} (h:W0 t=true):0<t.length:=by
 unfold W0 Ma at h;cases t with
 | nil=>simp at h
 | cons n t=>simp
def fillN (l:List Ch) (n:Node):List Node:=if n.kind=0 then (match Znt l n.n with
 | some u=>named n.name u
 | none=>[n]) else [n]
abbrev Zqn (l:List Ch):Prop:=l.Pairwise fun a b=>a.site<b.site
theorem Zfr {l:List Ch} (hu:Zqn l) (hf:∀ c∈l,1≤c.site∧W0 c.t=true∧Em c.t=true∧Zax c.t=true):right11 l=true:=by
 unfold right11;rw [List.all_eq_true];intro k hk;have hk:=List.mem_range.1 hk;have e1:l.getD k c0=l[k]:=by simp [hk]
 obtain ⟨h1,h2,h3,h4⟩:=hf l[k] (List.getElem_mem hk);unfold Zqw si ty Zlh;rw [e1,h2,h3,h4,Bool.and_true,Bool.and_true,Bool.and_true,Bool.not_eq_true',Bool.or_eq_false_iff,Q3];refine ⟨h1,?_⟩;cases k with
 | zero=>rfl
 | succ k =>
  have e2:l.getD (k+1-1) c0=l[k]:=by simp [show k<l.length by omega]
  rw [e2,Bool.and_eq_false_iff];right;rw [←Bool.not_eq_true,Qp];have:=(List.pairwise_iff_getElem.1 hu) k (k+1) (by omega) hk (by omega)
  omega
structure Mrg (l0 l1:List Ch) (i k:Nat) (B:List Ch):Prop where
 li:i≤l0.length
 lk:k≤l1.length
 len:B.length=i+k
 mem:∀ c,c∈B↔c∈l0.take i∨c∈l1.take k
 ups:Zqn B
 lo0:∀ c∈B,i<l0.length→c.site<si l0 i
 lo1:∀ c∈B,k<l1.length→c.site<si l1 k
theorem Mrg.nil {l0 l1:List Ch}:Mrg l0 l1 0 0 []:=⟨by omega,by omega,rfl,by simp,List.Pairwise.nil,by simp,by simp⟩
theorem Zg5 {l:List Ch} (h:right11 l=true) {i:Nat} (hi:i+1<l.length):si l i<si l (i+1):=Zir h i (i+1) (by omega) hi
theorem An {l:List Ch} {i:Nat} (h:i<l.length) (c:Ch):c∈l.take (i+1)↔c∈l.take i∨c=l.getD i c0:=by
 rw [Gp c0 h,List.mem_append,Zr]
theorem Zca {B:List Ch} {c:Ch} (hB:Zqn B) (h:∀ b∈B,b.site<c.site):Zqn (B++[c]):=by
 rw [Zqn,List.pairwise_append];exact ⟨hB,List.pairwise_singleton _ _,fun a ha b hb=>by rw [Zr] at hb;subst hb;exact h a ha⟩
theorem Mrg.left {l0 l1:List Ch} (h0:right11 l0=true) {i k:Nat} {B:List Ch} (h:Mrg l0 l1 i k B) (hi:i<l0.length) (hlt:k<l1.length→si l0 i<si l1 k):Mrg l0 l1 (i+1) k (B++[l0.getD i c0]):=by
 refine ⟨hi,h.lk,by simp [h.len];omega,fun c=>?_,Zca h.ups fun b hb=>h.lo0 b hb hi,fun c hc hi2=>?_,fun c hc hk=>?_⟩
 ·rw [List.mem_append,Zr,h.mem,An hi];constructor
  ·rintro ((h|h)|h)
   ·exact .inl (.inl h)
   ·exact .inr h
   ·exact .inl (.inr h)
  ·rintro ((h|h)|h)
   ·exact .inl (.inl h)
   ·exact .inr h
   ·exact .inl (.inr h)
 ·have hn:=Zg5 h0 hi2;rcases List.mem_append.1 hc with hc|hc
  ·have:=h.lo0 c hc hi;omega
  ·rw [Zr] at hc;subst hc;exact hn
 ·rcases List.mem_append.1 hc with hc|hc
  ·exact h.lo1 c hc hk
  ·rw [Zr] at hc;subst hc;exact hlt hk
theorem Mrg.right {l0 l1:List Ch} (h1:right11 l1=true) {i k:Nat} {B:List Ch} (h:Mrg l0 l1 i k B) (hk:k<l1.length) (hlt:i<l0.length→si l1 k<si l0 i):Mrg l0 l1 i (k+1) (B++[l1.getD k c0]):=by
 refine ⟨h.li,hk,by simp [h.len];omega,fun c=>?_,Zca h.ups fun b hb=>h.lo1 b hb hk,fun c hc hi=>?_,fun c hc hk2=>?_⟩
 ·rw [List.mem_append,Zr,h.mem,An hk,or_assoc]
 ·rcases List.mem_append.1 hc with hc|hc
  ·exact h.lo0 c hc hi
  ·rw [Zr] at hc;subst hc;exact hlt hi
 ·have hn:=Zg5 h1 hk2;rcases List.mem_append.1 hc with hc|hc
  ·have:=h.lo1 c hc hk;omega
  ·rw [Zr] at hc;subst hc;exact hn
theorem Mrg.whole {l0 l1 B:List Ch} (h:Mrg l0 l1 l0.length l1.length B) (c:Ch):c∈B↔c∈l0∨c∈l1:=by
 have:=h.mem c;rwa [List.take_length,List.take_length] at this
theorem Mrg.right11 {l0 l1 B:List Ch} (h0:right11 l0=true) (h1:Ty.right11 l1=true) (h:Mrg l0 l1 l0.length l1.length B):Ty.right11 B=true :=
 Zfr h.ups fun c hc=>by
  rcases (h.whole c).1 hc with hc|hc
  ·exact Zhw h0 c hc
  ·exact Zhw h1 c hc
theorem map_snoc {B:List Ch} {x:Ch}:(B++[x]).map (enc:Ch→D)=B.map enc++[.agg [.int .i64 x.site,.list 3 (x.t.map enc)]]:=by rw [List.map_append];rfl
def jF {A B C E R:Type} [Enc A] [Enc B] [Enc C] [Enc E] [Enc R] (p:A→B→C→E→Prop) (f:A→B→C→E→R):Con:=⟨[false,false,false,false],[false],fun c=>match c with
 | [.d x,.d y,.d z,.d w]=>Up A x∧Up B y∧Up C z∧Up E w∧p (dec x) (dec y) (dec z) (dec w)
 | _=>False,fun c=>match c with
 | [.d x,.d y,.d z,.d w]=>.d (enc (f (dec x) (dec y) (dec z) (dec w)))
 | _=>.d .nilp⟩
theorem Zkd:type_of% @jF.eq_def:=@jF.eq_def
theorem Zbs {A B C E R:Type} [Enc A] [Enc B] [Enc C] [Enc E] [Enc R] {p:A→B→C→E→Prop} {f:A→B→C→E→R} {c:List CV} (h:(jF p f).pre c):∃ a b d e,c=[.d (enc a),.d (enc b),.d (enc d),.d (enc e)]∧p a b d e:=by
 unfold jF at h;simp only at h;split at h
 ·next x y z w=>exact ⟨dec x,dec y,dec z,dec w,by rw [←h.1,←h.2.1,←h.2.2.1,←h.2.2.2.1],h.2.2.2.2⟩
 ·exact h.elim
def Mj (s:List UInt8) (i:Int) (a b:UInt8):Bool:=Yr i s.length&&Xs (s.getD i.toNat 0) a b
def Rj:Con:=jF (fun (s:List UInt8) (i:Int) (_ _:UInt8)=>s.length≤1000000∧0≤i∧i≤2000000) (fun s i a b=>Mj s i a b)
theorem Zgd:Qr Tryz.prog (246,Rj):=by
 obtain ⟨Kx,Kt,Kc,Kd,Kb,Ku,Kw,K,Yj,_⟩:=Wi Z3 Zn [] false (Ja good_within fV Wg);have Ko:=Rj.eq_def;refine Wh K Tryz.func246 [.tmp 8] rfl 21 rfl (fun c hc cvs hpre=>?_);unfold Rj at hpre;obtain ⟨s,i,a,b,rfl,hs,hi0,hi1⟩:=Zbs hpre;obtain ⟨i,rfl⟩:∃ n:Nat,i=n:=⟨i.toNat,by omega⟩
 obtain ⟨R,Z2⟩:=exq (Mj s i a b);have Qi:=Z2;unfold Mj at Qi;rw [Ze] at Qi;rcases Zl i s.length with ⟨hlt,Qh⟩|⟨hlt,Qh⟩
 ·rw [Qh,Bool.true_and] at Qi;cases hc;have Qd:=@jF.eq_def;exact M2
 ·rw [Qh,Bool.false_and] at Qi;subst Qi;cases hc;have Qd:=@jF.eq_def;exact Zip
def Zf3 (s:List UInt8) (i:Nat) (c:UInt8):Nat :=
 if c<128 then 1
 else if (Xs c 194 223&&Mj s (i+1) 128 191)=true then 2
 else if (Xs c 224 239&&(Mj s (i+1) (if c=224 then 160 else 128) (if c=237 then 159 else 191)&&Mj s (i+2) 128 191))=true then 3
 else if (Xs c 240 244&&(Mj s (i+1) (if c=240 then 144 else 128) (if c=244 then 143 else 191)&&(Mj s (i+2) 128 191&&Mj s (i+3) 128 191)))=true then 4
 else 0
def Oi (s:List UInt8) (i:Nat):Nat:=Zf3 s i (s.getD i 0)
theorem iF {s:List UInt8} {i:Int} {a b:UInt8} (h:Mj s i a b=true):i<s.length:=by
 unfold Mj at h;rw [Zg,Jw] at h;exact h.1
theorem Zdq {s:List UInt8} {i:Nat} (hi:i<s.length):i+Oi s i≤s.length:=by
 unfold Oi Zf3;obtain ⟨a,ha⟩:=exq ((if s.getD i 0=224 then (160:UInt8) else 128))
 obtain ⟨b,hb⟩:=exq ((if s.getD i 0=237 then (159:UInt8) else 191))
 obtain ⟨c,hc⟩:=exq ((if s.getD i 0=240 then (144:UInt8) else 128))
 obtain ⟨d,hd⟩:=exq ((if s.getD i 0=244 then (143:UInt8) else 191))
 rw [ha,hb,hc,hd];split
 ·omega
 split
 ·rename_i h;rw [Zg] at h;have:=iF h.2;omega
 split
 ·rename_i h;simp only [Zg] at h;have:=iF h.2.2;omega
 split
 ·rename_i h;simp only [Zg] at h;have:=iF h.2.2.2;omega
 ·omega
def eW (c:UInt8):Int:=if Xs c 48 57=true then (c.toNat:Int)-48 else if Xs c 97 102=true then (c.toNat:Int)-97+10 else -1
theorem Zg4 {c:UInt8}:-1≤eW c∧eW c≤15:=by
 unfold eW Xs;split
 ·rename_i h;simp only [Zg,decide_eq_true_eq,UInt8.le_iff_toNat_le] at h;have h1:(48:UInt8).toNat=48:=rfl;have h2:(57:UInt8).toNat=57:=rfl;omega
 split
 ·rename_i h;simp only [Zg,decide_eq_true_eq,UInt8.le_iff_toNat_le] at h;have h1:(97:UInt8).toNat=97:=rfl;have h2:(102:UInt8).toNat=102:=rfl;omega
 ·omega
def Zoi (s:List UInt8) (i:Nat) (c:UInt8):List UInt8×Int :=
 if c=92∨c=34 then ((s.take (i+2)).drop (i+1),2)
 else if c=110 then ([10],2)
 else if c=116 then ([9],2)
 else if c=120∧i+3<s.length∧0≤eW (s.getD (i+2) 0)∧0≤eW (s.getD (i+3) 0) then ([UInt8.ofNat (16*eW (s.getD (i+2) 0)+eW (s.getD (i+3) 0)).toNat],4)
 else ([],0)
def eH (s:List UInt8) (i:Nat):List UInt8×Int:=if s.length≤i+1 then ([],0) else Zoi s i (s.getD (i+1) 0)
theorem Zhy {s:List UInt8} {i:Nat} (hi:i<s.length):0≤(eH s i).2∧i+(eH s i).2.toNat≤s.length∧(eH s i).1.length≤(eH s i).2.toNat:=by
 unfold eH;split
 ·exact ⟨by simp,by simp;omega,by simp⟩
 unfold Zoi;split
 ·exact ⟨by simp,by simp;omega,by simp;omega⟩
 split
 ·exact ⟨by simp,by simp;omega,by simp⟩
 split
 ·exact ⟨by simp,by simp;omega,by simp⟩
 split
 ·rename_i h;exact ⟨by simp,by simp;omega,by simp⟩
 ·exact ⟨by simp,by simp;omega,by simp⟩
def Ax:Nat→List UInt8→Nat→List UInt8→List UInt8×Int×Int
 | 0,_,_,_=>([],0,2)
 | f+1,s,i,out =>
  if s.length≤i then ([],0,2)
  else if s.getD i 0=34 then (out,(i:Int)+1,0)
  else if Oi s i=0∨s.getD i 0<32∨s.getD i 0=127 then ([],0,2)
  else if s.getD i 0=92 then (if (eH s i).2=0 then ([],0,2) else Ax f s (i+(eH s i).2.toNat) (out++(eH s i).1))
  else Ax f s (i+Oi s i) (out++(s.take (i+Oi s i)).drop i)
def D9 (s:List UInt8):List UInt8×Int×Int:=if s.length=0∨s.getD 0 0≠34 then ([],0,2) else Ax s.length s 1 []
theorem Zar {s:List UInt8}:∀ {f i:Nat} {out:List UInt8},1≤i→i≤s.length→out.length≤i→(Ax f s i out).2.2=0→1≤(Ax f s i out).2.1∧(Ax f s i out).2.1≤s.length∧(Ax f s i out).1.length≤s.length
 | 0,i,out,_,_,_,h=>by simp [Ax] at h
 | f+1,i,out,h1,h2,h3,h=>by
  unfold Ax at h ⊢;split at h
  ·simp at h
  rename_i hi;rw [if_neg hi];split at h
  ·rename_i h4;rw [if_pos h4];exact ⟨by simp only;omega,by simp only;omega,by simp only;omega⟩
  rename_i h4;rw [if_neg h4];split at h
  ·simp at h
  rename_i h5;rw [if_neg h5];split at h
  ·rename_i h6;rw [if_pos h6];split at h
   ·simp at h
   rename_i h7;rw [if_neg h7];have hE:=Zhy (s:=s) (i:=i) (by omega)
   exact Zar (by omega) hE.2.1 (by rw [Zj];omega) h
  ·rename_i h6;rw [if_neg h6];have hE:=Zdq (s:=s) (i:=i) (by omega)
   exact Zar (by omega) hE (by simp only [Zj,List.length_drop,List.length_take];omega) h
theorem Zas {s:List UInt8} (h:(D9 s).2.2=0):1≤(D9 s).2.1∧(D9 s).2.1≤s.length∧(D9 s).1.length≤s.length:=by
 unfold D9 at h ⊢;split at h
 ·simp at h
 rename_i h1;rw [if_neg h1];exact Zar (by omega) (by omega) (by simp) h
structure Tok where
 kind:Int
 text:List UInt8
 frm:Int
 to:Int
 deriving DecidableEq
instance encTok:Enc Tok:=⟨fun a=>.agg [.int .i64 a.kind,.str a.text,.int .i64 a.frm,.int .i64 a.to],fun x=>match x with
 | .agg [a,b,c,d]=>⟨a.i,b.s,c.i,d.i⟩
 | _=>⟨0,[],0,0⟩,fun a=>rfl⟩
instance szTok:Sz Tok:=⟨4⟩
theorem Be:Sz.sz Tok=4:=rfl
theorem Jk {n:Tok}:(enc n:D)=.agg [.int .i64 n.kind,.str n.text,.int .i64 n.frm,.int .i64 n.to]:=rfl
theorem Yf {a c d:Int} {b:List UInt8}:(dec (.agg [.int .i64 a,.str b,.int .i64 c,.int .i64 d]):Tok)=⟨a,b,c,d⟩:=rfl
theorem Yd {a c d:Int} {b:List UInt8}:Up Tok (.agg [.int .i64 a,.str b,.int .i64 c,.int .i64 d])=True:=eq_true rfl
theorem W9 {n:Tok}:Tok.mk n.kind n.text n.frm n.to=n:=rfl
def Yy:Tok:=⟨0,[],0,0⟩
def Zhn:List (List UInt8):=[[105,109,112,111,114,116],[100,101,102],[102,117,110],[108,101,116],[114,101,99],[105,110],[105,102],[116,104,101,110],[101,108,115,101],[99,97,115,101],[111,102],[101,110,100],[116,114,117,101],[102,97,108,115,101],[117,110,105,116],[105,110,116],[98,111,111,108],[115,116,114,105,110,103]]
def A0:List (List UInt8):=[[45,62],[61,61],[38,38],[124,124],[43,43],[40],[41],[123],[125],[91],[93],[44],[59],[58],[46],[61],[124],[43],[45],[42],[47],[60],[63],[33]]
def cW (s:List UInt8):Bool:=Zhn.any fun o=>o==s
def zF (c:UInt8):Bool:=Xs c 97 122||(Xs c 65 90||(Xs c 48 57||c==95))
def Xo (c:UInt8):Bool:=Xs c 48 57
def T3:Bool→List UInt8→Nat
 | _,[]=>0
 | true,c::r=>if c=10 then 1+T3 false r else 1+T3 true r
 | false,c::r=>if c=32∨c=9∨c=10 then 1+T3 false r else if c=35 then 1+T3 true r else 0
def D8 (s:List UInt8) (i:Nat):Nat:=i+T3 false (s.drop i)
theorem O4:∀ (b:Bool) (s:List UInt8),T3 b s≤s.length
 | _,[]=>by simp [T3]
 | true,c::r=>by
  have h1:=O4 true r;have h2:=O4 false r;unfold T3;split<;>simp only [Zi]<;>omega
 | false,c::r=>by
  have h1:=O4 true r;have h2:=O4 false r;unfold T3;split
  ·simp only [Zi];omega
  split<;>simp only [Zi]<;>omega
theorem Fi {s:List UInt8} {i:Nat} (h:i≤s.length):i≤D8 s i∧D8 s i≤s.length:=by
 unfold D8;have:=O4 false (s.drop i);rw [List.length_drop] at this;omega
def bL (s:List UInt8) (i:Nat) (x:List UInt8):Bool:=Xu ((i+x.length:Nat):Int) s.length&&((s.take (i+x.length)).drop i==x)
def P9 (s:List UInt8) (i:Nat):List (List UInt8)→List UInt8
 | []=>[]
 | x::l=>cond (bL s i x) x (P9 s i l)
def Ba (s:List UInt8) (i:Nat):List UInt8:=P9 s i A0
def Ua:List UInt8→Nat
 | []=>0
 | c::r=>cond (zF c) (1+Ua r) 0
theorem Iu:∀ s:List UInt8,Ua s≤s.length
 | []=>by simp [Ua]
 | c::r=>by
  have:=Iu r;unfold Ua;cases zF c
  ·exact Nat.zero_le _
  ·rw [cond_true,Zi];omega
def Ue (s:List UInt8) (i:Nat):List UInt8:=(s.take (i+Ua (s.drop i))).drop i
def Oc (s:List UInt8) (i:Nat):Tok×Bool :=
 if s.getD i 0=34 then (⟨4,(D9 (s.drop i)).1,i,i+(D9 (s.drop i)).2.1⟩,(D9 (s.drop i)).2.2==0)
 else if Pg (Ue s i)=true then (⟨2,Ue s i,i,i+Ua (s.drop i)⟩,true)
 else if cW (Ue s i)=true then (⟨6,Ue s i,i,i+Ua (s.drop i)⟩,true)
 else if Wo (Ue s i)=true then (⟨1,Ue s i,i,i+Ua (s.drop i)⟩,true)
 else if 0<Ua (s.drop i) then
  (if (Ue s i).all Xo=true then (⟨3,Ue s i,i,i+Ua (s.drop i)⟩,Xu ((Ua (s.drop i):Nat):Int) 18) else (⟨1,Ue s i,i,i+Ua (s.drop i)⟩,false))
 else (⟨5,Ba s i,i,i+(Ba s i).length⟩,!(Ba s i==[]))
def S3:Nat→List UInt8→Nat→List Tok→List Tok×Int×Int
 | 0,_,_,_=>([],0,2)
 | f+1,s,i,out =>
  if s.length≤i then (out++[⟨0,[],s.length,s.length⟩],0,0)
  else if (Oc s i).2=false then ([],i,2)
  else S3 f s (D8 s (Oc s i).1.to.toNat) (out++[(Oc s i).1])
def N5 (s:List UInt8):List Tok×Int×Int:=if 100000<s.length then ([],0,3) else S3 (s.length+1) s (D8 s 0) []
structure Site where
 frm:Int
 to:Int
 miss:Bool
 deriving DecidableEq
instance encSite:Enc Site:=⟨fun a=>.agg [.int .i64 a.frm,.int .i64 a.to,.bool a.miss],fun x=>match x with
 | .agg [a,b,c]=>⟨a.i,b.i,c.b⟩
 | _=>⟨0,0,false⟩,fun a=>rfl⟩
instance szSite:Sz Site:=⟨3⟩
theorem Ay:Sz.sz Site=3:=rfl
theorem Yn {n:Site}:(enc n:D)=.agg [.int .i64 n.frm,.int .i64 n.to,.bool n.miss]:=rfl
structure St4 where
 at_:Int
 site:Int
 sites:List Site
 e:Int
 deriving DecidableEq
instance encSt4:Enc St4:=⟨fun a=>.agg [.int .i64 a.at_,.int .i64 a.site,.list 3 (a.sites.map enc),.int .i64 a.e],fun x=>match x with
 | .agg [a,b,c,d]=>⟨a.i,b.i,c.l.map dec,d.i⟩
 | _=>⟨0,0,[],0⟩,fun a=>by
  have h:∀ l:List Site,(l.map (enc:Site→D)).map dec=l:=fun l=>Jz;cases a;simp [D.l,D.i,h]⟩
theorem Su {n:St4}:(enc n:D)=.agg [.int .i64 n.at_,.int .i64 n.site,.list 3 (n.sites.map enc),.int .i64 n.e]:=rfl
theorem G4 {a b d:Int} {c:List Site}:(dec (.agg [.int .i64 a,.int .i64 b,.list 3 (c.map enc),.int .i64 d]):St4)=⟨a,b,c,d⟩:=Enc.dec_enc (St4.mk a b c d)
theorem Gw {a b d:Int} {c:List Site}:Up St4 (.agg [.int .i64 a,.int .i64 b,.list 3 (c.map enc),.int .i64 d])=True:=eq_true (Yc (St4.mk a b c d))
theorem Sb {n:St4}:St4.mk n.at_ n.site n.sites n.e=n:=rfl
def tk (l:List Tok) (i:Int):Tok:=l.getD i.toNat Yy
def Bc (l:List Tok) (i:Int) (x:List UInt8):Bool:=Yr i l.length&&((tk l i).kind==5&&(tk l i).text==x)
def Yx (s:St4) (i e:Int):St4:=⟨i,s.site,s.sites,e⟩
def eQ (t:Tok):Int:=if t.kind≠6 then -1 else if t.text=[105,110,116] then 1 else if t.text=[98,111,111,108] then 2 else if t.text=[115,116,114,105,110,103] then 3 else if t.text=[117,110,105,116] then 4 else -1
def Wm (s:St4):St4:=⟨s.at_+1,s.site,s.sites,s.e⟩
def Yl (l:List Tok) (s:St4) (x:List UInt8):St4:=if s.e≠0 then s else if Bc l s.at_ x=false then Yx s s.at_ 2 else Wm s
def Wy (labels:List (List UInt8)) (done:List UInt8):Nat→Int
 | 0=>-1
 | k+1=>cond (Op.bytesLess done (labels.getD k [])&&(Yr (Wy labels done k) 0||Op.bytesLess (labels.getD k []) (labels.getD (Wy labels done k).toNat []))) (k:Int) (Wy labels done k)
def eA (labels:List (List UInt8)) (types:List (List Node)):Nat→List UInt8→List Node→List Node×Int
 | 0,_,out=>(out,0)
 | k+1,done,out =>
  if Wy labels done types.length<0 then ([],7)
  else eA labels types k (labels.getD (Wy labels done types.length).toNat []) (out++named (labels.getD (Wy labels done types.length).toNat []) (types.getD (Wy labels done types.length).toNat []))
def Ym (kind:Int) (s:List UInt8):Bool:=if kind=7 then Pg s else Wo s
def I1 (kind:Int) (labels:List (List UInt8)) (types:List (List Node)):List Node×Int :=
 if ((kind≠6∧kind≠7)∨labels.length≠types.length)∨(50<types.length∨kind=7∧types.length=0) then ([],1)
 else if ((List.range types.length).all fun k=>Ym kind (labels.getD k []))=false then ([],1)
 else eA labels types types.length [] [⟨kind,[],types.length⟩]
def xT (kind:Int):Int:=if kind=7 then 2 else 1
def eZ (l:List Tok) (kind:Int) (s:St4):Bool:=Xu l.length s.at_||(!((tk l s.at_).kind==xT kind)||((xT kind==1&&!Wo (tk l s.at_).text)||(xT kind==2&&!Pg (tk l s.at_).text)))
section
variable (w:List Tok→St4→List Node×St4)
def Td (l:List Tok) (kind:Int) (between fin:List UInt8):Nat→St4→List (List UInt8)→List (List Node)→List Node×St4
 | 0,s,_,_=>([],s)
 | f+1,s,labels,types =>
  if eZ l kind s=true then ([],Yx s s.at_ 2)
  else if (labels.any fun x=>x==(tk l s.at_).text)=true then ([],Yx s s.at_ 7)
  else if labels.length=50 then ([],Yx s s.at_ 3)
  else if (w l (Yl l (Wm s) [58])).2.e≠0 then ([],(w l (Yl l (Wm s) [58])).2)
  else if Bc l (w l (Yl l (Wm s) [58])).2.at_ between=false then ((I1 kind (labels++[(tk l s.at_).text]) (types++[(w l (Yl l (Wm s) [58])).1])).1,Yl l (w l (Yl l (Wm s) [58])).2 fin)
  else Td l kind between fin f (Wm (w l (Yl l (Wm s) [58])).2) (labels++[(tk l s.at_).text]) (types++[(w l (Yl l (Wm s) [58])).1])
def dK (l:List Tok) (s:St4) (kind:Int) (between fin:List UInt8):List Node×St4:=Td w l kind between fin 51 s [] []
def Mk (d:Nat) (l:List Tok) (s:St4):List Node×St4 :=
 if s.e≠0 then ([],s)
 else if (l.length:Int)≤s.at_ then ([],Yx s l.length 2)
 else if Bc l s.at_ [63]=true then ([⟨0,[],s.site⟩],⟨s.at_+1,s.site+1,s.sites++[⟨(tk l s.at_).frm,(tk l s.at_).to,false⟩],0⟩)
 else if 0≤eQ (tk l s.at_) then ([⟨eQ (tk l s.at_),[],0⟩],Wm s)
 else if Bc l s.at_ [40]=false∧Bc l s.at_ [123]=false∧Bc l s.at_ [91]=false then ([],Yx s s.at_ 2)
 else if d=0 then ([],Yx s s.at_ 4)
 else if (tk l s.at_).text=[123]∧Bc l (s.at_+1) [125]=true then ([⟨6,[],0⟩],Wm (Wm s))
 else if (tk l s.at_).text=[123] then dK w l (Wm s) 6 [44] [125]
 else if (tk l s.at_).text=[91] then dK w l (Wm s) 7 [124] [93]
 else ((w l (Wm s)).1,Yl l (w l (Wm s)).2 [41])
end
def Xd:Nat→List Tok→St4→List Node×St4
 | 0,_,s=>([],s)
 | d+1,l,s =>
  if (Mk (Xd d) d l s).2.e≠0∨Bc l (Mk (Xd d) d l s).2.at_ [45,62]=false then Mk (Xd d) d l s
  else if d=0 then ([],Yx (Mk (Xd d) d l s).2 (Mk (Xd d) d l s).2.at_ 4)
  else (Tk (Mk (Xd d) d l s).1 (Xd d l (Wm (Mk (Xd d) d l s).2)).1,(Xd d l (Wm (Mk (Xd d) d l s).2)).2)
def Yu (l:List Tok) (i site level:Int):List Node×Int×List Site×Int×Int :=
 if i<0∨site<1∨level<1 then ([],0,[],0,1)
 else
  let at_:=if (l.length:Int)<i then (l.length:Int) else i
  let r:=Xd (101-level).toNat l ⟨at_,site,[],0⟩
  if r.2.e≠0 then ([],0,[],r.2.at_,r.2.e)
  else if 10000<r.1.length then ([],0,[],at_,3)
  else if W0 r.1=false then ([],0,[],at_,4)
  else (r.1,r.2.at_,r.2.sites,0,0)
theorem Zm2 {x y:List UInt8}:Op.bytesLess x y=true↔x<y:=by rw [bytesLess_eq,decide_eq_true_eq]
theorem zQ {a b c:List UInt8} (h1:Op.bytesLess a b=true) (h2:Op.bytesLess b c=true):Op.bytesLess a c=true:=by
 rw [Zm2] at *;exact List.lt_trans h1 h2
theorem Ia (a:List UInt8):Op.bytesLess a a=false:=by
 rw [bytesLess_eq,decide_eq_false_iff_not];exact List.lt_irrefl a
theorem zZ {a b:List UInt8} (h1:a≠b) (h2:Op.bytesLess b a=false):Op.bytesLess a b=true:=by
 have h:=less_not a b;rw [h2] at h;cases hb:Op.bytesLess a b with
 | true=>rfl
 | false=>rw [hb,beq_eq_false_iff_ne.2 h1] at h;cases h
theorem Zm0 {s:List UInt8} (h:s≠[]):Op.bytesLess [] s=true:=zZ (Ne.symm h) (Zk5 s)
def Zfe (labels:List (List UInt8)) (done:List UInt8) (f:Nat→Nat):Nat→Nat
 | 0=>0
 | k+1=>Zfe labels done f k+cond (Op.bytesLess done (labels.getD k [])) (f k) 0
theorem L6 (labels:List (List UInt8)) (done:List UInt8):∀ k,(Wy labels done k=-1∧∀ j,j<k→Op.bytesLess done (labels.getD j [])=false) ∨
  ∃ b,b<k∧Wy labels done k=(b:Int)∧Op.bytesLess done (labels.getD b [])=true∧∀ j,j<k→Op.bytesLess done (labels.getD j [])=true→Op.bytesLess (labels.getD j []) (labels.getD b [])=false
 | 0=>.inl ⟨rfl,by omega⟩
 | k+1=>by
  rw [Wy];cases hd:Op.bytesLess done (labels.getD k []) with
  | false =>
   rw [Bool.false_and,cond_false];rcases L6 labels done k with ⟨h1,h2⟩|⟨b,h1,h2,h3,h4⟩
   ·exact .inl ⟨h1,U7 h2 hd⟩
   ·refine .inr ⟨b,by omega,h2,h3,fun j hj hq=>?_⟩
    rcases Nat.lt_or_ge j k with h|h
    ·exact h4 j h hq
    ·have:j=k:=by omega
     subst this;rw [hd] at hq;cases hq
  | true =>
   rw [Bool.true_and];rcases L6 labels done k with ⟨h1,h2⟩|⟨b,h1,h2,h3,h4⟩
   ·rw [h1];refine .inr ⟨k,by omega,rfl,hd,fun j hj hq=>?_⟩
    rcases Nat.lt_or_ge j k with h|h
    ·rw [h2 j h] at hq;cases hq
    ·have:j=k:=by omega
     subst this;exact Ia _
   ·rw [h2,Ze];have hb0:Yr (b:Int) 0=false:=by rw [Q3];omega
    rw [hb0,Bool.false_or];cases hl:Op.bytesLess (labels.getD k []) (labels.getD b []) with
    | false =>
     refine .inr ⟨b,by omega,rfl,h3,fun j hj hq=>?_⟩
     rcases Nat.lt_or_ge j k with h|h
     ·exact h4 j h hq
     ·have:j=k:=by omega
      subst this;exact hl
    | true =>
     refine .inr ⟨k,by omega,rfl,hd,fun j hj hq=>?_⟩
     rcases Nat.lt_or_ge j k with h|h
     ·cases hz:Op.bytesLess (labels.getD j []) (labels.getD k []) with
      | false=>rfl
      | true =>
       have:=zQ hz hl;rw [h4 j h hq] at this;cases this
     ·have:j=k:=by omega
      subst this;exact Ia _
def jE (labels:List (List UInt8)) (n:Nat):Prop:=∀ i j,i<n→j<n→labels.getD i []=labels.getD j []→i=j
theorem fA {labels:List (List UInt8)} {done:List UInt8} {b:Nat} (h3:Op.bytesLess done (labels.getD b [])=true) (f:Nat→Nat):∀ k,jE labels (max k (b+1))→(∀ j,j<k→Op.bytesLess done (labels.getD j [])=true→Op.bytesLess (labels.getD j []) (labels.getD b [])=false) →
  Zfe labels done f k=Zfe labels (labels.getD b []) f k+(if b<k then f b else 0)
 | 0,_,_=>rfl
 | k+1,hA,h4=>by
  have ih:=fA h3 f k (fun i j hi hj=>hA i j (by omega) (by omega)) fun j hj=>h4 j (by omega)
  rw [Zfe,Zfe,ih];by_cases hkb:k=b
  ·subst hkb;rw [h3,Ia,if_neg (by omega),if_pos (by omega)]
   simp
  ·have e:Op.bytesLess done (labels.getD k [])=Op.bytesLess (labels.getD b []) (labels.getD k []):=by
    cases hd:Op.bytesLess done (labels.getD k []) with
    | true =>
     have h5:=h4 k (by omega) hd
     symm;refine zZ (fun e=>?_) h5;have:=hA b k (by omega) (by omega) e
     omega
    | false =>
     cases hz:Op.bytesLess (labels.getD b []) (labels.getD k []) with
     | false=>rfl
     | true=>rw [zQ h3 hz] at hd;cases hd
   rw [e];by_cases hb:b<k
   ·rw [if_pos hb,if_pos (by omega)];omega
   ·rw [if_neg hb,if_neg (by omega)];omega
theorem Zaq {labels:List (List UInt8)} (f:Nat→Nat):∀ k,(∀ j,j<k→labels.getD j []≠[])→Zfe labels [] f k=((List.range k).map f).sum
 | 0,_=>rfl
 | k+1,h=>by
  rw [Zfe,Zaq f k fun j hj=>h j (by omega),Zm0 (h k (by omega)),List.range_succ,List.map_append,List.sum_append]
  simp
def J3 (g:Node→Nat) (t:List Node):Nat:=(t.map g).sum
def cT (g:Node→Nat):Prop:=∀ n s,g ⟨n.kind,s,n.n⟩=g n
theorem Za9 (g:Node→Nat) (a b:List Node):J3 g (a++b)=J3 g a+J3 g b:=by unfold J3;rw [List.map_append,List.sum_append]
theorem Zdc {g:Node→Nat} (hg:cT g) (s:List UInt8) (t:List Node):J3 g (named s t)=J3 g t:=by
 cases t with
 | nil=>rfl
 | cons n t=>unfold J3 named;rw [List.map_cons,List.map_cons,hg]
theorem Zcs {labels:List (List UInt8)} {types:List (List Node)} {n:Nat} (hn:types.length=n) (hA:jE labels n) {g:Node→Nat} (hg:cT g):∀ (k:Nat) (done:List UInt8) (out:List Node),Zfe labels done (fun _=>1) n=k →
  (eA labels types k done out).2=0∧J3 g (eA labels types k done out).1=J3 g out+Zfe labels done (fun j=>J3 g (types.getD j [])) n∧(out≠[]→(eA labels types k done out).1≠[])
 | 0,done,out,hk=>by
  refine ⟨rfl,?_,fun h=>h⟩;have:∀ (f:Nat→Nat) m,Zfe labels done (fun _=>1) m=0→Zfe labels done f m=0:=by
   intro f m
   induction m with
   | zero=>intro _;rfl
   | succ m ih =>
    intro h;rw [Zfe] at h ⊢;cases hb:Op.bytesLess done (labels.getD m []) with
    | true=>rw [hb,cond_true] at h;omega
    | false=>rw [cond_false,ih (by omega)]
  show J3 g out=_;rw [this _ n hk];rfl
 | k+1,done,out,hk=>by
  rw [eA,hn];rcases L6 labels done n with ⟨h1,h2⟩|⟨b,h1,h2,h3,h4⟩
  ·exfalso;have:∀ m,m≤n→Zfe labels done (fun _=>1) m=0:=by
    intro m
    induction m with
    | zero=>intro _;rfl
    | succ m ih=>intro hm;rw [Zfe,ih (by omega),h2 m (by omega)];rfl
   rw [this n (Zm _)] at hk;omega
  ·have hA':jE labels (max n (b+1)):=fun i j hi hj=>hA i j (by omega) (by omega)
   have p1:=fA h3 (fun _=>1) n hA' h4;have p2:=fA h3 (fun j=>J3 g (types.getD j [])) n hA' h4;rw [if_pos h1] at p1 p2;rw [h2,Ze,if_neg (by omega)]
   obtain ⟨r1,r2,r3⟩:=Zcs hn hA hg k (labels.getD b []) (out++named (labels.getD b []) (types.getD b [])) (by omega)
   refine ⟨r1,?_,fun ho=>r3 (by simp [ho])⟩
   rw [r2,Za9,Zdc hg];omega
theorem zK {s:List UInt8} (h:Wo s=true):s≠[]:=by rintro rfl;cases h
theorem Zdu {s:List UInt8} (h:Pg s=true):s≠[]:=by rintro rfl;cases h
theorem Zig {f:List Node→Nat}:∀ (types:List (List Node)),((List.range types.length).map fun j=>f (types.getD j [])).sum=(types.map f).sum:=by
 intro types
 congr 1
 refine List.ext_getElem (by simp) fun j h1 h2=>?_
 simp at h1 h2;simp [h1]
theorem Zks {kind:Int} {labels:List (List UInt8)} {types:List (List Node)} (hk:kind=6∨kind=7) (hl:labels.length=types.length) (h50:types.length≤50) (h1:1≤types.length) (hA:jE labels types.length)
  (hv:∀ j,j<types.length→Ym kind (labels.getD j [])=true) {g:Node→Nat} (hg:cT g) :
  (I1 kind labels types).2=0∧J3 g (I1 kind labels types).1=g ⟨kind,[],types.length⟩+(types.map (J3 g)).sum∧(I1 kind labels types).1≠[]:=by
 unfold I1;rw [if_neg (by omega),if_neg (by rw [Gq hv];simp)]
 have hne:∀ j,j<types.length→labels.getD j []≠[]:=fun j hj=>by
  have:=hv j hj;unfold Ym at this;split at this
  ·exact Zdu this
  ·exact zK this
 have hw:Zfe labels [] (fun _=>1) types.length=types.length:=by
  rw [Zaq _ _ hne];have:∀ n:Nat,((List.range n).map fun _=>1).sum=n:=by
   intro n
   induction n with
   | zero=>rfl
   | succ n ih=>rw [List.range_succ,List.map_append,List.sum_append,ih];rfl
  exact this _
 obtain ⟨r1,r2,r3⟩:=Zcs rfl hA hg types.length [] [⟨kind,[],types.length⟩] hw;refine ⟨r1,?_,r3 (by simp)⟩
 rw [r2,Zaq _ _ hne,Zig (f:=J3 g)];rfl
def G3 (z:Int) (n:Node):Nat:=if n.kind=0∧n.n=z then 1 else 0
theorem Zfy (z:Int):cT (G3 z):=fun _ _=>rfl
theorem gK:cT fun _=>1:=fun _ _=>rfl
theorem yG (t:List Node):J3 (fun _=>1) t=t.length:=by
 unfold J3
 induction t with
 | nil=>rfl
 | cons n t ih=>rw [List.map_cons,List.sum_cons,ih,Zi];omega
structure Eats (l:List Tok) (s:St4) (r:List Node×St4):Prop where
 lo:0≤r.2.at_
 hi:r.2.at_≤l.length
 err:s.e≠0→r.2.e≠0
 len:(r.1.length:Int)≤l.length-s.at_
 ok:r.2.e=0→(r.1.length:Int)≤r.2.at_-s.at_∧r.2.at_≤l.length∧r.1≠[]
 sites:r.2.e=0→s.sites.length≤r.2.sites.length∧(r.2.sites.length:Int)≤s.sites.length+(r.2.at_-s.at_)∧r.2.site=s.site+(r.2.sites.length-s.sites.length)
 cnt:r.2.e=0→∀ z,J3 (G3 z) r.1=if s.site≤z∧z<r.2.site then 1 else 0
theorem Eats.bad {l:List Tok} {s:St4} {i e:Int} (h1:s.at_≤l.length) (h2:0≤i) (h3:e≠0) {q:St4} (hq:q.at_=i) (hq2:q.e=e) (h4:i≤l.length:=by omega):Eats l s ([],q) :=
 ⟨by rw [hq];exact h2,by rw [hq];exact h4,fun _=>by rw [hq2];exact h3,by show (0:Int)≤_;omega,fun h=>absurd h (by rw [hq2];exact h3),fun h=>absurd h (by rw [hq2];exact h3),fun h=>absurd h (by rw [hq2];exact h3)⟩
theorem Ll {l:List Tok} {i:Int} {x:List UInt8} (h:Bc l i x=true):i<l.length:=by
 unfold Bc at h;rw [Zg,Jw] at h;exact h.1
theorem Gv (l:List Tok) (s:St4) (x:List UInt8):(s.e≠0∧Yl l s x=s)∨(s.e=0∧Yl l s x=Yx s s.at_ 2)∨(s.e=0∧Bc l s.at_ x=true∧Yl l s x=Wm s):=by
 unfold Yl;by_cases h:s.e=0
 ·rw [if_neg (by simpa using h)]
  cases hi:Bc l s.at_ x with
  | false=>exact .inr (.inl ⟨h,if_pos rfl⟩)
  | true=>exact .inr (.inr ⟨h,rfl,if_neg (by simp)⟩)
 ·exact .inl ⟨h,if_pos h⟩
structure Had4 (l:List Tok) (kind:Int) (a s:St4) (labels:List (List UInt8)) (types:List (List Node)):Prop where
 e:s.e=0
 hi:s.at_≤l.length
 lo:0≤a.at_
 len:1+((types.map List.length).sum:Int)≤s.at_-a.at_
 s1:a.sites.length≤s.sites.length
 s2:(s.sites.length:Int)≤a.sites.length+(s.at_-a.at_)
 s3:s.site=a.site+(s.sites.length-a.sites.length)
 cnt:∀ z,(types.map (J3 (G3 z))).sum=if a.site≤z∧z<s.site then 1 else 0
 ll:labels.length=types.length
 apart:jE labels labels.length
 ok:∀ j,j<labels.length→Ym kind (labels.getD j [])=true
theorem Zmo (types:List (List Node)):(types.map (J3 fun _=>1)).sum=(types.map List.length).sum:=by
 congr 1
 exact List.map_congr_left fun t _=>yG t
theorem Fg {a b c z:Int} (h1:a≤b) (h2:b≤c):((if a≤z∧z<b then 1 else 0)+(if b≤z∧z<c then 1 else 0):Nat)=if a≤z∧z<c then 1 else 0:=by
 by_cases h3:a≤z∧z<b
 ·rw [if_pos h3,if_neg (by omega),if_pos (by omega)]
 ·rw [if_neg h3];by_cases h4:b≤z∧z<c
  ·rw [if_pos h4,if_pos (by omega)]
  ·rw [if_neg h4,if_neg (by omega)]
theorem Zgs {labels:List (List UInt8)} {x:List UInt8} (h:jE labels labels.length) (hx:(labels.any fun y=>y==x)=false):jE (labels++[x]) (labels++[x]).length:=by
 rw [List.any_eq_false] at hx;have hno:∀ i,i<labels.length→labels.getD i []≠x:=fun i hi e=>by
  have:=hx (labels.getD i []) (by simp [hi])
  rw [e,beq_self_eq_true] at this;exact this rfl
 have g1:∀ i,i<labels.length→(labels++[x]).getD i []=labels.getD i []:=fun i hi=>by simp [Zc,List.getElem?_append_left hi]
 have g2:(labels++[x]).getD labels.length []=x:=by simp
 intro i j hi hj hij;rw [Zj,List.length_singleton] at hi hj;rcases Nat.lt_or_ge i labels.length with h1|h1
 ·rcases Nat.lt_or_ge j labels.length with h2|h2
  ·rw [g1 i h1,g1 j h2] at hij;exact h i j h1 h2 hij
  ·have:j=labels.length:=by omega
   subst this;rw [g1 i h1,g2] at hij;exact absurd hij (hno i h1)
 ·have e1:i=labels.length:=by omega
  subst e1;rcases Nat.lt_or_ge j labels.length with h2|h2
  ·rw [g1 j h2,g2] at hij;exact absurd hij.symm (hno j h2)
  ·omega
theorem Zlx {l:List Tok} {kind:Int} (hk:kind=6∨kind=7) {s:St4} (h:eZ l kind s=false):s.at_<l.length∧Ym kind (tk l s.at_).text=true:=by
 unfold eZ at h;have h1:Xu l.length s.at_=false:=by
  cases hb:Xu l.length s.at_ with
  | false=>rfl
  | true=>rw [hb,Bool.true_or] at h;cases h
 rw [h1,Bool.false_or,Bool.or_eq_false_iff,Bool.or_eq_false_iff] at h;refine ⟨by rw [←Bool.not_eq_true,Qp] at h1;omega,?_⟩
 unfold Ym xT at *;rcases hk with rfl|rfl
 ·rw [if_neg (by decide)] at h ⊢
  have:=h.2.1;simpa using this
 ·rw [if_pos rfl] at h ⊢;have:=h.2.2;simpa using this
section
variable {w:List Tok→St4→List Node×St4} {l:List Tok}
theorem cD (hw:∀ s:St4,0≤s.at_→s.at_≤l.length→Eats l s (w l s)) {kind:Int} (hk:kind=6∨kind=7) {between fin:List UInt8} {a:St4} (ha:a.e=0):∀ (f:Nat) (s:St4) (labels:List (List UInt8)) (types:List (List Node)),
  Had4 l kind a s labels types→labels.length≤50→f+labels.length=51→Eats l a (Td w l kind between fin f s labels types)
 | 0,s,labels,types,h,h51,hf=>by omega
 | f+1,s,labels,types,h,h51,hf=>by
  have hlo:=h.lo;have hhi:=h.hi;have hsum:=h.len;have hs1:a.at_≤l.length:=by omega
  have h0:0≤s.at_:=by omega
  rw [Td];cases hb:eZ l kind s with
  | true=>rw [if_pos rfl];exact Eats.bad (e:=2) hs1 h0 (by decide) rfl rfl
  | false =>
  rw [if_neg (by simp)]
  obtain ⟨hlt,hlab⟩:=Zlx hk hb;cases hany:labels.any fun x=>x==(tk l s.at_).text with
  | true=>rw [if_pos rfl];exact Eats.bad (e:=7) hs1 h0 (by decide) rfl rfl
  | false =>
  rw [if_neg (by simp)]
  by_cases h50:labels.length=50
  ·rw [if_pos h50];exact Eats.bad (e:=3) hs1 h0 (by decide) rfl rfl
  rw [if_neg h50];have hA:(Wm s).at_=s.at_+1:=rfl;have hAe:(Wm s).e=0:=h.e;have hAs:(Wm s).sites=s.sites:=rfl;have hAi:(Wm s).site=s.site:=rfl;obtain ⟨N,hN⟩:=exq (Yl l (Wm s) [58]);have hc:=Gv l (Wm s) [58];rw [hN] at hc ⊢;have hNat:0≤N.at_∧N.at_≤l.length:=by
   rcases hc with ⟨h1,_⟩|⟨_,h2⟩|⟨_,h2,h3⟩
   ·exact absurd hAe h1
   ·rw [h2];exact ⟨by show 0≤(Wm s).at_;omega,by show (Wm s).at_≤_;omega⟩
   ·have:=Ll h2;rw [h3];exact ⟨by show 0≤(Wm s).at_+1;omega,by show (Wm s).at_+1≤_;omega⟩
  have hE:=hw N hNat.1 hNat.2;obtain ⟨r,hr⟩:=exq (w l N);rw [hr] at hE ⊢;by_cases hre:r.2.e=0
  case neg=>rw [if_pos hre];exact Eats.bad hs1 hE.lo hre rfl rfl hE.hi
  rw [if_neg (by simpa using hre)]
  have hNe:N.e=0:=Classical.byContradiction fun e=>hE.err e hre;have hN3:Bc l (Wm s).at_ [58]=true∧N=Wm (Wm s):=by
   rcases hc with ⟨h1,_⟩|⟨_,h2⟩|⟨_,h2,h3⟩
   ·exact absurd hAe h1
   ·rw [h2] at hNe;exact absurd hNe (by show (2:Int)≠0;decide)
   ·exact ⟨h2,h3⟩
  have e1:N.at_=s.at_+2:=by rw [hN3.2];show s.at_+1+1=_;omega
  have e2:N.sites=s.sites:=by rw [hN3.2];rfl
  have e3:N.site=s.site:=by rw [hN3.2];rfl
  obtain ⟨k1,k2,k3⟩:=hE.ok hre;obtain ⟨g1,g2,g3⟩:=hE.sites hre;have g4:=hE.cnt hre;rw [e1] at k1;rw [e2] at g1 g2 g3;rw [e1] at g2;rw [e3] at g3 g4;have m1:=h.s1;have m2:=h.s2;have m3:=h.s3;have hsl:((types++[r.1]).map List.length).sum=(types.map List.length).sum+r.1.length:=by simp
  have hH:Had4 l kind a r.2 (labels++[(tk l s.at_).text]) (types++[r.1]):=by
   refine ⟨hre,k2,hlo,?_,by omega,by omega,by omega,fun z=>?_,by simp [h.ll],Zgs h.apart hany,fun j hj=>?_⟩
   ·rw [hsl];omega
   ·rw [List.map_append,List.sum_append,h.cnt,List.map_singleton,List.sum_singleton,g4];exact Fg (by omega) (by omega)
   ·rw [Zj,List.length_singleton] at hj;rcases Nat.lt_or_ge j labels.length with h1|h1
    ·have:(labels++[(tk l s.at_).text]).getD j []=labels.getD j []:=by simp [Zc,List.getElem?_append_left h1]
     rw [this];exact h.ok j h1
    ·have:j=labels.length:=by omega
     subst this;have:(labels++[(tk l s.at_).text]).getD labels.length []=(tk l s.at_).text:=by simp
     rw [this];exact hlab
  have hll:(labels++[(tk l s.at_).text]).length=(types++[r.1]).length:=hH.ll;have hllen:(labels++[(tk l s.at_).text]).length=labels.length+1:=by simp
  cases hbt:Bc l r.2.at_ between with
  | false =>
   rw [if_pos rfl];have hR:=fun {g:Node→Nat} (hg:cT g)=>Zks (labels:=labels++[(tk l s.at_).text]) (types:=types++[r.1]) hk hll (by omega) (by omega) (by rw [←hll];exact hH.apart) (by rw [←hll];exact hH.ok) hg
   have hone:=(hR gK).2.1;rw [yG,Zmo,hsl] at hone;obtain ⟨row,hrow⟩:=exq (I1 kind (labels++[(tk l s.at_).text]) (types++[r.1]));rw [hrow] at hone ⊢;have hz:=fun z=>(hR (Zfy z)).2.1;rw [hrow] at hz;have hne:=(hR gK).2.2;rw [hrow] at hne;have hdk:∀ z,G3 z ⟨kind,[],(types++[r.1]).length⟩=0:=by
    intro z;unfold G3;rw [if_neg (by intro hh;simp only at hh;omega)]
   have hcz:=fun z=>hH.cnt z;rcases Gv l r.2 fin with ⟨q1,q2⟩|⟨q1,q2⟩|⟨q1,q2,q3⟩
   ·exact absurd hre q1
   ·rw [q2];refine ⟨hE.lo,hE.hi,fun _=>by show (2:Int)≠0;decide,by show (row.1.length:Int)≤_;omega,fun h=>absurd h (by show (2:Int)≠0;decide),fun h=>absurd h (by show (2:Int)≠0;decide),fun h=>absurd h (by show (2:Int)≠0;decide)⟩
   ·have q4:=Ll q2;rw [q3];refine ⟨by show 0≤r.2.at_+1;have:=hE.lo;omega,by show r.2.at_+1≤_;omega,fun h=>absurd ha h,by show (row.1.length:Int)≤_;omega,fun _=>⟨by show (row.1.length:Int)≤r.2.at_+1-a.at_;omega,by show r.2.at_+1≤_;omega,hne⟩,fun _=>⟨hH.s1,by show (r.2.sites.length:Int)≤_+(r.2.at_+1-a.at_);have:=hH.s2;omega,hH.s3⟩,fun _ z=>?_⟩
    show J3 (G3 z) row.1=_;rw [hz z,hdk,Nat.zero_add];exact hcz z
  | true =>
   rw [if_neg (by simp)]
   have q4:=Ll hbt;refine cD hw hk ha f (Wm r.2) _ _ ?_ (by rw [hllen];omega) (by rw [hllen];omega)
   exact ⟨hre,by show r.2.at_+1≤_;omega,hlo,by show _≤r.2.at_+1-a.at_;have:=hH.len;omega,hH.s1,by show (r.2.sites.length:Int)≤_+(r.2.at_+1-a.at_);have:=hH.s2;omega,hH.s3,hH.cnt,hH.ll,hH.apart,hH.ok⟩
theorem zR {d:Nat} (hw:d≠0→∀ s:St4,0≤s.at_→s.at_≤l.length→Eats l s (w l s)) {s:St4} (h0:0≤s.at_) (hL:s.at_≤l.length):Eats l s (Mk w d l s):=by
 unfold Mk;by_cases he:s.e=0
 case neg=>rw [if_pos he];exact Eats.bad hL h0 he rfl rfl
 rw [if_neg (by simpa using he)]
 by_cases hlt:(l.length:Int)≤s.at_
 ·rw [if_pos hlt];exact Eats.bad (e:=2) hL (show (0:Int)≤l.length by omega) (by decide) rfl rfl (Int.le_refl _)
 rw [if_neg hlt];have hz:∀ (k:Int) z,k≠0→J3 (G3 z) [⟨k,[],0⟩]=0:=by
  intro k z hk;unfold J3 G3;simp [hk]
 cases h1:Bc l s.at_ [63] with
 | true =>
  rw [if_pos rfl];refine ⟨by show 0≤s.at_+1;omega,by show s.at_+1≤(l.length:Int);omega,fun h=>absurd he h,by show (1:Int)≤_;omega,fun _=>⟨by show (1:Int)≤s.at_+1-s.at_;omega,by show s.at_+1≤_;omega,by simp⟩,fun _=>⟨by show _≤(s.sites++_).length;simp,by show ((s.sites++_).length:Int)≤_+(s.at_+1-s.at_);simp;omega,by show s.site+1=s.site+(((s.sites++_).length:Int)-_);simp;omega⟩,fun _ z=>?_⟩
  show J3 (G3 z) [⟨0,[],s.site⟩]=if s.site≤z∧z<s.site+1 then 1 else 0
  unfold J3 G3;simp only [List.map_cons,List.map_nil,List.sum_cons,List.sum_nil,true_and,Nat.add_zero];by_cases hq:s.site=z
  ·rw [if_pos hq,if_pos (by omega)]
  ·rw [if_neg hq,if_neg (by omega)]
 | false =>
 rw [if_neg (by simp)]
 have hone:∀ (k n:Int) (q:St4),k≠0→q.e=0→s.at_<q.at_→q.at_≤l.length→q.sites=s.sites→q.site=s.site→Eats l s ([⟨k,[],n⟩],q):=by
  intro k n q hk hq1 hq2 hq3 hq4 hq5;refine ⟨by show 0≤q.at_;omega,hq3,fun h=>absurd he h,by show (1:Int)≤_;omega,fun _=>⟨by show (1:Int)≤q.at_-s.at_;omega,hq3,by simp⟩,fun _=>⟨by show _≤q.sites.length;rw [hq4];omega,by show (q.sites.length:Int)≤_+(q.at_-s.at_);rw [hq4];omega,by show q.site=s.site+((q.sites.length:Int)-_);rw [hq4,hq5];omega⟩,fun _ z=>?_⟩
  show J3 (G3 z) [⟨k,[],n⟩]=if s.site≤z∧z<q.site then 1 else 0
  rw [if_neg (by omega)]
  unfold J3 G3;simp [hk]
 by_cases hb:0≤eQ (tk l s.at_)
 ·rw [if_pos hb];refine hone _ _ _ ?_ he (by show s.at_<s.at_+1;omega) (by show s.at_+1≤_;omega) rfl rfl
  unfold eQ at hb ⊢;repeat' split
  all_goals first|decide|(exfalso;simp_all;done)
 rw [if_neg hb];by_cases ho:Bc l s.at_ [40]=false∧Bc l s.at_ [123]=false∧Bc l s.at_ [91]=false
 ·rw [if_pos ho];exact Eats.bad (e:=2) hL h0 (by decide) rfl rfl
 rw [if_neg ho];by_cases hd:d=0
 ·rw [if_pos hd];exact Eats.bad (e:=4) hL h0 (by decide) rfl rfl
 rw [if_neg hd];have hw':=hw hd;by_cases hr:(tk l s.at_).text=[123]∧Bc l (s.at_+1) [125]=true
 ·rw [if_pos hr];have:=Ll hr.2;exact hone _ _ _ (by decide) he (by show s.at_<s.at_+1+1;omega) (by show s.at_+1+1≤_;omega) rfl rfl
 rw [if_neg hr];have hH:∀ kind,Had4 l kind s (Wm s) [] []:=fun kind=>⟨he,by show s.at_+1≤_;omega,h0,by show (1:Int)+0≤s.at_+1-s.at_;omega,Zm _,by show (s.sites.length:Int)≤_+(s.at_+1-s.at_);omega,by show s.site=s.site+((s.sites.length:Int)-_);omega,
  fun z=>by show 0=if s.site≤z∧z<s.site then 1 else 0;rw [if_neg (by omega)],rfl,fun i j hi=>absurd hi (by simp),fun j hj=>absurd hj (by simp)⟩
 by_cases h123:(tk l s.at_).text=[123]
 ·rw [if_pos h123];exact cD hw' (.inl rfl) he 51 (Wm s) [] [] (hH 6) (by simp) rfl
 rw [if_neg h123];by_cases h91:(tk l s.at_).text=[91]
 ·rw [if_pos h91];exact cD hw' (.inr rfl) he 51 (Wm s) [] [] (hH 7) (by simp) rfl
 rw [if_neg h91];have hE:=hw' (Wm s) (by show 0≤s.at_+1;omega) (by show s.at_+1≤_;omega)
 obtain ⟨r,hrr⟩:=exq (w l (Wm s));rw [hrr] at hE ⊢;have e1:(Wm s).at_=s.at_+1:=rfl;have e2:(Wm s).sites=s.sites:=rfl;have e3:(Wm s).site=s.site:=rfl;have hlen:=hE.len;rw [e1] at hlen;rcases Gv l r.2 [41] with ⟨q1,q2⟩|⟨q1,q2⟩|⟨q1,q2,q3⟩
 ·rw [q2];exact ⟨hE.lo,hE.hi,fun h=>absurd he h,by show (r.1.length:Int)≤_;omega,fun h=>absurd h q1,fun h=>absurd h q1,fun h=>absurd h q1⟩
 ·rw [q2];exact ⟨hE.lo,hE.hi,fun h=>absurd he h,by show (r.1.length:Int)≤_;omega,fun h=>absurd h (by show (2:Int)≠0;decide),fun h=>absurd h (by show (2:Int)≠0;decide),fun h=>absurd h (by show (2:Int)≠0;decide)⟩
 ·rw [q3];have q4:=Ll q2;obtain ⟨k1,k2,k3⟩:=hE.ok q1;obtain ⟨g1,g2,g3⟩:=hE.sites q1;have g4:=hE.cnt q1;rw [e1] at k1 g2;rw [e2] at g1 g2 g3;rw [e3] at g3 g4;exact ⟨by show 0≤r.2.at_+1;have:=hE.lo;omega,by show r.2.at_+1≤(l.length:Int);omega,fun h=>absurd he h,by show (r.1.length:Int)≤_;omega,fun _=>⟨by show (r.1.length:Int)≤r.2.at_+1-s.at_;omega,by show r.2.at_+1≤_;omega,k3⟩,fun _=>⟨g1,by show (r.2.sites.length:Int)≤_+(r.2.at_+1-s.at_);omega,g3⟩,fun _=>g4⟩
end
theorem Zmb (g:Node→Nat) (a b:List Node):J3 g (Tk a b)=g ⟨5,[],0⟩+J3 g a+J3 g b:=by
 unfold Tk J3;rw [List.map_cons,List.sum_cons,List.map_append,List.sum_append];omega
theorem Ge {l:List Tok}:∀ (d:Nat) (s:St4),d≠0→0≤s.at_→s.at_≤l.length→Eats l s (Xd d l s)
 | 0,s,h,_,_=>absurd rfl h
 | d+1,s,_,h0,hL=>by
  have hA:=zR (w:=Xd d) (d:=d) (fun hd s' h1 h2=>Ge d s' hd h1 h2) h0 hL;rw [Xd];obtain ⟨r,hr⟩:=exq (Mk (Xd d) d l s);rw [hr] at hA ⊢;by_cases h1:r.2.e≠0∨Bc l r.2.at_ [45,62]=false
  ·rw [if_pos h1];exact hA
  rw [if_neg h1];have hre:r.2.e=0:=Classical.byContradiction fun e=>h1 (.inl e);have his:Bc l r.2.at_ [45,62]=true:=by
   cases hb:Bc l r.2.at_ [45,62] with
   | true=>rfl
   | false=>exact absurd (.inr hb) h1
  have hlt:=Ll his;obtain ⟨k1,k2,k3⟩:=hA.ok hre;obtain ⟨g1,g2,g3⟩:=hA.sites hre;have g4:=hA.cnt hre;have hse:s.e=0:=Classical.byContradiction fun e=>hA.err e hre;have hlo:=hA.lo;by_cases hd:d=0
  ·rw [if_pos hd];exact Eats.bad (e:=4) hL hlo (by decide) rfl rfl hA.hi
  rw [if_neg hd];have hB:=Ge d (Wm r.2) hd (by show 0≤r.2.at_+1;omega) (by show r.2.at_+1≤(l.length:Int);omega)
  obtain ⟨q,hq⟩:=exq (Xd d l (Wm r.2));rw [hq] at hB ⊢;have hlen:=hB.len;have e1:(Wm r.2).at_=r.2.at_+1:=rfl;have e2:(Wm r.2).sites=r.2.sites:=rfl;have e3:(Wm r.2).site=r.2.site:=rfl;rw [e1] at hlen;have hal:((Tk r.1 q.1).length:Int)=r.1.length+q.1.length+1:=by unfold Tk;simp
  refine ⟨hB.lo,hB.hi,fun h=>absurd hse h,by show ((Tk r.1 q.1).length:Int)≤l.length-s.at_;omega,fun hqe=>?_,fun hqe=>?_,fun hqe z=>?_⟩
  ·obtain ⟨j1,j2,j3⟩:=hB.ok hqe;rw [e1] at j1;exact ⟨by show ((Tk r.1 q.1).length:Int)≤q.2.at_-s.at_;omega,j2,by unfold Tk;simp⟩
  ·obtain ⟨j1,j2,j3⟩:=hB.sites hqe;rw [e2] at j1 j2 j3;rw [e1] at j2;rw [e3] at j3;have j5:=(hB.ok hqe).2.1;exact ⟨by show s.sites.length≤q.2.sites.length;omega,by show (q.2.sites.length:Int)≤s.sites.length+(q.2.at_-s.at_);omega,by show q.2.site=s.site+((q.2.sites.length:Int)-s.sites.length);omega⟩
  ·obtain ⟨j1,j2,j3⟩:=hB.sites hqe;have j4:=hB.cnt hqe;rw [e3] at j4 j3;rw [e2] at j1 j3;show J3 (G3 z) (Tk r.1 q.1)=_;rw [Zmb,g4,j4];have:G3 z ⟨5,[],0⟩=0:=by unfold G3;rw [if_neg (fun h=>absurd h.1 (by decide))]
   rw [this,Nat.zero_add];exact Fg (by omega) (by omega)
theorem Zk2 {a b:UInt8}:Yr (a.toNat:Int) (b.toNat:Int)=decide (a<b):=by
 unfold Yr
 congr 1
 rw [UInt8.lt_iff_toNat_lt];exact propext (by omega)
theorem Zl8:D.int .u8 128=enc (128:UInt8):=rfl
theorem Zl3:D.int .u8 191=enc (191:UInt8):=rfl
theorem Zl4:D.int .u8 160=enc (160:UInt8):=rfl
theorem Zl5:D.int .u8 159=enc (159:UInt8):=rfl
theorem Zl6:D.int .u8 144=enc (144:UInt8):=rfl
theorem Zl7:D.int .u8 143=enc (143:UInt8):=rfl
theorem Zl2:D.int .u8 194=enc (194:UInt8):=rfl
theorem Zl1:D.int .u8 223=enc (223:UInt8):=rfl
theorem Zl0:D.int .u8 224=enc (224:UInt8):=rfl
theorem Zlz:D.int .u8 239=enc (239:UInt8):=rfl
theorem Zly:D.int .u8 240=enc (240:UInt8):=rfl
theorem Zqk:D.int .u8 102=enc (102:UInt8):=rfl
theorem Zev:D.int .u8 244=enc (244:UInt8):=rfl
def Rp:Con:=Wc (fun (s:List UInt8) (i:Int)=>s.length≤1000000∧0≤i∧i<s.length) (fun s i=>(Oi s i.toNat:Int))
structure w447k:Prop
theorem w447k.k (_:w447k) {p:Prop} (h:p:=by
 repeat' first|exact Qg|with_reducible apply And.intro|intro _
 all_goals first|with_reducible exact Jf|omega|(rw [Xb];omega)|(symm;rw [←hR2];clear hR2 Z5 K;simp_all;done)|(rw [←hR2];clear hR2 Z5 K;simp_all;done)|skip):p:=h
structure w448k:Prop
theorem w448k.k (_:w448k) {p:Prop} (h:p:=by
 repeat' first|exact Qg|with_reducible apply And.intro|intro _
 all_goals first|with_reducible exact Jf|omega|(rw [Xb];omega)|(symm;rw [←hR2];clear hR2 Z5 K;simp_all;done)|(rw [←hR2];clear hR2 Z5 K;simp_all;done)|skip):p:=h
structure w449k:Prop
theorem w449k.k (_:w449k) {p:Prop} (h:p:=by
 repeat' first|exact Qg|with_reducible apply And.intro|intro _
 all_goals first|with_reducible exact Jf|omega|(rw [Xb];omega)|(symm;rw [←hR2];clear hR2 Z5 K;simp_all;done)|(rw [←hR2];clear hR2 Z5 K;simp_all;done)|skip):p:=h
structure w450k:Prop
theorem w450k.k (_:w450k) {p:Prop} (h:p:=by
 repeat' first|exact Qg|with_reducible apply And.intro|intro _
 all_goals first|with_reducible exact Jf|omega|(rw [Xb];omega)|(symm;rw [←hR2];clear hR2 Z5 K;simp_all;done)|(rw [←hR2];clear hR2 Z5 K;simp_all;done)|skip):p:=h
structure w451k:Prop
theorem w451k.k (_:w451k) {p:Prop} (h:p:=by
 repeat' first|exact Qg|with_reducible apply And.intro|intro _
 all_goals first|with_reducible exact Jf|omega|(rw [Xb];omega)|(symm;rw [←hR2];clear hR2 Z5 K;simp_all;done)|(rw [←hR2];clear hR2 Z5 K;simp_all;done)|skip):p:=h
theorem good_Long1:Qr Tryz.prog (218,Rp):=by
 obtain ⟨Kx,Kt,Kc,Kd,Kb,Ku,Kw,K,Yj,Kv,_⟩:=Wi Z3 Zn [] false (Ja good_within fV (Ja Zgd Rj.eq_def Wg));have Ko:=Rp.eq_def;refine Wh K Tryz.func218 [.tmp 4] rfl 67 rfl (fun c hc cvs hpre=>?_);unfold Rp at hpre;obtain ⟨s,i,rfl,hs,hi0,hi1⟩:=Jr hpre;obtain ⟨i,rfl⟩:∃ n:Nat,i=n:=⟨i.toNat,by omega⟩
 have Qh:Yr (i:Int) (s.length:Int)=true:=by rw [Jw];exact hi1
 clear hpre;obtain ⟨R,Z5⟩:=exq (Oi s i);have hR2:=Z5;unfold Oi Zf3 at hR2;obtain ⟨c,Qi⟩:=exq (s.getD i 0);rw [Qi] at hR2;have Z2:Yr (c.toNat:Int) 128=decide (c<128):=Zk2 (b:=128);have Z9:((c.toNat:Int)==224)=(c==224):=Gd (b:=224);have Qu:((c.toNat:Int)==237)=(c==237):=Gd (b:=237);have Q0:((c.toNat:Int)==240)=(c==240):=Gd (b:=240);have Q2:((c.toNat:Int)==244)=(c==244):=Gd (b:=244);have Qz:Yr (c.toNat:Int) ((128:UInt8).toNat:Int)=decide (c<128):=Zk2;have Zv:((c.toNat:Int)==((224:UInt8).toNat:Int))=(c==224):=Gd;have Zx:((c.toNat:Int)==((240:UInt8).toNat:Int))=(c==240):=Gd;by_cases h128:c<128
 ·rw [if_pos h128] at hR2;subst hR2;have Qd:decide (c<128)=true:=decide_eq_true h128;cases hc;refine Ys 4 ?_;exact M2
 rw [if_neg h128] at hR2;have Qd:decide (c<128)=false:=decide_eq_false h128;obtain ⟨p2,Zs⟩:=exq (Xs c 194 223);obtain ⟨q2,Zt⟩:=exq (Mj s ((i:Int)+1) 128 191);obtain ⟨p3,Z8⟩:=exq (Xs c 224 239);obtain ⟨r3,Qt⟩:=exq (Mj s ((i:Int)+2) 128 191);obtain ⟨p4,Qw⟩:=exq (Xs c 240 244);obtain ⟨t4,Qv⟩:=exq (Mj s ((i:Int)+3) 128 191);rw [Zs,Zt,Z8,Qt,Qw,Qv] at hR2;by_cases h224:c=224
 ·have Zu:(c==224)=true:=beq_iff_eq.2 h224;have Zy:(c==237)=false:=beq_eq_false_iff_ne.2 (by rw [h224];decide)
  have Zz:(c==240)=false:=beq_eq_false_iff_ne.2 (by rw [h224];decide)
  have Z4:(c==244)=false:=beq_eq_false_iff_ne.2 (by rw [h224];decide)
  rw [if_pos h224] at hR2;rw [if_neg (show ¬ c=237 by rw [h224];decide)] at hR2
  rw [if_neg (show ¬ c=240 by rw [h224];decide)] at hR2
  rw [if_neg (show ¬ c=244 by rw [h224];decide)] at hR2
  obtain ⟨q3,Qj⟩:=exq (Mj s ((i:Int)+1) 160 191);rw [Qj] at hR2;try rw [Zt] at hR2
  cases hc;refine Ys 4 ?_;have Q6:=@jF.eq_def;have Q9:=@Zl8;have Wb:=@Zl3;have Xp:=@Zl4;have X8:=@Zl5;have X7:=@Zl6;have X6:=@Zl7;have V7:=@Zl2;have V6:=@Zl1;have V5:=@Zl0;have Ul:=@Zlz;have Uk:=@Zly;have Uj:=@Zev;have Kq:w447k:=⟨⟩;exact V3
 by_cases h237:c=237
 ·have Zu:(c==224)=false:=beq_eq_false_iff_ne.2 (by rw [h237];decide)
  have Zy:(c==237)=true:=beq_iff_eq.2 h237;have Zz:(c==240)=false:=beq_eq_false_iff_ne.2 (by rw [h237];decide)
  have Z4:(c==244)=false:=beq_eq_false_iff_ne.2 (by rw [h237];decide)
  rw [if_neg (show ¬ c=224 by rw [h237];decide)] at hR2
  rw [if_pos h237] at hR2;rw [if_neg (show ¬ c=240 by rw [h237];decide)] at hR2
  rw [if_neg (show ¬ c=244 by rw [h237];decide)] at hR2
  obtain ⟨q3,Qj⟩:=exq (Mj s ((i:Int)+1) 128 159);rw [Qj] at hR2;try rw [Zt] at hR2
  cases hc;refine Ys 4 ?_;have Q6:=@jF.eq_def;have Q9:=@Zl8;have Wb:=@Zl3;have Xp:=@Zl4;have X8:=@Zl5;have X7:=@Zl6;have X6:=@Zl7;have V7:=@Zl2;have V6:=@Zl1;have V5:=@Zl0;have Ul:=@Zlz;have Uk:=@Zly;have Uj:=@Zev;have Kq:w448k:=⟨⟩;exact V3
 by_cases h240:c=240
 ·have Zu:(c==224)=false:=beq_eq_false_iff_ne.2 (by rw [h240];decide)
  have Zy:(c==237)=false:=beq_eq_false_iff_ne.2 (by rw [h240];decide)
  have Zz:(c==240)=true:=beq_iff_eq.2 h240;have Z4:(c==244)=false:=beq_eq_false_iff_ne.2 (by rw [h240];decide)
  rw [if_neg (show ¬ c=224 by rw [h240];decide)] at hR2
  rw [if_neg (show ¬ c=237 by rw [h240];decide)] at hR2
  rw [if_pos h240] at hR2;rw [if_neg (show ¬ c=244 by rw [h240];decide)] at hR2
  obtain ⟨q4,Qq⟩:=exq (Mj s ((i:Int)+1) 144 191);rw [Qq] at hR2;try rw [Zt] at hR2
  cases hc;refine Ys 4 ?_;have Q6:=@jF.eq_def;have Q9:=@Zl8;have Wb:=@Zl3;have Xp:=@Zl4;have X8:=@Zl5;have X7:=@Zl6;have X6:=@Zl7;have V7:=@Zl2;have V6:=@Zl1;have V5:=@Zl0;have Ul:=@Zlz;have Uk:=@Zly;have Uj:=@Zev;have Kq:w449k:=⟨⟩;exact V3
 by_cases h244:c=244
 ·have Zu:(c==224)=false:=beq_eq_false_iff_ne.2 (by rw [h244];decide)
  have Zy:(c==237)=false:=beq_eq_false_iff_ne.2 (by rw [h244];decide)
  have Zz:(c==240)=false:=beq_eq_false_iff_ne.2 (by rw [h244];decide)
  have Z4:(c==244)=true:=beq_iff_eq.2 h244;rw [if_neg (show ¬ c=224 by rw [h244];decide)] at hR2
  rw [if_neg (show ¬ c=237 by rw [h244];decide)] at hR2
  rw [if_neg (show ¬ c=240 by rw [h244];decide)] at hR2
  rw [if_pos h244] at hR2;obtain ⟨q4,Qq⟩:=exq (Mj s ((i:Int)+1) 128 143);rw [Qq] at hR2;try rw [Zt] at hR2
  cases hc;refine Ys 4 ?_;have Q6:=@jF.eq_def;have Q9:=@Zl8;have Wb:=@Zl3;have Xp:=@Zl4;have X8:=@Zl5;have X7:=@Zl6;have X6:=@Zl7;have V7:=@Zl2;have V6:=@Zl1;have V5:=@Zl0;have Ul:=@Zlz;have Uk:=@Zly;have Uj:=@Zev;have Kq:w450k:=⟨⟩;exact V3
 have Zu:(c==224)=false:=beq_eq_false_iff_ne.2 h224;have Zy:(c==237)=false:=beq_eq_false_iff_ne.2 h237;have Zz:(c==240)=false:=beq_eq_false_iff_ne.2 h240;have Z4:(c==244)=false:=beq_eq_false_iff_ne.2 h244;rw [if_neg h224] at hR2;rw [if_neg h237] at hR2;rw [if_neg h240] at hR2;rw [if_neg h244] at hR2;try rw [Zt] at hR2
 cases hc;refine Ys 4 ?_;have Q6:=@jF.eq_def;have Q9:=@Zl8;have Wb:=@Zl3;have Xp:=@Zl4;have X8:=@Zl5;have X7:=@Zl6;have X6:=@Zl7;have V7:=@Zl2;have V6:=@Zl1;have V5:=@Zl0;have Ul:=@Zlz;have Uk:=@Zly;have Uj:=@Zev;have Kq:w451k:=⟨⟩;exact V3
theorem Zbf {n:Int}:dL .u8 n↔0≤n∧n≤255:=by
 unfold dL;have h1:IntKind.min .u8=0:=by decide
 have h2:IntKind.max .u8=255:=by decide
 rw [h1,h2]
def Bk:Con:=Xy (fun (_:UInt8)=>True) (fun c=>eW c)
structure w452k:Prop
theorem w452k.k (_:w452k) {p:Prop} (h:p:=by
 repeat' first|exact Qg|with_reducible apply And.intro|intro _
 all_goals first|omega|(rw [Zbf];omega)|skip):p:=h
structure w453k:Prop
theorem w453k.k (_:w453k) {p:Prop} (h:p:=by
 repeat' first|exact Qg|with_reducible apply And.intro|intro _
 all_goals first|omega|(rw [Zbf];omega)|skip):p:=h
theorem good_sixteen1:Qr Tryz.prog (247,Bk):=by
 obtain ⟨Kx,Kt,Kc,Kd,Kb,Ku,Kw,K,Yj,_⟩:=Wi Z3 Zn [] false (Ja good_within fV Wg);have Ko:=Bk.eq_def;refine Wh K Tryz.func247 [.tmp 2] rfl 14 rfl (fun c hc cvs hpre=>?_);unfold Bk at hpre;obtain ⟨c,rfl,-⟩:=J4 hpre;clear hpre;obtain ⟨R,Z2⟩:=exq (eW c);have hR2:=Z2;unfold eW at hR2;have Qi:((48:UInt8).toNat:Int)=48:=rfl;have Z5:((97:UInt8).toNat:Int)=97:=rfl;have w1:Xs c 48 57=true→48≤c.toNat∧c.toNat≤57:=fun h=>by
  unfold Xs at h;simp only [Zg,decide_eq_true_eq,UInt8.le_iff_toNat_le] at h;exact h
 have w2:Xs c 97 102=true→97≤c.toNat∧c.toNat≤102:=fun h=>by
  unfold Xs at h;simp only [Zg,decide_eq_true_eq,UInt8.le_iff_toNat_le] at h;exact h
 cases Qh:Xs c 48 57 with
 | true =>
  have w3:=w1 Qh;rw [if_pos Qh] at hR2;cases hc;have Z9:=@Zq2;have Qu:=@Zq1;have Kq:w452k:=⟨⟩;exact V3
 | false =>
  rw [if_neg (by rw [Qh];simp)] at hR2
  cases Qd:Xs c 97 102 with
  | true =>
   have w3:=w2 Qd;rw [if_pos Qd] at hR2;cases hc;have Z9:=@Zq2;have Qu:=@Zq1;have Q0:=@Zq0;have Q2:=@Zqk;have Kq:w453k:=⟨⟩;exact V3
  | false =>
   rw [if_neg (by rw [Qd];simp)] at hR2
   subst hR2;cases hc;have Z9:=@Zq2;have Qu:=@Zq1;have Q0:=@Zq0;have Q2:=@Zqk;exact Zip
end Go.Am.Ty
