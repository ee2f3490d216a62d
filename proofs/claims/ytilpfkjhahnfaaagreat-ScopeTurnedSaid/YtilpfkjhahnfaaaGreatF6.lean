/- Contracts of functions that the law reaches, and plain laws. Conditions: those that each contract states. -/
import Derived.Test.YtilpfkjhahnfaaaGreatF5
set_option maxHeartbeats 4000000
set_option linter.unusedVariables false
set_option linter.unusedSimpArgs false
variable {p:Prop}
set_option maxRecDepth 100000
namespace Go.Am.Ty
open Go.Proofs
open Enc (enc dec)
def Xs (p:Part) (w tg b t u li na op:Bool):Bool :=
 if p.kind≠0∧p.kind≠14∧p.num≠0 then false
 else if p.kind=0 then ((p.bind==[]&&p.many==0)&&((p.u.length:Int)==0))&&li
 else if p.kind=1 then (((p.bind==[]&&p.many==0)&&((p.t.length:Int)==0))&&((p.u.length:Int)==0))&&na
 else if p.kind=2∨p.kind=4 then (((p.name==[]&&p.many==0)&&b)&&t)&&((p.u.length:Int)==0)
 else if p.kind=3∨p.kind=6 then ((p.name==[]&&(p.bind==[]&&p.many==0))&&((p.t.length:Int)==0))&&((p.u.length:Int)==0)
 else if p.kind=5 then (((w&&p.many==0)&&b)&&t)&&u
 else if p.kind=7 then ((((p.name==[]&&p.bind==[])&&Wf 1 p.many)&&Wf p.many 50)&&((p.t.length:Int)==0))&&((p.u.length:Int)==0)
 else if p.kind=8 then (((p.name==[]&&p.many==0)&&b)&&((p.t.length:Int)==0))&&((p.u.length:Int)==0)
 else if p.kind=9 then ((op&&(p.bind==[]&&p.many==0))&&((p.t.length:Int)==0))&&((p.u.length:Int)==0)
 else if p.kind=10 then ((((p.name==[]&&p.bind==[])&&Wf 0 p.many)&&Wf p.many 50)&&((p.t.length:Int)==0))&&((p.u.length:Int)==0)
 else if p.kind=11 then ((w&&(p.bind==[]&&p.many==0))&&((p.t.length:Int)==0))&&((p.u.length:Int)==0)
 else if p.kind=12 then ((tg&&(p.bind==[]&&p.many==0))&&t)&&((p.u.length:Int)==0)
 else if p.kind=13 then ((p.name==[]&&(p.bind==[]&&p.many==0))&&t)&&((p.u.length:Int)==0)
 else if p.kind=14 then (((p.name==[]&&(p.bind==[]&&p.many==0))&&t)&&u)&&Wf 0 p.num
 else false
def Ib (p:Part):Bool:=Xs p (Yo p.name) (Sa p.name) (Yo p.bind) (kT p.t) (kT p.u) (Oi p) (Zll p.name) (Qao p.name)
def bF:Con:=Xj (fun (p:Part)=>Zy7 p∧p.name.length≤9223372036854775806) (fun p=>Ib p)
structure Kbf:Prop
theorem Kbf.k (_:Kbf) (h:p:=by
 repeat' first|exact Z1|with_reducible apply Zb|intro _
 all_goals first|with_reducible exact Qo|omega|(symm;rw [←hR2];clear hR2 Qv hF f1 f2 f3 f4 f5 f6 f7 hn K Qd Qe Z6 Qa Qc Qh Qp Qz Q4 Z0 Z3 Zz Z7 Z9 Qg Zv Zw Qn Q6 Q5 Ja Q7 Q0 Jo Jj;unfold Xs;simp_all;done)|(symm;rw [←hR2];clear hR2 Qv hF f1 f2 f3 f4 f5 f6 f7 hn K Qd Qe Z6 Qa Qc Qh Qp Qz Q4 Z0 Z3 Zz Z7 Z9 Qg Zv Zw Qn Q6 Q5 Ja Q7 Q0 Jo Jj;unfold Xs Wf;simp_all;done)|(symm;rw [←hR2];clear hR2 Qv hF f1 f2 f3 f4 f5 f6 f7 hn K Qd Qe Z6 Qa Qc Qh Qp Qz Q4 Z0 Z3 Zz Z7 Z9 Qg Zv Zw Qn Q6 Q5 Ja Q7 Q0 Jo Jj;unfold Xs Wf;simp_all;omega)|skip):p:=h
structure Kbg:Prop
theorem Kbg.k (_:Kbg) (h:p:=by
 repeat' first|exact Z1|with_reducible apply Zb|intro _
 all_goals first|with_reducible exact Qo|omega|(symm;rw [←hR2];clear hR2 Qv hF f1 f2 f3 f4 f5 f6 f7 hn K Qd Qe Z6 Qa Qc Qh Qp Qz Q4 Z0 Z3 Zz Z7 Z9 Qg Zv Zw Qn Q6 Q5 Ja Q7 Q0 Jo Jj;unfold Xs;simp_all;done)|(symm;rw [←hR2];clear hR2 Qv hF f1 f2 f3 f4 f5 f6 f7 hn K Qd Qe Z6 Qa Qc Qh Qp Qz Q4 Z0 Z3 Zz Z7 Z9 Qg Zv Zw Qn Q6 Q5 Ja Q7 Q0 Jo Jj;unfold Xs Wf;simp_all;done)|(symm;rw [←hR2];clear hR2 Qv hF f1 f2 f3 f4 f5 f6 f7 hn K Qd Qe Z6 Qa Qc Qh Qp Qz Q4 Z0 Z3 Zz Z7 Z9 Qg Zv Zw Qn Q6 Q5 Ja Q7 Q0 Jo Jj;unfold Xs Wf;simp_all;omega)|skip):p:=h
structure Kbh:Prop
theorem Kbh.k (_:Kbh) (h:p:=by
 repeat' first|exact Z1|with_reducible apply Zb|intro _
 all_goals first|with_reducible exact Qo|omega|(symm;rw [←hR2];clear hR2 Qv hF f1 f2 f3 f4 f5 f6 f7 hn K Qd Qe Z6 Qa Qc Qh Qp Qz Q4 Z0 Z3 Zz Z7 Z9 Qg Zv Zw Qn Q6 Q5 Ja Q7 Q0 Jo Jj;unfold Xs;simp_all;done)|(symm;rw [←hR2];clear hR2 Qv hF f1 f2 f3 f4 f5 f6 f7 hn K Qd Qe Z6 Qa Qc Qh Qp Qz Q4 Z0 Z3 Zz Z7 Z9 Qg Zv Zw Qn Q6 Q5 Ja Q7 Q0 Jo Jj;unfold Xs Wf;simp_all;done)|(symm;rw [←hR2];clear hR2 Qv hF f1 f2 f3 f4 f5 f6 f7 hn K Qd Qe Z6 Qa Qc Qh Qp Qz Q4 Z0 Z3 Zz Z7 Z9 Qg Zv Zw Qn Q6 Q5 Ja Q7 Q0 Jo Jj;unfold Xs Wf;simp_all;omega)|skip):p:=h
structure Kbi:Prop
theorem Kbi.k (_:Kbi) (h:p:=by
 repeat' first|exact Z1|with_reducible apply Zb|intro _
 all_goals first|with_reducible exact Qo|omega|(symm;rw [←hR2];clear hR2 Qv hF f1 f2 f3 f4 f5 f6 f7 hn K Qd Qe Z6 Qa Qc Qh Qp Qz Q4 Z0 Z3 Zz Z7 Z9 Qg Zv Zw Qn Q6 Q5 Ja Q7 Q0 Jo Jj;unfold Xs;simp_all;done)|(symm;rw [←hR2];clear hR2 Qv hF f1 f2 f3 f4 f5 f6 f7 hn K Qd Qe Z6 Qa Qc Qh Qp Qz Q4 Z0 Z3 Zz Z7 Z9 Qg Zv Zw Qn Q6 Q5 Ja Q7 Q0 Jo Jj;unfold Xs Wf;simp_all;done)|(symm;rw [←hR2];clear hR2 Qv hF f1 f2 f3 f4 f5 f6 f7 hn K Qd Qe Z6 Qa Qc Qh Qp Qz Q4 Z0 Z3 Zz Z7 Z9 Qg Zv Zw Qn Q6 Q5 Ja Q7 Q0 Jo Jj;unfold Xs Wf;simp_all;omega)|skip):p:=h
structure Kbj:Prop
theorem Kbj.k (_:Kbj) (h:p:=by
 repeat' first|exact Z1|with_reducible apply Zb|intro _
 all_goals first|with_reducible exact Qo|omega|(symm;rw [←hR2];clear hR2 Qv hF f1 f2 f3 f4 f5 f6 f7 hn K Qd Qe Z6 Qa Qc Qh Qp Qz Q4 Z0 Z3 Zz Z7 Z9 Qg Zv Zw Qn Q6 Q5 Ja Q7 Q0 Jo Jj;unfold Xs;simp_all;done)|(symm;rw [←hR2];clear hR2 Qv hF f1 f2 f3 f4 f5 f6 f7 hn K Qd Qe Z6 Qa Qc Qh Qp Qz Q4 Z0 Z3 Zz Z7 Z9 Qg Zv Zw Qn Q6 Q5 Ja Q7 Q0 Jo Jj;unfold Xs Wf;simp_all;done)|(symm;rw [←hR2];clear hR2 Qv hF f1 f2 f3 f4 f5 f6 f7 hn K Qd Qe Z6 Qa Qc Qh Qp Qz Q4 Z0 Z3 Zz Z7 Z9 Qg Zv Zw Qn Q6 Q5 Ja Q7 Q0 Jo Jj;unfold Xs Wf;simp_all;omega)|skip):p:=h
structure Kbk:Prop
theorem Kbk.k (_:Kbk) (h:p:=by
 repeat' first|exact Z1|with_reducible apply Zb|intro _
 all_goals first|with_reducible exact Qo|omega|(symm;rw [←hR2];clear hR2 Qv hF f1 f2 f3 f4 f5 f6 f7 hn K Qd Qe Z6 Qa Qc Qh Qp Qz Q4 Z0 Z3 Zz Z7 Z9 Qg Zv Zw Qn Q6 Q5 Ja Q7 Q0 Jo Jj;unfold Xs;simp_all;done)|(symm;rw [←hR2];clear hR2 Qv hF f1 f2 f3 f4 f5 f6 f7 hn K Qd Qe Z6 Qa Qc Qh Qp Qz Q4 Z0 Z3 Zz Z7 Z9 Qg Zv Zw Qn Q6 Q5 Ja Q7 Q0 Jo Jj;unfold Xs Wf;simp_all;done)|(symm;rw [←hR2];clear hR2 Qv hF f1 f2 f3 f4 f5 f6 f7 hn K Qd Qe Z6 Qa Qc Qh Qp Qz Q4 Z0 Z3 Zz Z7 Z9 Qg Zv Zw Qn Q6 Q5 Ja Q7 Q0 Jo Jj;unfold Xs Wf;simp_all;omega)|skip):p:=h
structure Kbl:Prop
theorem Kbl.k (_:Kbl) (h:p:=by
 repeat' first|exact Z1|with_reducible apply Zb|intro _
 all_goals first|with_reducible exact Qo|omega|(symm;rw [←hR2];clear hR2 Qv hF f1 f2 f3 f4 f5 f6 f7 hn K Qd Qe Z6 Qa Qc Qh Qp Qz Q4 Z0 Z3 Zz Z7 Z9 Qg Zv Zw Qn Q6 Q5 Ja Q7 Q0 Jo Jj;unfold Xs;simp_all;done)|(symm;rw [←hR2];clear hR2 Qv hF f1 f2 f3 f4 f5 f6 f7 hn K Qd Qe Z6 Qa Qc Qh Qp Qz Q4 Z0 Z3 Zz Z7 Z9 Qg Zv Zw Qn Q6 Q5 Ja Q7 Q0 Jo Jj;unfold Xs Wf;simp_all;done)|(symm;rw [←hR2];clear hR2 Qv hF f1 f2 f3 f4 f5 f6 f7 hn K Qd Qe Z6 Qa Qc Qh Qp Qz Q4 Z0 Z3 Zz Z7 Z9 Qg Zv Zw Qn Q6 Q5 Ja Q7 Q0 Jo Jj;unfold Xs Wf;simp_all;omega)|skip):p:=h
structure Kbm:Prop
theorem Kbm.k (_:Kbm) (h:p:=by
 repeat' first|exact Z1|with_reducible apply Zb|intro _
 all_goals first|with_reducible exact Qo|omega|(symm;rw [←hR2];clear hR2 Qv hF f1 f2 f3 f4 f5 f6 f7 hn K Qd Qe Z6 Qa Qc Qh Qp Qz Q4 Z0 Z3 Zz Z7 Z9 Qg Zv Zw Qn Q6 Q5 Ja Q7 Q0 Jo Jj;unfold Xs;simp_all;done)|(symm;rw [←hR2];clear hR2 Qv hF f1 f2 f3 f4 f5 f6 f7 hn K Qd Qe Z6 Qa Qc Qh Qp Qz Q4 Z0 Z3 Zz Z7 Z9 Qg Zv Zw Qn Q6 Q5 Ja Q7 Q0 Jo Jj;unfold Xs Wf;simp_all;done)|(symm;rw [←hR2];clear hR2 Qv hF f1 f2 f3 f4 f5 f6 f7 hn K Qd Qe Z6 Qa Qc Qh Qp Qz Q4 Z0 Z3 Zz Z7 Z9 Qg Zv Zw Qn Q6 Q5 Ja Q7 Q0 Jo Jj;unfold Xs Wf;simp_all;omega)|skip):p:=h
structure Kbn:Prop
theorem Kbn.k (_:Kbn) (h:p:=by
 repeat' first|exact Z1|with_reducible apply Zb|intro _
 all_goals first|with_reducible exact Qo|omega|(symm;rw [←hR2];clear hR2 Qv hF f1 f2 f3 f4 f5 f6 f7 hn K Qd Qe Z6 Qa Qc Qh Qp Qz Q4 Z0 Z3 Zz Z7 Z9 Qg Zv Zw Qn Q6 Q5 Ja Q7 Q0 Jo Jj;unfold Xs;simp_all;done)|(symm;rw [←hR2];clear hR2 Qv hF f1 f2 f3 f4 f5 f6 f7 hn K Qd Qe Z6 Qa Qc Qh Qp Qz Q4 Z0 Z3 Zz Z7 Z9 Qg Zv Zw Qn Q6 Q5 Ja Q7 Q0 Jo Jj;unfold Xs Wf;simp_all;done)|(symm;rw [←hR2];clear hR2 Qv hF f1 f2 f3 f4 f5 f6 f7 hn K Qd Qe Z6 Qa Qc Qh Qp Qz Q4 Z0 Z3 Zz Z7 Z9 Qg Zv Zw Qn Q6 Q5 Ja Q7 Q0 Jo Jj;unfold Xs Wf;simp_all;omega)|skip):p:=h
structure Kbo:Prop
theorem Kbo.k (_:Kbo) (h:p:=by
 repeat' first|exact Z1|with_reducible apply Zb|intro _
 all_goals first|with_reducible exact Qo|omega|(symm;rw [←hR2];clear hR2 Qv hF f1 f2 f3 f4 f5 f6 f7 hn K Qd Qe Z6 Qa Qc Qh Qp Qz Q4 Z0 Z3 Zz Z7 Z9 Qg Zv Zw Qn Q6 Q5 Ja Q7 Q0 Jo Jj;unfold Xs;simp_all;done)|(symm;rw [←hR2];clear hR2 Qv hF f1 f2 f3 f4 f5 f6 f7 hn K Qd Qe Z6 Qa Qc Qh Qp Qz Q4 Z0 Z3 Zz Z7 Z9 Qg Zv Zw Qn Q6 Q5 Ja Q7 Q0 Jo Jj;unfold Xs Wf;simp_all;done)|(symm;rw [←hR2];clear hR2 Qv hF f1 f2 f3 f4 f5 f6 f7 hn K Qd Qe Z6 Qa Qc Qh Qp Qz Q4 Z0 Z3 Zz Z7 Z9 Qg Zv Zw Qn Q6 Q5 Ja Q7 Q0 Jo Jj;unfold Xs Wf;simp_all;omega)|skip):p:=h
structure Kbp:Prop
theorem Kbp.k (_:Kbp) (h:p:=by
 repeat' first|exact Z1|with_reducible apply Zb|intro _
 all_goals first|with_reducible exact Qo|omega|(symm;rw [←hR2];clear hR2 Qv hF f1 f2 f3 f4 f5 f6 f7 hn K Qd Qe Z6 Qa Qc Qh Qp Qz Q4 Z0 Z3 Zz Z7 Z9 Qg Zv Zw Qn Q6 Q5 Ja Q7 Q0 Jo Jj;unfold Xs;simp_all;done)|(symm;rw [←hR2];clear hR2 Qv hF f1 f2 f3 f4 f5 f6 f7 hn K Qd Qe Z6 Qa Qc Qh Qp Qz Q4 Z0 Z3 Zz Z7 Z9 Qg Zv Zw Qn Q6 Q5 Ja Q7 Q0 Jo Jj;unfold Xs Wf;simp_all;done)|(symm;rw [←hR2];clear hR2 Qv hF f1 f2 f3 f4 f5 f6 f7 hn K Qd Qe Z6 Qa Qc Qh Qp Qz Q4 Z0 Z3 Zz Z7 Z9 Qg Zv Zw Qn Q6 Q5 Ja Q7 Q0 Jo Jj;unfold Xs Wf;simp_all;omega)|skip):p:=h
structure Kbq:Prop
theorem Kbq.k (_:Kbq) (h:p:=by
 repeat' first|exact Z1|with_reducible apply Zb|intro _
 all_goals first|with_reducible exact Qo|omega|(symm;rw [←hR2];clear hR2 Qv hF f1 f2 f3 f4 f5 f6 f7 hn K Qd Qe Z6 Qa Qc Qh Qp Qz Q4 Z0 Z3 Zz Z7 Z9 Qg Zv Zw Qn Q6 Q5 Ja Q7 Q0 Jo Jj;unfold Xs;simp_all;done)|(symm;rw [←hR2];clear hR2 Qv hF f1 f2 f3 f4 f5 f6 f7 hn K Qd Qe Z6 Qa Qc Qh Qp Qz Q4 Z0 Z3 Zz Z7 Z9 Qg Zv Zw Qn Q6 Q5 Ja Q7 Q0 Jo Jj;unfold Xs Wf;simp_all;done)|(symm;rw [←hR2];clear hR2 Qv hF f1 f2 f3 f4 f5 f6 f7 hn K Qd Qe Z6 Qa Qc Qh Qp Qz Q4 Z0 Z3 Zz Z7 Z9 Qg Zv Zw Qn Q6 Q5 Ja Q7 Q0 Jo Jj;unfold Xs Wf;simp_all;omega)|skip):p:=h
structure Kbr:Prop
theorem Kbr.k (_:Kbr) (h:p:=by
 repeat' first|exact Z1|with_reducible apply Zb|intro _
 all_goals first|with_reducible exact Qo|omega|(symm;rw [←hR2];clear hR2 Qv hF f1 f2 f3 f4 f5 f6 f7 hn K Qd Qe Z6 Qa Qc Qh Qp Qz Q4 Z0 Z3 Zz Z7 Z9 Qg Zv Zw Qn Q6 Q5 Ja Q7 Q0 Jo Jj;unfold Xs;simp_all;done)|(symm;rw [←hR2];clear hR2 Qv hF f1 f2 f3 f4 f5 f6 f7 hn K Qd Qe Z6 Qa Qc Qh Qp Qz Q4 Z0 Z3 Zz Z7 Z9 Qg Zv Zw Qn Q6 Q5 Ja Q7 Q0 Jo Jj;unfold Xs Wf;simp_all;done)|(symm;rw [←hR2];clear hR2 Qv hF f1 f2 f3 f4 f5 f6 f7 hn K Qd Qe Z6 Qa Qc Qh Qp Qz Q4 Z0 Z3 Zz Z7 Z9 Qg Zv Zw Qn Q6 Q5 Ja Q7 Q0 Jo Jj;unfold Xs Wf;simp_all;omega)|skip):p:=h
structure Kbs:Prop
theorem Kbs.k (_:Kbs) (h:p:=by
 repeat' first|exact Z1|with_reducible apply Zb|intro _
 all_goals first|with_reducible exact Qo|omega|(symm;rw [←hR2];clear hR2 Qv hF f1 f2 f3 f4 f5 f6 f7 hn K Qd Qe Z6 Qa Qc Qh Qp Qz Q4 Z0 Z3 Zz Z7 Z9 Qg Zv Zw Qn Q6 Q5 Ja Q7 Q0 Jo Jj;unfold Xs;simp_all;done)|(symm;rw [←hR2];clear hR2 Qv hF f1 f2 f3 f4 f5 f6 f7 hn K Qd Qe Z6 Qa Qc Qh Qp Qz Q4 Z0 Z3 Zz Z7 Z9 Qg Zv Zw Qn Q6 Q5 Ja Q7 Q0 Jo Jj;unfold Xs Wf;simp_all;done)|(symm;rw [←hR2];clear hR2 Qv hF f1 f2 f3 f4 f5 f6 f7 hn K Qd Qe Z6 Qa Qc Qh Qp Qz Q4 Z0 Z3 Zz Z7 Z9 Qg Zv Zw Qn Q6 Q5 Ja Q7 Q0 Jo Jj;unfold Xs Wf;simp_all;omega)|skip):p:=h
structure Kbt:Prop
theorem Kbt.k (_:Kbt) (h:p:=by
 repeat' first|exact Z1|with_reducible apply Zb|intro _
 all_goals first|with_reducible exact Qo|omega|(symm;rw [←hR2];clear hR2 Qv hF f1 f2 f3 f4 f5 f6 f7 hn K Qd Qe Z6 Qa Qc Qh Qp Qz Q4 Z0 Z3 Zz Z7 Z9 Qg Zv Zw Qn Q6 Q5 Ja Q7 Q0 Jo Jj;unfold Xs;simp_all;done)|(symm;rw [←hR2];clear hR2 Qv hF f1 f2 f3 f4 f5 f6 f7 hn K Qd Qe Z6 Qa Qc Qh Qp Qz Q4 Z0 Z3 Zz Z7 Z9 Qg Zv Zw Qn Q6 Q5 Ja Q7 Q0 Jo Jj;unfold Xs Wf;simp_all;done)|(symm;rw [←hR2];clear hR2 Qv hF f1 f2 f3 f4 f5 f6 f7 hn K Qd Qe Z6 Qa Qc Qh Qp Qz Q4 Z0 Z3 Zz Z7 Z9 Qg Zv Zw Qn Q6 Q5 Ja Q7 Q0 Jo Jj;unfold Xs Wf;simp_all;omega)|skip):p:=h
structure Kbu:Prop
theorem Kbu.k (_:Kbu) (h:p:=by
 repeat' first|exact Z1|with_reducible apply Zb|intro _
 all_goals first|with_reducible exact Qo|omega|(symm;rw [←hR2];clear hR2 Qv hF f1 f2 f3 f4 f5 f6 f7 hn K Qd Qe Z6 Qa Qc Qh Qp Qz Q4 Z0 Z3 Zz Z7 Z9 Qg Zv Zw Qn Q6 Q5 Ja Q7 Q0 Jo Jj;unfold Xs;simp_all;done)|(symm;rw [←hR2];clear hR2 Qv hF f1 f2 f3 f4 f5 f6 f7 hn K Qd Qe Z6 Qa Qc Qh Qp Qz Q4 Z0 Z3 Zz Z7 Z9 Qg Zv Zw Qn Q6 Q5 Ja Q7 Q0 Jo Jj;unfold Xs Wf;simp_all;done)|(symm;rw [←hR2];clear hR2 Qv hF f1 f2 f3 f4 f5 f6 f7 hn K Qd Qe Z6 Qa Qc Qh Qp Qz Q4 Z0 Z3 Zz Z7 Z9 Qg Zv Zw Qn Q6 Q5 Ja Q7 Q0 Jo Jj;unfold Xs Wf;simp_all;omega)|skip):p:=h
theorem good_uses5:Qq Tryz.prog (150,bF):=by
 obtain ⟨Kx,Kt,Kc,Kd,Kb,Ku,Kw,K,W4,Gd,M4,Ln,Ek,cL,_⟩:=X2 Z4 Zq [] false (Jh good_IsTag1 Zce (Jh good_IsWord1 Dk (Jh good_plain5 An.eq_def (Jh good_literal5 Tv.eq_def (Jh good_name5 bH.eq_def (Jh good_op5 Zb7.eq_def X1))))));have Ko:=bF.eq_def;refine Wh K Tryz.func150 [.tmp 2] rfl 275 rfl (fun c hc cvs hpre=>?_);unfold bF at hpre;obtain ⟨p,rfl,hF,hn⟩:=Jr hpre;clear hpre;have hF2:=hF;obtain ⟨⟨f1,f2⟩,⟨f3,f4⟩,f5,f6,f7⟩:=hF2;obtain ⟨R,Qv⟩:=exq (Ib p);have hR2:=Qv;unfold Ib at hR2;obtain ⟨w,Qd⟩:=exq (Yo p.name);obtain ⟨tg,Qe⟩:=exq (Sa p.name);obtain ⟨b,Z6⟩:=exq (Yo p.bind);obtain ⟨t,Qa⟩:=exq (kT p.t);obtain ⟨u,Qc⟩:=exq (kT p.u);obtain ⟨li,Qh⟩:=exq (Oi p);obtain ⟨na,Qp⟩:=exq (Zll p.name);obtain ⟨op,Qz⟩:=exq (Qao p.name);rw [Qd,Qe,Z6,Qa,Qc,Qh,Qp,Qz] at hR2;cases hc;refine Yv 17 ?_;by_cases hc:p.kind=0
 ·have Q4:(p.kind==0)=true:=Zm.2 hc;have Z0:(p.kind==1)=false:=Za.2 (by omega)
  have Z3:(p.kind==2)=false:=Za.2 (by omega)
  have Zz:(p.kind==3)=false:=Za.2 (by omega)
  have Z7:(p.kind==4)=false:=Za.2 (by omega)
  have Z9:(p.kind==5)=false:=Za.2 (by omega)
  have Qg:(p.kind==6)=false:=Za.2 (by omega)
  have Zv:(p.kind==7)=false:=Za.2 (by omega)
  have Zw:(p.kind==8)=false:=Za.2 (by omega)
  have Qn:(p.kind==9)=false:=Za.2 (by omega)
  have Q6:(p.kind==10)=false:=Za.2 (by omega)
  have Q5:(p.kind==11)=false:=Za.2 (by omega)
  have Ja:(p.kind==12)=false:=Za.2 (by omega)
  have Q7:(p.kind==13)=false:=Za.2 (by omega)
  have Q0:(p.kind==14)=false:=Za.2 (by omega)
  have Jo:(p.kind != 0)=false:=by rw [bne,Q4];rfl
  have Jj:(p.kind != 14)=true:=by rw [bne,Q0];rfl
  have Wx:=@Qb;have X9:=@Qi;have Wq:=@Qj;have Wp:=@Ql;have Wo:=@Pe;have Kq:Kbf:=⟨⟩;exact L5
 have c0:=hc;clear hc;by_cases hc:p.kind=1
 ·have Q4:(p.kind==0)=false:=Za.2 (by omega)
  have Z0:(p.kind==1)=true:=Zm.2 hc;have Z3:(p.kind==2)=false:=Za.2 (by omega)
  have Zz:(p.kind==3)=false:=Za.2 (by omega)
  have Z7:(p.kind==4)=false:=Za.2 (by omega)
  have Z9:(p.kind==5)=false:=Za.2 (by omega)
  have Qg:(p.kind==6)=false:=Za.2 (by omega)
  have Zv:(p.kind==7)=false:=Za.2 (by omega)
  have Zw:(p.kind==8)=false:=Za.2 (by omega)
  have Qn:(p.kind==9)=false:=Za.2 (by omega)
  have Q6:(p.kind==10)=false:=Za.2 (by omega)
  have Q5:(p.kind==11)=false:=Za.2 (by omega)
  have Ja:(p.kind==12)=false:=Za.2 (by omega)
  have Q7:(p.kind==13)=false:=Za.2 (by omega)
  have Q0:(p.kind==14)=false:=Za.2 (by omega)
  have Jo:(p.kind != 0)=true:=by rw [bne,Q4];rfl
  have Jj:(p.kind != 14)=true:=by rw [bne,Q0];rfl
  have Wx:=@Qb;have X9:=@Qi;have Wq:=@Qj;have Wp:=@Ql;have Wo:=@Pe;have Kq:Kbg:=⟨⟩;exact L5
 have c1:=hc;clear hc;by_cases hc:p.kind=2
 ·have Q4:(p.kind==0)=false:=Za.2 (by omega)
  have Z0:(p.kind==1)=false:=Za.2 (by omega)
  have Z3:(p.kind==2)=true:=Zm.2 hc;have Zz:(p.kind==3)=false:=Za.2 (by omega)
  have Z7:(p.kind==4)=false:=Za.2 (by omega)
  have Z9:(p.kind==5)=false:=Za.2 (by omega)
  have Qg:(p.kind==6)=false:=Za.2 (by omega)
  have Zv:(p.kind==7)=false:=Za.2 (by omega)
  have Zw:(p.kind==8)=false:=Za.2 (by omega)
  have Qn:(p.kind==9)=false:=Za.2 (by omega)
  have Q6:(p.kind==10)=false:=Za.2 (by omega)
  have Q5:(p.kind==11)=false:=Za.2 (by omega)
  have Ja:(p.kind==12)=false:=Za.2 (by omega)
  have Q7:(p.kind==13)=false:=Za.2 (by omega)
  have Q0:(p.kind==14)=false:=Za.2 (by omega)
  have Jo:(p.kind != 0)=true:=by rw [bne,Q4];rfl
  have Jj:(p.kind != 14)=true:=by rw [bne,Q0];rfl
  have Wx:=@Qb;have X9:=@Qi;have Wq:=@Qj;have Wp:=@Ql;have Wo:=@Pe;have Kq:Kbh:=⟨⟩;exact L5
 have c2:=hc;clear hc;by_cases hc:p.kind=3
 ·have Q4:(p.kind==0)=false:=Za.2 (by omega)
  have Z0:(p.kind==1)=false:=Za.2 (by omega)
  have Z3:(p.kind==2)=false:=Za.2 (by omega)
  have Zz:(p.kind==3)=true:=Zm.2 hc;have Z7:(p.kind==4)=false:=Za.2 (by omega)
  have Z9:(p.kind==5)=false:=Za.2 (by omega)
  have Qg:(p.kind==6)=false:=Za.2 (by omega)
  have Zv:(p.kind==7)=false:=Za.2 (by omega)
  have Zw:(p.kind==8)=false:=Za.2 (by omega)
  have Qn:(p.kind==9)=false:=Za.2 (by omega)
  have Q6:(p.kind==10)=false:=Za.2 (by omega)
  have Q5:(p.kind==11)=false:=Za.2 (by omega)
  have Ja:(p.kind==12)=false:=Za.2 (by omega)
  have Q7:(p.kind==13)=false:=Za.2 (by omega)
  have Q0:(p.kind==14)=false:=Za.2 (by omega)
  have Jo:(p.kind != 0)=true:=by rw [bne,Q4];rfl
  have Jj:(p.kind != 14)=true:=by rw [bne,Q0];rfl
  have Wx:=@Qb;have X9:=@Qi;have Wq:=@Qj;have Wp:=@Ql;have Wo:=@Pe;have Kq:Kbi:=⟨⟩;exact L5
 have c3:=hc;clear hc;by_cases hc:p.kind=4
 ·have Q4:(p.kind==0)=false:=Za.2 (by omega)
  have Z0:(p.kind==1)=false:=Za.2 (by omega)
  have Z3:(p.kind==2)=false:=Za.2 (by omega)
  have Zz:(p.kind==3)=false:=Za.2 (by omega)
  have Z7:(p.kind==4)=true:=Zm.2 hc;have Z9:(p.kind==5)=false:=Za.2 (by omega)
  have Qg:(p.kind==6)=false:=Za.2 (by omega)
  have Zv:(p.kind==7)=false:=Za.2 (by omega)
  have Zw:(p.kind==8)=false:=Za.2 (by omega)
  have Qn:(p.kind==9)=false:=Za.2 (by omega)
  have Q6:(p.kind==10)=false:=Za.2 (by omega)
  have Q5:(p.kind==11)=false:=Za.2 (by omega)
  have Ja:(p.kind==12)=false:=Za.2 (by omega)
  have Q7:(p.kind==13)=false:=Za.2 (by omega)
  have Q0:(p.kind==14)=false:=Za.2 (by omega)
  have Jo:(p.kind != 0)=true:=by rw [bne,Q4];rfl
  have Jj:(p.kind != 14)=true:=by rw [bne,Q0];rfl
  have Wx:=@Qb;have X9:=@Qi;have Wq:=@Qj;have Wp:=@Ql;have Wo:=@Pe;have Kq:Kbj:=⟨⟩;exact L5
 have c4:=hc;clear hc;by_cases hc:p.kind=5
 ·have Q4:(p.kind==0)=false:=Za.2 (by omega)
  have Z0:(p.kind==1)=false:=Za.2 (by omega)
  have Z3:(p.kind==2)=false:=Za.2 (by omega)
  have Zz:(p.kind==3)=false:=Za.2 (by omega)
  have Z7:(p.kind==4)=false:=Za.2 (by omega)
  have Z9:(p.kind==5)=true:=Zm.2 hc;have Qg:(p.kind==6)=false:=Za.2 (by omega)
  have Zv:(p.kind==7)=false:=Za.2 (by omega)
  have Zw:(p.kind==8)=false:=Za.2 (by omega)
  have Qn:(p.kind==9)=false:=Za.2 (by omega)
  have Q6:(p.kind==10)=false:=Za.2 (by omega)
  have Q5:(p.kind==11)=false:=Za.2 (by omega)
  have Ja:(p.kind==12)=false:=Za.2 (by omega)
  have Q7:(p.kind==13)=false:=Za.2 (by omega)
  have Q0:(p.kind==14)=false:=Za.2 (by omega)
  have Jo:(p.kind != 0)=true:=by rw [bne,Q4];rfl
  have Jj:(p.kind != 14)=true:=by rw [bne,Q0];rfl
  have Wx:=@Qb;have X9:=@Qi;have Wq:=@Qj;have Wp:=@Ql;have Wo:=@Pe;have Kq:Kbk:=⟨⟩;exact L5
 have c5:=hc;clear hc;by_cases hc:p.kind=6
 ·have Q4:(p.kind==0)=false:=Za.2 (by omega)
  have Z0:(p.kind==1)=false:=Za.2 (by omega)
  have Z3:(p.kind==2)=false:=Za.2 (by omega)
  have Zz:(p.kind==3)=false:=Za.2 (by omega)
  have Z7:(p.kind==4)=false:=Za.2 (by omega)
  have Z9:(p.kind==5)=false:=Za.2 (by omega)
  have Qg:(p.kind==6)=true:=Zm.2 hc;have Zv:(p.kind==7)=false:=Za.2 (by omega)
  have Zw:(p.kind==8)=false:=Za.2 (by omega)
  have Qn:(p.kind==9)=false:=Za.2 (by omega)
  have Q6:(p.kind==10)=false:=Za.2 (by omega)
  have Q5:(p.kind==11)=false:=Za.2 (by omega)
  have Ja:(p.kind==12)=false:=Za.2 (by omega)
  have Q7:(p.kind==13)=false:=Za.2 (by omega)
  have Q0:(p.kind==14)=false:=Za.2 (by omega)
  have Jo:(p.kind != 0)=true:=by rw [bne,Q4];rfl
  have Jj:(p.kind != 14)=true:=by rw [bne,Q0];rfl
  have Wx:=@Qb;have X9:=@Qi;have Wq:=@Qj;have Wp:=@Ql;have Wo:=@Pe;have Kq:Kbl:=⟨⟩;exact L5
 have c6:=hc;clear hc;by_cases hc:p.kind=7
 ·have Q4:(p.kind==0)=false:=Za.2 (by omega)
  have Z0:(p.kind==1)=false:=Za.2 (by omega)
  have Z3:(p.kind==2)=false:=Za.2 (by omega)
  have Zz:(p.kind==3)=false:=Za.2 (by omega)
  have Z7:(p.kind==4)=false:=Za.2 (by omega)
  have Z9:(p.kind==5)=false:=Za.2 (by omega)
  have Qg:(p.kind==6)=false:=Za.2 (by omega)
  have Zv:(p.kind==7)=true:=Zm.2 hc;have Zw:(p.kind==8)=false:=Za.2 (by omega)
  have Qn:(p.kind==9)=false:=Za.2 (by omega)
  have Q6:(p.kind==10)=false:=Za.2 (by omega)
  have Q5:(p.kind==11)=false:=Za.2 (by omega)
  have Ja:(p.kind==12)=false:=Za.2 (by omega)
  have Q7:(p.kind==13)=false:=Za.2 (by omega)
  have Q0:(p.kind==14)=false:=Za.2 (by omega)
  have Jo:(p.kind != 0)=true:=by rw [bne,Q4];rfl
  have Jj:(p.kind != 14)=true:=by rw [bne,Q0];rfl
  have Wx:=@Qb;have X9:=@Qi;have Wq:=@Qj;have Wp:=@Ql;have Wo:=@Pe;have Kq:Kbm:=⟨⟩;exact L5
 have c7:=hc;clear hc;by_cases hc:p.kind=8
 ·have Q4:(p.kind==0)=false:=Za.2 (by omega)
  have Z0:(p.kind==1)=false:=Za.2 (by omega)
  have Z3:(p.kind==2)=false:=Za.2 (by omega)
  have Zz:(p.kind==3)=false:=Za.2 (by omega)
  have Z7:(p.kind==4)=false:=Za.2 (by omega)
  have Z9:(p.kind==5)=false:=Za.2 (by omega)
  have Qg:(p.kind==6)=false:=Za.2 (by omega)
  have Zv:(p.kind==7)=false:=Za.2 (by omega)
  have Zw:(p.kind==8)=true:=Zm.2 hc;have Qn:(p.kind==9)=false:=Za.2 (by omega)
  have Q6:(p.kind==10)=false:=Za.2 (by omega)
  have Q5:(p.kind==11)=false:=Za.2 (by omega)
  have Ja:(p.kind==12)=false:=Za.2 (by omega)
  have Q7:(p.kind==13)=false:=Za.2 (by omega)
  have Q0:(p.kind==14)=false:=Za.2 (by omega)
  have Jo:(p.kind != 0)=true:=by rw [bne,Q4];rfl
  have Jj:(p.kind != 14)=true:=by rw [bne,Q0];rfl
  have Wx:=@Qb;have X9:=@Qi;have Wq:=@Qj;have Wp:=@Ql;have Wo:=@Pe;have Kq:Kbn:=⟨⟩;exact L5
 have c8:=hc;clear hc;by_cases hc:p.kind=9
 ·have Q4:(p.kind==0)=false:=Za.2 (by omega)
  have Z0:(p.kind==1)=false:=Za.2 (by omega)
  have Z3:(p.kind==2)=false:=Za.2 (by omega)
  have Zz:(p.kind==3)=false:=Za.2 (by omega)
  have Z7:(p.kind==4)=false:=Za.2 (by omega)
  have Z9:(p.kind==5)=false:=Za.2 (by omega)
  have Qg:(p.kind==6)=false:=Za.2 (by omega)
  have Zv:(p.kind==7)=false:=Za.2 (by omega)
  have Zw:(p.kind==8)=false:=Za.2 (by omega)
  have Qn:(p.kind==9)=true:=Zm.2 hc;have Q6:(p.kind==10)=false:=Za.2 (by omega)
  have Q5:(p.kind==11)=false:=Za.2 (by omega)
  have Ja:(p.kind==12)=false:=Za.2 (by omega)
  have Q7:(p.kind==13)=false:=Za.2 (by omega)
  have Q0:(p.kind==14)=false:=Za.2 (by omega)
  have Jo:(p.kind != 0)=true:=by rw [bne,Q4];rfl
  have Jj:(p.kind != 14)=true:=by rw [bne,Q0];rfl
  have Wx:=@Qb;have X9:=@Qi;have Wq:=@Qj;have Wp:=@Ql;have Wo:=@Pe;have Kq:Kbo:=⟨⟩;exact L5
 have c9:=hc;clear hc;by_cases hc:p.kind=10
 ·have Q4:(p.kind==0)=false:=Za.2 (by omega)
  have Z0:(p.kind==1)=false:=Za.2 (by omega)
  have Z3:(p.kind==2)=false:=Za.2 (by omega)
  have Zz:(p.kind==3)=false:=Za.2 (by omega)
  have Z7:(p.kind==4)=false:=Za.2 (by omega)
  have Z9:(p.kind==5)=false:=Za.2 (by omega)
  have Qg:(p.kind==6)=false:=Za.2 (by omega)
  have Zv:(p.kind==7)=false:=Za.2 (by omega)
  have Zw:(p.kind==8)=false:=Za.2 (by omega)
  have Qn:(p.kind==9)=false:=Za.2 (by omega)
  have Q6:(p.kind==10)=true:=Zm.2 hc;have Q5:(p.kind==11)=false:=Za.2 (by omega)
  have Ja:(p.kind==12)=false:=Za.2 (by omega)
  have Q7:(p.kind==13)=false:=Za.2 (by omega)
  have Q0:(p.kind==14)=false:=Za.2 (by omega)
  have Jo:(p.kind != 0)=true:=by rw [bne,Q4];rfl
  have Jj:(p.kind != 14)=true:=by rw [bne,Q0];rfl
  have Wx:=@Qb;have X9:=@Qi;have Wq:=@Qj;have Wp:=@Ql;have Wo:=@Pe;have Kq:Kbp:=⟨⟩;exact L5
 have c10:=hc;clear hc;by_cases hc:p.kind=11
 ·have Q4:(p.kind==0)=false:=Za.2 (by omega)
  have Z0:(p.kind==1)=false:=Za.2 (by omega)
  have Z3:(p.kind==2)=false:=Za.2 (by omega)
  have Zz:(p.kind==3)=false:=Za.2 (by omega)
  have Z7:(p.kind==4)=false:=Za.2 (by omega)
  have Z9:(p.kind==5)=false:=Za.2 (by omega)
  have Qg:(p.kind==6)=false:=Za.2 (by omega)
  have Zv:(p.kind==7)=false:=Za.2 (by omega)
  have Zw:(p.kind==8)=false:=Za.2 (by omega)
  have Qn:(p.kind==9)=false:=Za.2 (by omega)
  have Q6:(p.kind==10)=false:=Za.2 (by omega)
  have Q5:(p.kind==11)=true:=Zm.2 hc;have Ja:(p.kind==12)=false:=Za.2 (by omega)
  have Q7:(p.kind==13)=false:=Za.2 (by omega)
  have Q0:(p.kind==14)=false:=Za.2 (by omega)
  have Jo:(p.kind != 0)=true:=by rw [bne,Q4];rfl
  have Jj:(p.kind != 14)=true:=by rw [bne,Q0];rfl
  have Wx:=@Qb;have X9:=@Qi;have Wq:=@Qj;have Wp:=@Ql;have Wo:=@Pe;have Kq:Kbq:=⟨⟩;exact L5
 have c11:=hc;clear hc;by_cases hc:p.kind=12
 ·have Q4:(p.kind==0)=false:=Za.2 (by omega)
  have Z0:(p.kind==1)=false:=Za.2 (by omega)
  have Z3:(p.kind==2)=false:=Za.2 (by omega)
  have Zz:(p.kind==3)=false:=Za.2 (by omega)
  have Z7:(p.kind==4)=false:=Za.2 (by omega)
  have Z9:(p.kind==5)=false:=Za.2 (by omega)
  have Qg:(p.kind==6)=false:=Za.2 (by omega)
  have Zv:(p.kind==7)=false:=Za.2 (by omega)
  have Zw:(p.kind==8)=false:=Za.2 (by omega)
  have Qn:(p.kind==9)=false:=Za.2 (by omega)
  have Q6:(p.kind==10)=false:=Za.2 (by omega)
  have Q5:(p.kind==11)=false:=Za.2 (by omega)
  have Ja:(p.kind==12)=true:=Zm.2 hc;have Q7:(p.kind==13)=false:=Za.2 (by omega)
  have Q0:(p.kind==14)=false:=Za.2 (by omega)
  have Jo:(p.kind != 0)=true:=by rw [bne,Q4];rfl
  have Jj:(p.kind != 14)=true:=by rw [bne,Q0];rfl
  have Wx:=@Qb;have X9:=@Qi;have Wq:=@Qj;have Wp:=@Ql;have Wo:=@Pe;have Kq:Kbr:=⟨⟩;exact L5
 have c12:=hc;clear hc;by_cases hc:p.kind=13
 ·have Q4:(p.kind==0)=false:=Za.2 (by omega)
  have Z0:(p.kind==1)=false:=Za.2 (by omega)
  have Z3:(p.kind==2)=false:=Za.2 (by omega)
  have Zz:(p.kind==3)=false:=Za.2 (by omega)
  have Z7:(p.kind==4)=false:=Za.2 (by omega)
  have Z9:(p.kind==5)=false:=Za.2 (by omega)
  have Qg:(p.kind==6)=false:=Za.2 (by omega)
  have Zv:(p.kind==7)=false:=Za.2 (by omega)
  have Zw:(p.kind==8)=false:=Za.2 (by omega)
  have Qn:(p.kind==9)=false:=Za.2 (by omega)
  have Q6:(p.kind==10)=false:=Za.2 (by omega)
  have Q5:(p.kind==11)=false:=Za.2 (by omega)
  have Ja:(p.kind==12)=false:=Za.2 (by omega)
  have Q7:(p.kind==13)=true:=Zm.2 hc;have Q0:(p.kind==14)=false:=Za.2 (by omega)
  have Jo:(p.kind != 0)=true:=by rw [bne,Q4];rfl
  have Jj:(p.kind != 14)=true:=by rw [bne,Q0];rfl
  have Wx:=@Qb;have X9:=@Qi;have Wq:=@Qj;have Wp:=@Ql;have Wo:=@Pe;have Kq:Kbs:=⟨⟩;exact L5
 have c13:=hc;clear hc;by_cases hc:p.kind=14
 ·have Q4:(p.kind==0)=false:=Za.2 (by omega)
  have Z0:(p.kind==1)=false:=Za.2 (by omega)
  have Z3:(p.kind==2)=false:=Za.2 (by omega)
  have Zz:(p.kind==3)=false:=Za.2 (by omega)
  have Z7:(p.kind==4)=false:=Za.2 (by omega)
  have Z9:(p.kind==5)=false:=Za.2 (by omega)
  have Qg:(p.kind==6)=false:=Za.2 (by omega)
  have Zv:(p.kind==7)=false:=Za.2 (by omega)
  have Zw:(p.kind==8)=false:=Za.2 (by omega)
  have Qn:(p.kind==9)=false:=Za.2 (by omega)
  have Q6:(p.kind==10)=false:=Za.2 (by omega)
  have Q5:(p.kind==11)=false:=Za.2 (by omega)
  have Ja:(p.kind==12)=false:=Za.2 (by omega)
  have Q7:(p.kind==13)=false:=Za.2 (by omega)
  have Q0:(p.kind==14)=true:=Zm.2 hc;have Jo:(p.kind != 0)=true:=by rw [bne,Q4];rfl
  have Jj:(p.kind != 14)=false:=by rw [bne,Q0];rfl
  have Wx:=@Qb;have X9:=@Qi;have Wq:=@Qj;have Wp:=@Ql;have Wo:=@Pe;have Kq:Kbt:=⟨⟩;exact L5
 have c14:=hc;clear hc;have Q4:(p.kind==0)=false:=Za.2 (by omega)
 have Z0:(p.kind==1)=false:=Za.2 (by omega)
 have Z3:(p.kind==2)=false:=Za.2 (by omega)
 have Zz:(p.kind==3)=false:=Za.2 (by omega)
 have Z7:(p.kind==4)=false:=Za.2 (by omega)
 have Z9:(p.kind==5)=false:=Za.2 (by omega)
 have Qg:(p.kind==6)=false:=Za.2 (by omega)
 have Zv:(p.kind==7)=false:=Za.2 (by omega)
 have Zw:(p.kind==8)=false:=Za.2 (by omega)
 have Qn:(p.kind==9)=false:=Za.2 (by omega)
 have Q6:(p.kind==10)=false:=Za.2 (by omega)
 have Q5:(p.kind==11)=false:=Za.2 (by omega)
 have Ja:(p.kind==12)=false:=Za.2 (by omega)
 have Q7:(p.kind==13)=false:=Za.2 (by omega)
 have Q0:(p.kind==14)=false:=Za.2 (by omega)
 have Jo:(p.kind != 0)=true:=by rw [bne,Q4];rfl
 have Jj:(p.kind != 14)=true:=by rw [bne,Q0];rfl
 have Wx:=@Qb;have X9:=@Qi;have Wq:=@Qj;have Wp:=@Ql;have Wo:=@Pe;have Kq:Kbu:=⟨⟩;exact L5
def Zgf:List Part→List Int→Bool
 | [],_=>true
 | n::l,rs=>if 100≤rs.length then false else Zgf l (Io (Yj n) rs)
def fD (t:List Part):Bool:=Zgf t []
def Zxp (rs:List Int):Prop:=(∀ x∈rs,0≤x∧x≤60)∧∀ x∈rs.tail,1≤x
def Tq:Con:=Xj (fun (t:Sl Part)=>kJ t.l) (fun t=>fD t.l)
structure Kbx:Prop
theorem Kbx.k (_:Kbx) (h:p:=by
 repeat' first|exact Z1|with_reducible apply Zb|intro _
 simp only [Zr6] at g4;exact ⟨(k+1,[]),by exact Qk,by simp only;omega,by simp,by simp,by simp only;rw [←h4,e1,g4],by simp only;omega⟩):p:=h
structure Kby:Prop
theorem Kby.k (_:Kby) (h:p:=by
 repeat' first|exact Z1|with_reducible apply Zb|intro _
 exact ⟨[],by exact Qk,⟨by simp,by simp⟩,by simp,by rw [←g4];rfl,by simp⟩):p:=h
structure Kbz:Prop
theorem Kbz.k (_:Kbz) (h:p:=by
 repeat' first|exact Z1|with_reducible apply Zb|intro _
 refine ⟨(y-1)::r,by exact Qk,⟨fun z Z6=>?_,fun z Z6=>g2 z (List.mem_cons_of_mem _ Z6)⟩,by simp only [Zj];omega,by rw [←g4];simp only [Zr6,Io,if_true],by simp only [Zj];omega⟩
 rcases Zu.1 Z6 with rfl|Z6
 ·omega
 ·exact g1 z (List.mem_cons_of_mem _ (List.mem_cons_of_mem _ Z6))):p:=h
structure KbA:Prop
theorem KbA.k (_:KbA) (h:p:=by
 repeat' first|exact Z1|with_reducible apply Zb|intro _
 have e3:Io M rs=x::r:=by rw [←g4];exact aL hx0
 refine ⟨(k+1,x::r),by exact Qk,by simp only;omega,by simp only [Zj];omega,fun z Z6=>?_,by simp only;rw [←h4,e1,e3],by simp only;omega⟩
 rcases Zu.1 Z6 with rfl|Z6
 ·omega
 ·exact ⟨g2 z Z6,(g1 z (List.mem_cons_of_mem _ Z6)).2⟩):p:=h
structure Kbw:Prop
theorem Kbw.k (_:Kbw) (h:p:=by
 revert e1 hmk;generalize Yj (t.getD k e0)=M;intro hmk e1;repeat' first|exact Z1|with_reducible apply Zb|intro _
 ·rw [if_pos (by omega)] at e1
  rw [←h4,e1]
 ·rw [if_neg (by omega)] at e1
  have e2:rs.reverse++[M]=(M::rs).reverse:=by simp
  have hS:∀ (q:List Int),q≠[]→((q.length:Nat):Int)-1=((q.length-1:Nat):Int):=by
   intro q hq;have:=List.length_pos_iff.2 hq;omega
  refine Zi [23,24,25,26,27,28,29,30,31,32,33,34,35,36,37,38,39,40,41,42,43,44,45,46,47,48,49,50] (fun q:List Int=>[(3,.sl 5 (q.reverse.map enc).length),(5,.dead),(12,.dead),(15,.dead),(22,.dead)]) (fun q:List Int=>[(5,.row 1 (q.reverse.map enc) 0)]) (fun q:List Int=>Zxp q∧q.length≤101∧Zr6 q=Io M rs) (fun q:List Int=>q.length) (M::rs) ?_ ?_ ?_
  ·refine ⟨⟨fun x hx=>?_,fun x hx=>(h3 x hx).1⟩,by simp only [Zj];omega,rfl⟩
   rcases Zu.1 hx with rfl|hx
   ·exact hmk
   ·have:=h3 x hx;omega
  ·exact Qk
  rintro q ⟨⟨g1,g2⟩,g3,g4⟩;cases q with
  | nil =>
   have Z6:Yi 0 ((0:Nat):Int)=false:=rfl;have Z3:=@List.length_reverse.{0};have Zz:=@List.reverse_nil.{0};have Z7:=@Qb;have Z9:=@Qi;have Qg:=@Qj;have Zv:=@Ql;have Zw:=@Pe;have Kq:Kbx:=⟨⟩;exact L5
  | cons x r =>
   have Z6:Yi 0 ((r.length+1:Nat):Int)=true:=by rw [Xa];omega
   have Qa:((r.length+1:Nat):Int)-1=(r.length:Int):=by omega
   have hx1:=g1 x (by simp)
   have Qc:el (List.map enc (x::r).reverse) r.length=.int .i64 x:=fM;have Qh:List.take r.length (List.map (enc:Int→D) (x::r).reverse)=List.map enc r.reverse:=Zk1;simp only [Zj] at g3;by_cases hx0:x=0
   ·subst hx0;cases r with
    | nil =>
     have Qp:Yi 0 ((0:Nat):Int)=false:=rfl;simp only [List.length_nil] at Z6 Qa Qc Qh;have Z3:=@List.length_reverse.{0};have Zz:=@List.reverse_nil.{0};have Z7:=@Qb;have Z9:=@Qi;have Qg:=@Qj;have Zv:=@Ql;have Zw:=@Pe;have Kq:Kby:=⟨⟩;exact L5
    | cons y r =>
     have hy1:=g2 y (by simp)
     have hy2:=g1 y (by simp)
     have Qz:Yi 0 ((r.length+1:Nat):Int)=true:=by rw [Xa];omega
     have Qv:((r.length+1:Nat):Int)-1=(r.length:Int):=by omega
     have Q4:el (List.map enc (y::r).reverse) r.length=.int .i64 y:=fM;simp only [Zj] at Z6 Qa Qc Qh g3;have Z3:=@List.length_reverse.{0};have Zz:=@Qb;have Z7:=@Qi;have Z9:=@Qj;have Qg:=@Ql;have Zv:=@Pe;have Kq:Kbz:=⟨⟩;exact L5
   ·have Z0:(x==(0:Int))=false:=by simpa using hx0
    have Z3:=@List.length_reverse.{0};have Zz:=@Qb;have Z7:=@Qi;have Z9:=@Qj;have Qg:=@Ql;have Zv:=@Pe;have Kq:KbA:=⟨⟩;exact L5):p:=h
structure KbB:Prop
theorem KbB.k (_:KbB) (h:p:=by
 rw [←h4,List.drop_eq_nil_of_le hlt];rfl):p:=h
structure Kbv:Prop
theorem Kbv.k (_:Kbv) (h:p:=by
 refine Zi [2,6,7,8,9,10,11,12,13,14,15,16,17,18,19,20,21,22,23,24,25,26,27,28,29,30,31,32,33,34,35,36,37,38,39,40,41,42,43,44,45,46,47,48,49,50] (fun p:Nat×List Int=>[(3,.sl 5 (p.2.reverse.map enc).length),(4,.d (.int .i64 p.1)),(5,.dead)]) (fun p:Nat×List Int=>[(5,.row 1 (p.2.reverse.map enc) 0)]) (fun p:Nat×List Int=>p.1≤t.length∧p.2.length≤101∧(∀ x∈p.2,1≤x∧x≤60)∧Zgf (t.drop p.1) p.2=fD t) (fun p:Nat×List Int=>t.length-p.1) (0,[]) ?_ ?_ ?_
 ·exact ⟨Nat.zero_le _,by simp,by simp,rfl⟩
 ·exact Qk
 rintro ⟨k,rs⟩ ⟨h1,h2,h3,h4⟩;simp only at h1 h2 h3 h4;rcases Zn k t.length with ⟨hlt,Qd⟩|⟨hlt,Qd⟩
 ·have hmk3:=(hm (t.getD k e0) (by simp [hlt])).2.2
  have hmk:0≤Yj (t.getD k e0)∧Yj (t.getD k e0)≤60:=⟨(hm (t.getD k e0) (by simp [hlt])).1,(hm (t.getD k e0) (by simp [hlt])).2.1⟩
  have e1:Zgf (t.drop k) rs=if 100≤rs.length then false else Zgf (t.drop (k+1)) (Io (Yj (t.getD k e0)) rs):=by
   rw [List.drop_eq_getElem_cons hlt,Zgf];simp [hlt]
  have Qe:=Zr (e0:Part) hlt;have Z3:=@List.length_reverse.{0};have Zz:=@Qb;have Z7:=@Qi;have Z9:=@Qj;have Qg:=@Ql;have Zv:=@Pe;have Kq:Kbw:=⟨⟩;exact L5
 ·have Z3:=@Qb;have Zz:=@Qi;have Z7:=@Qj;have Z9:=@Ql;have Qg:=@Pe;have Kq:KbB:=⟨⟩;exact L5):p:=h
theorem good_shallow5:Qq Tryz.prog (151,Tq):=by
 obtain ⟨Kx,Kt,Kc,Kd,Kb,Ku,Kw,K,W4,_⟩:=X2 Z4 Zq [39] false (Jh good_Many5 Lj.eq_def X1);have Ko:=Tq.eq_def;refine Wh K Tryz.func151 [.tmp 2] rfl 51 rfl (fun c hc cvs hpre=>?_);unfold Tq at hpre;obtain ⟨⟨t⟩,rfl,⟨ht,hm⟩⟩:=Jr hpre;simp only at ht hm;cases hc;refine Yv 3 ?_;have Z3:=@Qb;have Zz:=@Qi;have Z7:=@Qj;have Z9:=@Ql;have Qg:=@Pe;have Kq:Kbv:=⟨⟩;exact L5
def Xc (t:List Part) (l:List Int) (k:Nat):Part:=t.getD (l.getD k 0).toNat e0
def Zvg (t:List Part) (l:List Int) (x:Part) (k:Nat):Bool:=(List.range k).any fun j=>!(x.label==[])&&((Xc t l j).label==x.label)
def Zx3 (p x:Part) (br:Bool):Bool:=((x.kind==8)==br)&&!((br&&!Sa x.label)||(((p.kind==10)&&!Yo x.label)||((!br&&!(p.kind==10))&&!(x.label==[]))))
def eW (t:List Part) (p:Part) (l:List Int) (k:Nat):Bool:=Zx3 p (Xc t l k) ((p.kind==7)&&Yi 0 k)&&!Zvg t l (Xc t l k) k
def Zl5 (t:List Part) (i:Nat):Bool:=(((L9 t i).length:Int)==Yj (t.getD i e0))&&(List.range (L9 t i).length).all fun k=>eW t (t.getD i e0) (L9 t i) k
theorem gM (t:List Part):∀ (m q:Nat),∀ x∈X8 t m q,(q:Int)≤x∧x<t.length
 | 0,q,x,hx=>by simp [X8] at hx
 | m+1,q,x,hx=>by
  unfold X8 at hx;split at hx
  ·rcases Zu.1 hx with rfl|hx
   ·omega
   ·have:=gM t m _ x hx;omega
  ·cases hx
theorem Zuu {t:List Part} {i:Nat}:∀ x∈L9 t i,(i:Int)<x∧x<t.length:=by
 intro x hx;unfold L9 at hx;split at hx
 ·cases hx
 ·have:=gM t _ _ x hx;omega
theorem dD (t:List Part):∀ (m q:Nat),(X8 t m q).length≤m
 | 0,q=>by simp [X8]
 | m+1,q=>by
  unfold X8;split
  ·simp only [Zj];have:=dD t m (q+Is (t.drop q) 1);omega
  ·simp
def Qbu (t:List Part):Prop:=∀ n∈t,n.label.length≤9223372036854775807
theorem Cc {p:Nat→Bool} {l:List Nat} (h:∀ m∈l,p m=false):l.any p=false:=by
 rw [List.any_eq_false];intro x hx;rw [h x hx];simp
def Lu:Con:=Wr (fun (t:Sl Part) (i:Int)=>kJ t.l∧Qbu t.l∧0≤i∧i<t.l.length) (fun t i=>Zl5 t.l i.toNat)
theorem Zrv {p:Prop} (h:p:=by (sym=>simp [Kt,Kc,Kd,Kb,Ku,Kw,Ko,W4,Gd,M4,Ln,Ek,cL,fW,oB,Zcc,Zcb,Qd,Qe,Z6,Qa,Qc,Qh,Qp,Qz,Qv,Q4,Z0,Z3,Zz,Z7,Z9,Qg,Zv,Zw,Qn,Q6,Q5,Ja,Q7,Q0,Jo,Jj,Wx,X9,Wq,Wp,Wo,Ur,Uq,Up,Kj,Ki,Kh,D.setCell.eq_1,Zf,Ys,Q2,Q1,Jp,X0,Wt,Xr,Ji,Xb,Jf,Qj,Jw,Q3,Qb,Je,Yr,Ex,Jd,Qi,J3,Wl,Nn,Jc,Ql,Dl,Pe,Kf,Zbv,Zbu,Zbt,Zbs,Zbr,Zbq,Zbp,Zbo,Zbn,Zbm,Zbl,Zbk,Zbj,Zbi,Zbh,Zbg,Zbf,Zbe,Zbd,Zbc,Zbb,Zba,Za9,Za8,Za7,Za6,Za5,Za4,Za3,Za2,Za1,Za0,Zaz,Zay,Zax,Zaw,Zav,Zau,Zat,Zas,Zar,Zaq,Zap,Zao,Zan,Zam,Zal,Zak,Zaj,Zai,Zah,Zag,Zaf,Zae,Zad,Zac,Zab,Zaa,zU,zT,zS,zR,zP,zO,zN,zM,zL,zI,zH,zG,zF,zE,zC,zB,zK,zW,zV,zY,zJ,zX,zZ,zQ,yU,yT,yS,yR,yP,yO,yN,yM,yL,yI,yH,yG,yF,yE,yD,yC,yB,yA,yK,yW,yV,yY,yJ,yX,yZ,yQ,xU,xT,xS,xR,xP,xO,xN,xM,xL,xI,xH,xG,xF,xE,xD,xC,xB,xA,xK,xW,xV,xY,xJ,xX,xZ,xQ,wU,wT,wS,wR,wL,wI,wH,wG,wF,wE,wD,wC,wA,wK,wW,wV,wY,wJ,wX,wZ,wQ,vU,vT,vS,vR,vP,vO,vN,vM,vL,vI,vH,vG,vF,vE,vD,vC,vB,vA,vK,vW,vV,vY,vJ,vX,vZ,vQ,uU,uT,uS,uR,uP,uO,uN,uM,uL,uI,uH,uG,uF,uE,uD,uC,uB,uA,uK,uW,uV,uY,uJ,uX,uZ,uQ,tU,tT,tS,tR,tP,tO,tN,tM,tL,tI,tH,tG,tF,tE,tD,tC,tB,tA,tK,tW,tV,tY,tJ,tX,tZ,tQ,sU,sT,sS,sR,sP,sO,sN,sM,sL,sI,sH,sG,sF,sE,sD,sC,sB,sA,sK,sW,sV,sY,sJ,sX,sZ,sQ,rU,rT,rS,rR,rP,rO,rN,rM,rL,rI,rH,rG,rF,rE,rD,rC,rB,rA,rK,rW,rV,rY,rJ,rX,rZ,rQ,qU,qT,qS,qR,qP,qO,qN,qM,qL,qI,qH,qG,qF,qE,qD,qC,qB,qA,qK,qW,qV,qY,qJ,qX,qZ,qQ,pU,pT,pS,pR,pL,pI,pH,pG,pF,pE,pD,pC,pA,pK,pW,pV,pY,pJ,pX,pZ,pQ,oU,oT,oS,oR,oP,oO,oN,oM,oL,oI,oH,oG,oF,oE,oD,oC,Tc,Tb,Ta,S9,S8,S7,Nk,Nj,Ni,Nh,Ng,Nf,Nd,Nc,Nb,Na,H9,H8,H7,H6,H5,H4,H3,H2,H0,Hz,Hy,Hx,Hw,Hv,Hu,Ht,Hs,Uc,Ub,Ua,V9,V8,V7,V6,V5,V4,V3,V2,V0,Vz,Vy,Vx,Vw,Vv,Vu,Vt,Vs,Vr,Vq,Vp,Vo,Vn,Vm,Vl,Vk,Vj,Vi,Vh])):p:=h
theorem K7 {p:Prop} (h:p:=by
 (sym=>simp [Kt,Kc,Kd,Kb,Ku,Kw,Ko,W4,Gd,M4,Ln,Ek,cL,fW,oB,Zcc,Zcb,Qd,Qe,Z6,Qa,Qc,Qh,Qp,Qz,Qv,Q4,Z0,Z3,Zz,Z7,Z9,Qg,Zv,Zw,Qn,Q6,Q5,Ja,Q7,Q0,Jo,Jj,Wx,X9,Wq,Wp,Wo,Ur,Uq,Up,Kj,Ki,Kh,D.setCell.eq_1,Zf,Ys,Q2,Q1,Jp,X0,Wt,Xr,Ji,Xb,Jf,Qj,Jw,Q3,Qb,Je,Yr,Ex,Jd,Qi,J3,Wl,Nn,Jc,Ql,Dl,Pe,Kf,Zbv,Zbu,Zbt,Zbs,Zbr,Zbq,Zbp,Zbo,Zbn,Zbm,Zbl,Zbk,Zbj,Zbi,Zbh,Zbg,Zbf,Zbe,Zbd,Zbc,Zbb,Zba,Za9,Za8,Za7,Za6,Za5,Za4,Za3,Za2,Za1,Za0,Zaz,Zay,Zax,Zaw,Zav,Zau,Zat,Zas,Zar,Zaq,Zap,Zao,Zan,Zam,Zal,Zak,Zaj,Zai,Zah,Zag,Zaf,Zae,Zad,Zac,Zab,Zaa,zU,zT,zS,zR,zP,zO,zN,zM,zL,zI,zH,zG,zF,zE,zC,zB,zK,zW,zV,zY,zJ,zX,zZ,zQ,yU,yT,yS,yR,yP,yO,yN,yM,yL,yI,yH,yG,yF,yE,yD,yC,yB,yA,yK,yW,yV,yY,yJ,yX,yZ,yQ,xU,xT,xS,xR,xP,xO,xN,xM,xL,xI,xH,xG,xF,xE,xD,xC,xB,xA,xK,xW,xV,xY,xJ,xX,xZ,xQ,wU,wT,wS,wR,wL,wI,wH,wG,wF,wE,wD,wC,wA,wK,wW,wV,wY,wJ,wX,wZ,wQ,vU,vT,vS,vR,vP,vO,vN,vM,vL,vI,vH,vG,vF,vE,vD,vC,vB,vA,vK,vW,vV,vY,vJ,vX,vZ,vQ,uU,uT,uS,uR,uP,uO,uN,uM,uL,uI,uH,uG,uF,uE,uD,uC,uB,uA,uK,uW,uV,uY,uJ,uX,uZ,uQ,tU,tT,tS,tR,tP,tO,tN,tM,tL,tI,tH,tG,tF,tE,tD,tC,tB,tA,tK,tW,tV,tY,tJ,tX,tZ,tQ,sU,sT,sS,sR,sP,sO,sN,sM,sL,sI,sH,sG,sF,sE,sD,sC,sB,sA,sK,sW,sV,sY,sJ,sX,sZ,sQ,rU,rT,rS,rR,rP,rO,rN,rM,rL,rI,rH,rG,rF,rE,rD,rC,rB,rA,rK,rW,rV,rY,rJ,rX,rZ,rQ,qU,qT,qS,qR,qP,qO,qN,qM,qL,qI,qH,qG,qF,qE,qD,qC,qB,qA,qK,qW,qV,qY,qJ,qX,qZ,qQ,pU,pT,pS,pR,pL,pI,pH,pG,pF,pE,pD,pC,pA,pK,pW,pV,pY,pJ,pX,pZ,pQ,oU,oT,oS,oR,oP,oO,oN,oM,oL,oI,oH,oG,oF,oE,oD,oC,Tc,Tb,Ta,S9,S8,S7,Nk,Nj,Ni,Nh,Ng,Nf,Nd,Nc,Nb,Na,H9,H8,H7,H6,H5,H4,H3,H2,H0,Hz,Hy,Hx,Hw,Hv,Hu,Ht,Hs,Uc,Ub,Ua,V9,V8,V7,V6,V5,V4,V3,V2,V0,Vz,Vy,Vx,Vw,Vv,Vu,Vt,Vs,Vr,Vq,Vp,Vo,Vn,Vm,Vl,Vk,Vj,Vi,Vh];tactic =>
   try simp only [S4] at *
   try simp only [Znv] at *
   try simp (maxSteps:=4000000) only [Qd,Qe,Z6,Qa,Qc,Qh,Qp,Qz,Qv,Q4,Z0,Z3,Zz,Z7,Z9,Qg,Zv,Zw,Qn,Q6,Q5,Ja,Q7,Q0,Jo,Jj,Wx,X9,Wq,Wp,Wo,Ur,Uq,Up,Kj,Ki,Kh,D.setCell.eq_1,Zf,Ys,Q2,Q1,Jp,X0,Wt,Xr,Ji,Xb,Jf,Qj,Jw,Q3,Qb,Je,Yr,Ex,Jd,Qi,J3,Wl,Nn,Jc,Ql,Dl,Pe,Kf,cM]
   first|done|exact Kq.k)):p:=h
theorem Lp {p:Prop} (h:p:=by
 (sym=>simp [Kt,Kc,Kd,Kb,Ku,Kw,Ko,W4,Gd,M4,Ln,Ek,cL,fW,oB,Zcc,Zcb,Qd,Qe,Z6,Qa,Qc,Qh,Qp,Qz,Qv,Q4,Z0,Z3,Zz,Z7,Z9,Qg,Zv,Zw,Qn,Q6,Q5,Ja,Q7,Q0,Jo,Jj,Wx,X9,Wq,Wp,Wo,Ur,Uq,Up,Kj,Ki,Kh,D.setCell.eq_1,Zf,Ys,Q2,Q1,Jp,X0,Wt,Xr,Ji,Xb,Jf,Qj,Jw,Q3,Qb,Je,Yr,Ex,Jd,Qi,J3,Wl,Nn,Jc,Ql,Dl,Pe,Kf,Zbv,Zbu,Zbt,Zbs,Zbr,Zbq,Zbp,Zbo,Zbn,Zbm,Zbl,Zbk,Zbj,Zbi,Zbh,Zbg,Zbf,Zbe,Zbd,Zbc,Zbb,Zba,Za9,Za8,Za7,Za6,Za5,Za4,Za3,Za2,Za1,Za0,Zaz,Zay,Zax,Zaw,Zav,Zau,Zat,Zas,Zar,Zaq,Zap,Zao,Zan,Zam,Zal,Zak,Zaj,Zai,Zah,Zag,Zaf,Zae,Zad,Zac,Zab,Zaa,zU,zT,zS,zR,zP,zO,zN,zM,zL,zI,zH,zG,zF,zE,zC,zB,zK,zW,zV,zY,zJ,zX,zZ,zQ,yU,yT,yS,yR,yP,yO,yN,yM,yL,yI,yH,yG,yF,yE,yD,yC,yB,yA,yK,yW,yV,yY,yJ,yX,yZ,yQ,xU,xT,xS,xR,xP,xO,xN,xM,xL,xI,xH,xG,xF,xE,xD,xC,xB,xA,xK,xW,xV,xY,xJ,xX,xZ,xQ,wU,wT,wS,wR,wL,wI,wH,wG,wF,wE,wD,wC,wA,wK,wW,wV,wY,wJ,wX,wZ,wQ,vU,vT,vS,vR,vP,vO,vN,vM,vL,vI,vH,vG,vF,vE,vD,vC,vB,vA,vK,vW,vV,vY,vJ,vX,vZ,vQ,uU,uT,uS,uR,uP,uO,uN,uM,uL,uI,uH,uG,uF,uE,uD,uC,uB,uA,uK,uW,uV,uY,uJ,uX,uZ,uQ,tU,tT,tS,tR,tP,tO,tN,tM,tL,tI,tH,tG,tF,tE,tD,tC,tB,tA,tK,tW,tV,tY,tJ,tX,tZ,tQ,sU,sT,sS,sR,sP,sO,sN,sM,sL,sI,sH,sG,sF,sE,sD,sC,sB,sA,sK,sW,sV,sY,sJ,sX,sZ,sQ,rU,rT,rS,rR,rP,rO,rN,rM,rL,rI,rH,rG,rF,rE,rD,rC,rB,rA,rK,rW,rV,rY,rJ,rX,rZ,rQ,qU,qT,qS,qR,qP,qO,qN,qM,qL,qI,qH,qG,qF,qE,qD,qC,qB,qA,qK,qW,qV,qY,qJ,qX,qZ,qQ,pU,pT,pS,pR,pL,pI,pH,pG,pF,pE,pD,pC,pA,pK,pW,pV,pY,pJ,pX,pZ,pQ,oU,oT,oS,oR,oP,oO,oN,oM,oL,oI,oH,oG,oF,oE,oD,oC,Tc,Tb,Ta,S9,S8,S7,Nk,Nj,Ni,Nh,Ng,Nf,Nd,Nc,Nb,Na,H9,H8,H7,H6,H5,H4,H3,H2,H0,Hz,Hy,Hx,Hw,Hv,Hu,Ht,Hs,Uc,Ub,Ua,V9,V8,V7,V6,V5,V4,V3,V2,V0,Vz,Vy,Vx,Vw,Vv,Vu,Vt,Vs,Vr,Vq,Vp,Vo,Vn,Vm,Vl,Vk,Vj,Vi,Vh];tactic =>
   try simp only [S4] at *
   try simp only [Znv] at *
   try simp (maxSteps:=4000000) only [Qd,Qe,Z6,Qa,Qc,Qh,Qp,Qz,Qv,Q4,Z0,Z3,Zz,Z7,Z9,Qg,Zv,Zw,Qn,Q6,Q5,Ja,Q7,Q0,Jo,Jj,Wx,X9,Wq,Wp,Wo,Ur,Uq,Up,Kj,Ki,Kh,D.setCell.eq_1,Zf,Ys,Q2,Q1,Jp,X0,Wt,Xr,Ji,Xb,Jf,Qj,Jw,Q3,Qb,Je,Yr,Ex,Jd,Qi,J3,Wl,Nn,Jc,Ql,Dl,Pe,Kf,cM]
   repeat' first|with_reducible assumption|with_reducible apply Zb|intro _|omega|(rw [Xy];omega)
   all_goals first|with_reducible exact Qo|omega|rfl|trivial|exact Or.inr trivial|assumption|contradiction|exact Qk)):p:=h
structure KbD:Prop
theorem KbD.k (_:KbD) (h:p:=by
 repeat' first|exact Z1|with_reducible apply Zb|intro _
 all_goals first|with_reducible exact Qo|omega|assumption|trivial|rfl|(exfalso;clear hE hno Qa hR2 hin hT hN Qe Qh Qp K hki hkt;simp_all;done)|(exfalso;clear hno Qa hR2 hin hT hN Qe Qh Qp K hki hkt;simp_all;done)|skip):p:=h
structure KbF:Prop
theorem KbF.k (_:KbF) (h:p:=by
 repeat' first|exact Z1|with_reducible apply Zb|intro _
 all_goals first|with_reducible exact Qo|omega|exact ⟨j+1,by exact Qk,by omega,by omega⟩|skip):p:=h
structure KbG:Prop
theorem KbG.k (_:KbG) (h:p:=by
 repeat' first|exact Z1|with_reducible apply Zb|intro _
 all_goals first|with_reducible exact Qo|omega|exact ⟨k+1,by exact Qk,by omega,Eq.mpr hQ hs,by omega⟩|skip):p:=h
structure KbE:Prop
theorem KbE.k (_:KbE) (h:p:=by
 repeat' first|exact Z1|with_reducible apply Zb|intro _
 all_goals first|with_reducible exact Qo|omega|assumption|skip
 refine Zi [4,85,86,87,88,89,90,91,92,93,94,95,96,97,98,99,100,101,102,103,104,105] (fun j:Nat=>[(10,.d (.int .i64 j))]) (fun j:Nat=>[]) (fun j:Nat=>j≤k∧∀ m,m<j→(!true&&((Xc t l m).label==x.label))=false) (fun j:Nat=>k-j) 0 ?_ ?_ ?_
 ·simp
 ·exact Qk
 rintro j ⟨hj,hnj⟩;rcases Zn j k with ⟨hjl,Z9⟩|⟨hjl,Z9⟩
 ·have hsj:(!true&&((Xc t l j).label==x.label))=false→∀ m,m<j+1→(!true&&((Xc t l m).label==x.label))=false:=fun h=>Ks hnj h;have hbj:(!true&&((Xc t l j).label==x.label))=true→R=false:=fun h=>hbad (by rw [List.any_eq_true];exact ⟨j,List.mem_range.2 hjl,h⟩)
  have hjlt:j<l.length:=by omega
  have hji:=hin (l.getD j 0) (by simp [hjlt])
  have hjt:(l.getD j 0).toNat<t.length:=by omega
  have Qg:=Zr (0:Int) hjlt;have Zv:=Zr e0 hjt
  change el _ _=enc (Xc t l j) at Zv
  obtain ⟨u,hu⟩:=exq (l.getD j 0);rw [hu] at Qg Zv hji hjt;obtain ⟨u,rfl⟩:∃ n:Nat,u=n:=⟨u.toNat,by omega⟩
  rw [Zf] at Zv hjt;obtain ⟨y,hy⟩:=exq (Xc t l j);rw [hy] at Zv hsj hbj;obtain ⟨ee,Zw⟩:=exq ((y.label==x.label));rw [Zw] at hsj hbj;have Kq:KbF:=⟨⟩;exact K7
 ·have hs:=hyes (Cc fun m hm=>hnj m (by have:=List.mem_range.1 hm;omega))
  have Kq:KbG:=⟨⟩;exact K7):p:=h
structure KbI:Prop
theorem KbI.k (_:KbI) (h:p:=by
 repeat' first|exact Z1|with_reducible apply Zb|intro _
 all_goals first|with_reducible exact Qo|omega|exact ⟨j+1,by exact Qk,by omega,fun m hm=>by simpa using h2 m hm,by omega⟩|skip):p:=h
structure KbJ:Prop
theorem KbJ.k (_:KbJ) (h:p:=by
 repeat' first|exact Z1|with_reducible apply Zb|intro _
 all_goals first|with_reducible exact Qo|omega|exact ⟨k+1,by exact Qk,by omega,Eq.mpr hQ hs,by omega⟩|skip):p:=h
structure KbH:Prop
theorem KbH.k (_:KbH) (h:p:=by
 repeat' first|exact Z1|with_reducible apply Zb|intro _
 all_goals first|with_reducible exact Qo|omega|assumption|skip
 refine Zi [4,85,86,87,88,89,90,91,92,93,94,95,96,97,98,99,100,101,102,103,104,105] (fun j:Nat=>[(10,.d (.int .i64 j))]) (fun j:Nat=>[]) (fun j:Nat=>j≤k∧∀ m,m<j→(!false&&((Xc t l m).label==x.label))=false) (fun j:Nat=>k-j) 0 ?_ ?_ ?_
 ·simp
 ·exact Qk
 rintro j ⟨hj,hnj⟩;rcases Zn j k with ⟨hjl,Z9⟩|⟨hjl,Z9⟩
 ·have hsj:(!false&&((Xc t l j).label==x.label))=false→∀ m,m<j+1→(!false&&((Xc t l m).label==x.label))=false:=fun h=>Ks hnj h;have hbj:(!false&&((Xc t l j).label==x.label))=true→R=false:=fun h=>hbad (by rw [List.any_eq_true];exact ⟨j,List.mem_range.2 hjl,h⟩)
  have hjlt:j<l.length:=by omega
  have hji:=hin (l.getD j 0) (by simp [hjlt])
  have hjt:(l.getD j 0).toNat<t.length:=by omega
  have Qg:=Zr (0:Int) hjlt;have Zv:=Zr e0 hjt
  change el _ _=enc (Xc t l j) at Zv
  obtain ⟨u,hu⟩:=exq (l.getD j 0);rw [hu] at Qg Zv hji hjt;obtain ⟨u,rfl⟩:∃ n:Nat,u=n:=⟨u.toNat,by omega⟩
  rw [Zf] at Zv hjt;obtain ⟨y,hy⟩:=exq (Xc t l j);rw [hy] at Zv hsj hbj;obtain ⟨ee,Zw⟩:=exq ((y.label==x.label));rw [Zw] at hsj hbj;cases ee with
  | true =>
   have hr:=hbj rfl;subst hr;exact Lp
  | false =>
   have h2:=hsj rfl;have Kq:KbI:=⟨⟩;exact K7
 ·have hs:=hyes (Cc fun m hm=>hnj m (by have:=List.mem_range.1 hm;omega))
  have Kq:KbJ:=⟨⟩;exact K7):p:=h
structure KbL:Prop
theorem KbL.k (_:KbL) (h:p:=by
 repeat' first|exact Z1|with_reducible apply Zb|intro _
 all_goals first|with_reducible exact Qo|omega|exact ⟨j+1,by exact Qk,by omega,by omega⟩|skip):p:=h
structure KbM:Prop
theorem KbM.k (_:KbM) (h:p:=by
 repeat' first|exact Z1|with_reducible apply Zb|intro _
 all_goals first|with_reducible exact Qo|omega|exact ⟨k+1,by exact Qk,by omega,Eq.mpr hQ hs,by omega⟩|skip):p:=h
structure KbK:Prop
theorem KbK.k (_:KbK) (h:p:=by
 repeat' first|exact Z1|with_reducible apply Zb|intro _
 all_goals first|with_reducible exact Qo|omega|assumption|skip
 refine Zi [4,85,86,87,88,89,90,91,92,93,94,95,96,97,98,99,100,101,102,103,104,105] (fun j:Nat=>[(10,.d (.int .i64 j))]) (fun j:Nat=>[]) (fun j:Nat=>j≤k∧∀ m,m<j→(!true&&((Xc t l m).label==x.label))=false) (fun j:Nat=>k-j) 0 ?_ ?_ ?_
 ·simp
 ·exact Qk
 rintro j ⟨hj,hnj⟩;rcases Zn j k with ⟨hjl,Z9⟩|⟨hjl,Z9⟩
 ·have hsj:(!true&&((Xc t l j).label==x.label))=false→∀ m,m<j+1→(!true&&((Xc t l m).label==x.label))=false:=fun h=>Ks hnj h;have hbj:(!true&&((Xc t l j).label==x.label))=true→R=false:=fun h=>hbad (by rw [List.any_eq_true];exact ⟨j,List.mem_range.2 hjl,h⟩)
  have hjlt:j<l.length:=by omega
  have hji:=hin (l.getD j 0) (by simp [hjlt])
  have hjt:(l.getD j 0).toNat<t.length:=by omega
  have Qg:=Zr (0:Int) hjlt;have Zv:=Zr e0 hjt
  change el _ _=enc (Xc t l j) at Zv
  obtain ⟨u,hu⟩:=exq (l.getD j 0);rw [hu] at Qg Zv hji hjt;obtain ⟨u,rfl⟩:∃ n:Nat,u=n:=⟨u.toNat,by omega⟩
  rw [Zf] at Zv hjt;obtain ⟨y,hy⟩:=exq (Xc t l j);rw [hy] at Zv hsj hbj;obtain ⟨ee,Zw⟩:=exq ((y.label==x.label));rw [Zw] at hsj hbj;have Kq:KbL:=⟨⟩;exact K7
 ·have hs:=hyes (Cc fun m hm=>hnj m (by have:=List.mem_range.1 hm;omega))
  have Kq:KbM:=⟨⟩;exact K7):p:=h
structure KbO:Prop
theorem KbO.k (_:KbO) (h:p:=by
 repeat' first|exact Z1|with_reducible apply Zb|intro _
 all_goals first|with_reducible exact Qo|omega|exact ⟨j+1,by exact Qk,by omega,fun m hm=>by simpa using h2 m hm,by omega⟩|skip):p:=h
structure KbP:Prop
theorem KbP.k (_:KbP) (h:p:=by
 repeat' first|exact Z1|with_reducible apply Zb|intro _
 all_goals first|with_reducible exact Qo|omega|exact ⟨k+1,by exact Qk,by omega,Eq.mpr hQ hs,by omega⟩|skip):p:=h
structure KbN:Prop
theorem KbN.k (_:KbN) (h:p:=by
 repeat' first|exact Z1|with_reducible apply Zb|intro _
 all_goals first|with_reducible exact Qo|omega|assumption|skip
 refine Zi [4,85,86,87,88,89,90,91,92,93,94,95,96,97,98,99,100,101,102,103,104,105] (fun j:Nat=>[(10,.d (.int .i64 j))]) (fun j:Nat=>[]) (fun j:Nat=>j≤k∧∀ m,m<j→(!false&&((Xc t l m).label==x.label))=false) (fun j:Nat=>k-j) 0 ?_ ?_ ?_
 ·simp
 ·exact Qk
 rintro j ⟨hj,hnj⟩;rcases Zn j k with ⟨hjl,Z9⟩|⟨hjl,Z9⟩
 ·have hsj:(!false&&((Xc t l j).label==x.label))=false→∀ m,m<j+1→(!false&&((Xc t l m).label==x.label))=false:=fun h=>Ks hnj h;have hbj:(!false&&((Xc t l j).label==x.label))=true→R=false:=fun h=>hbad (by rw [List.any_eq_true];exact ⟨j,List.mem_range.2 hjl,h⟩)
  have hjlt:j<l.length:=by omega
  have hji:=hin (l.getD j 0) (by simp [hjlt])
  have hjt:(l.getD j 0).toNat<t.length:=by omega
  have Qg:=Zr (0:Int) hjlt;have Zv:=Zr e0 hjt
  change el _ _=enc (Xc t l j) at Zv
  obtain ⟨u,hu⟩:=exq (l.getD j 0);rw [hu] at Qg Zv hji hjt;obtain ⟨u,rfl⟩:∃ n:Nat,u=n:=⟨u.toNat,by omega⟩
  rw [Zf] at Zv hjt;obtain ⟨y,hy⟩:=exq (Xc t l j);rw [hy] at Zv hsj hbj;obtain ⟨ee,Zw⟩:=exq ((y.label==x.label));rw [Zw] at hsj hbj;cases ee with
  | true =>
   have hr:=hbj rfl;subst hr;exact Lp
  | false =>
   have h2:=hsj rfl;have Kq:KbO:=⟨⟩;exact K7
 ·have hs:=hyes (Cc fun m hm=>hnj m (by have:=List.mem_range.1 hm;omega))
  have Kq:KbP:=⟨⟩;exact K7):p:=h
structure KbR:Prop
theorem KbR.k (_:KbR) (h:p:=by
 repeat' first|exact Z1|with_reducible apply Zb|intro _
 all_goals first|with_reducible exact Qo|omega|exact ⟨j+1,by exact Qk,by omega,by omega⟩|skip):p:=h
structure KbS:Prop
theorem KbS.k (_:KbS) (h:p:=by
 repeat' first|exact Z1|with_reducible apply Zb|intro _
 all_goals first|with_reducible exact Qo|omega|exact ⟨k+1,by exact Qk,by omega,Eq.mpr hQ hs,by omega⟩|skip):p:=h
structure KbQ:Prop
theorem KbQ.k (_:KbQ) (h:p:=by
 repeat' first|exact Z1|with_reducible apply Zb|intro _
 all_goals first|with_reducible exact Qo|omega|assumption|skip
 refine Zi [4,85,86,87,88,89,90,91,92,93,94,95,96,97,98,99,100,101,102,103,104,105] (fun j:Nat=>[(10,.d (.int .i64 j))]) (fun j:Nat=>[]) (fun j:Nat=>j≤k∧∀ m,m<j→(!true&&((Xc t l m).label==x.label))=false) (fun j:Nat=>k-j) 0 ?_ ?_ ?_
 ·simp
 ·exact Qk
 rintro j ⟨hj,hnj⟩;rcases Zn j k with ⟨hjl,Z9⟩|⟨hjl,Z9⟩
 ·have hsj:(!true&&((Xc t l j).label==x.label))=false→∀ m,m<j+1→(!true&&((Xc t l m).label==x.label))=false:=fun h=>Ks hnj h;have hbj:(!true&&((Xc t l j).label==x.label))=true→R=false:=fun h=>hbad (by rw [List.any_eq_true];exact ⟨j,List.mem_range.2 hjl,h⟩)
  have hjlt:j<l.length:=by omega
  have hji:=hin (l.getD j 0) (by simp [hjlt])
  have hjt:(l.getD j 0).toNat<t.length:=by omega
  have Qg:=Zr (0:Int) hjlt;have Zv:=Zr e0 hjt
  change el _ _=enc (Xc t l j) at Zv
  obtain ⟨u,hu⟩:=exq (l.getD j 0);rw [hu] at Qg Zv hji hjt;obtain ⟨u,rfl⟩:∃ n:Nat,u=n:=⟨u.toNat,by omega⟩
  rw [Zf] at Zv hjt;obtain ⟨y,hy⟩:=exq (Xc t l j);rw [hy] at Zv hsj hbj;obtain ⟨ee,Zw⟩:=exq ((y.label==x.label));rw [Zw] at hsj hbj;have Kq:KbR:=⟨⟩;exact K7
 ·have hs:=hyes (Cc fun m hm=>hnj m (by have:=List.mem_range.1 hm;omega))
  have Kq:KbS:=⟨⟩;exact K7):p:=h
structure KbU:Prop
theorem KbU.k (_:KbU) (h:p:=by
 repeat' first|exact Z1|with_reducible apply Zb|intro _
 all_goals first|with_reducible exact Qo|omega|exact ⟨j+1,by exact Qk,by omega,by omega⟩|skip):p:=h
structure KbV:Prop
theorem KbV.k (_:KbV) (h:p:=by
 repeat' first|exact Z1|with_reducible apply Zb|intro _
 all_goals first|with_reducible exact Qo|omega|exact ⟨k+1,by exact Qk,by omega,Eq.mpr hQ hs,by omega⟩|skip):p:=h
structure KbT:Prop
theorem KbT.k (_:KbT) (h:p:=by
 repeat' first|exact Z1|with_reducible apply Zb|intro _
 all_goals first|with_reducible exact Qo|omega|assumption|skip
 refine Zi [4,85,86,87,88,89,90,91,92,93,94,95,96,97,98,99,100,101,102,103,104,105] (fun j:Nat=>[(10,.d (.int .i64 j))]) (fun j:Nat=>[]) (fun j:Nat=>j≤k∧∀ m,m<j→(!true&&((Xc t l m).label==x.label))=false) (fun j:Nat=>k-j) 0 ?_ ?_ ?_
 ·simp
 ·exact Qk
 rintro j ⟨hj,hnj⟩;rcases Zn j k with ⟨hjl,Z9⟩|⟨hjl,Z9⟩
 ·have hsj:(!true&&((Xc t l j).label==x.label))=false→∀ m,m<j+1→(!true&&((Xc t l m).label==x.label))=false:=fun h=>Ks hnj h;have hbj:(!true&&((Xc t l j).label==x.label))=true→R=false:=fun h=>hbad (by rw [List.any_eq_true];exact ⟨j,List.mem_range.2 hjl,h⟩)
  have hjlt:j<l.length:=by omega
  have hji:=hin (l.getD j 0) (by simp [hjlt])
  have hjt:(l.getD j 0).toNat<t.length:=by omega
  have Qg:=Zr (0:Int) hjlt;have Zv:=Zr e0 hjt
  change el _ _=enc (Xc t l j) at Zv
  obtain ⟨u,hu⟩:=exq (l.getD j 0);rw [hu] at Qg Zv hji hjt;obtain ⟨u,rfl⟩:∃ n:Nat,u=n:=⟨u.toNat,by omega⟩
  rw [Zf] at Zv hjt;obtain ⟨y,hy⟩:=exq (Xc t l j);rw [hy] at Zv hsj hbj;obtain ⟨ee,Zw⟩:=exq ((y.label==x.label));rw [Zw] at hsj hbj;have Kq:KbU:=⟨⟩;exact K7
 ·have hs:=hyes (Cc fun m hm=>hnj m (by have:=List.mem_range.1 hm;omega))
  have Kq:KbV:=⟨⟩;exact K7):p:=h
structure KbC:Prop
theorem KbC.k (_:KbC) (h:p:=by
 repeat' first|exact Z1|with_reducible apply Zb|intro _
 all_goals try assumption
 refine Zi [4,7,8,9,10,22,23,24,25,26,27,28,29,30,31,32,33,34,35,36,37,38,39,40,41,42,43,44,45,46,47,48,49,50,51,52,53,54,55,56,57,58,59,60,61,62,63,64,65,66,67,68,69,70,71,72,73,74,75,76,77,78,79,80,81,82,83,84,85,86,87,88,89,90,91,92,93,94,95,96,97,98,99,100,101,102,103,104,105] (fun k:Nat=>[(6,.d (.int .i64 k))]) (fun k:Nat=>[]) (fun k:Nat=>k≤l.length∧∀ j,j<k→eW t p l j=true) (fun k:Nat=>l.length-k) 0 ?_ ?_ ?_
 ·simp
 ·exact Qk
 rintro k ⟨hk,hno⟩;rcases Zn k l.length with ⟨hlt,Qc⟩|⟨hlt,Qc⟩
 ·have hki:=hin (l.getD k 0) (by simp [hlt])
  have hkt:(l.getD k 0).toNat<t.length:=by omega
  have hkn:(Xc t l k).label.length≤9223372036854775807:=hN (Xc t l k) (by
   show t.getD _ e0∈t;rw [Zd,Zg hkt];exact List.getElem_mem hkt)
  have hyes:eW t p l k=true→∀ j,j<k+1→eW t p l j=true:=fun h=>Ks hno h;have hbad:eW t p l k=false→R=false:=by
   intro h;rw [←hR2,Bool.eq_false_iff];intro hc;rw [List.all_eq_true] at hc;have:=hc k (List.mem_range.2 hlt);rw [h] at this;cases this
  obtain ⟨Q,hQ⟩:=exq ((∀ j,j<k+1→eW t p l j=true));rw [hQ] at hyes;unfold eW at hyes hbad;have Qh:=Zr (0:Int) hlt;have Qp:=Zr e0 hkt
  change el _ _=enc (Xc t l k) at Qp
  obtain ⟨v,hv⟩:=exq (l.getD k 0);rw [hv] at Qh Qp hki hkt;obtain ⟨v,rfl⟩:∃ n:Nat,v=n:=⟨v.toNat,by omega⟩
  rw [Zf] at Qp hkt;obtain ⟨x,hx⟩:=exq (Xc t l k);rw [hx] at hkn hyes hbad Qp;unfold Zx3 at hyes hbad;obtain ⟨kb,Qz⟩:=exq (Yi 0 (k:Int));rw [Qz] at hyes hbad;obtain ⟨a7,Qv⟩:=exq ((p.kind==7));obtain ⟨a10,Q4⟩:=exq ((p.kind==10));obtain ⟨a8,Z0⟩:=exq ((x.kind==8));obtain ⟨tg,Z3⟩:=exq (Sa x.label);obtain ⟨w,Zz⟩:=exq (Yo x.label);obtain ⟨le,Z7⟩:=exq ((x.label==[]));rw [Qv,Q4,Z0,Z3,Zz,Z7] at hyes hbad;have hE:a7=true→a10=false:=fun e=>by rw [←Qv,Zm] at e;rw [←Q4,e];rfl
  cases hA:((a8==(a7&&kb))&&!(((a7&&kb)&&!tg)||((a10&&!w)||((!(a7&&kb)&&!a10)&&!le)))) with
  | false =>
   have hr:=hbad (by rw [hA,Bool.false_and])
   subst hr;clear hbad hyes;have Kq:KbD:=⟨⟩;exact K7
  | true =>
   rw [hA,Bool.true_and,Bool.not_eq_true'] at hyes;rw [hA,Bool.true_and,Bool.not_eq_false'] at hbad;unfold Zvg at hyes hbad;rw [Z7] at hyes hbad;have hpath:(a7=true∧kb=true∧a10=false∧a8=true∧tg=true)∨(a7=false∧a10=true∧a8=false∧w=true)∨(a7=false∧a10=false∧a8=false∧le=true)∨(a7=true∧kb=false∧a10=false∧a8=false∧le=true):=by
    clear hbad hyes hno Qa hR2 hin hT hN Qe Qh Qp Qv Q4 Z0 Z3 Zz Z7 Qz;revert hA hE;cases a7<;>cases kb<;>cases a10<;>cases a8<;>cases tg<;>cases w<;>cases le<;>simp
   clear hA hE;rcases hpath with ⟨rfl,rfl,rfl,rfl,rfl⟩|⟨rfl,rfl,rfl,rfl⟩|⟨rfl,rfl,rfl,rfl⟩|⟨rfl,rfl,rfl,rfl,rfl⟩
   ·cases le with
    | true =>
     have Kq:KbE:=⟨⟩;exact K7
    | false =>
     have Kq:KbH:=⟨⟩;exact K7
   ·cases le with
    | true =>
     have Kq:KbK:=⟨⟩;exact K7
    | false =>
     have Kq:KbN:=⟨⟩;exact K7
   ·have Kq:KbQ:=⟨⟩;exact K7
   ·have Kq:KbT:=⟨⟩;exact K7
 ·have hr:R=true:=by
   rw [←hR2,List.all_eq_true];intro j hj;exact hno j (by have:=List.mem_range.1 hj;omega)
  subst hr;exact Zrv):p:=h
theorem good_labelled5:Qq Tryz.prog (152,Lu):=by
 obtain ⟨Kx,Kt,Kc,Kd,Kb,Ku,Kw,K,W4,Gd,M4,Ln,_⟩:=X2 Z4 Zq [] false (Jh good_Kids5 Fs.eq_def (Jh good_Many5 Lj.eq_def (Jh good_IsTag1 Zce (Jh good_IsWord1 Dk X1))));have Ko:=Lu.eq_def;refine Wh K Tryz.func152 [.tmp 4] rfl 106 rfl (fun c hc cvs hpre=>?_);unfold Lu at hpre;obtain ⟨⟨t⟩,i,rfl,hT,hN,hi0,hi1⟩:=Jv hpre;simp only at hT hN hi0 hi1;clear hpre;obtain ⟨i,rfl⟩:∃ n:Nat,i=n:=⟨i.toNat,by omega⟩
 have hil:i<t.length:=by omega
 have hlen:=hT.1;obtain ⟨R,Qa⟩:=exq (Zl5 t i);have hR2:=Qa;unfold Zl5 at hR2;obtain ⟨l,Qd⟩:=exq (L9 t i);have hin:∀ x∈l,(i:Int)<x∧x<t.length:=by rw [←Qd];exact Zuu
 have Qe:=Zr e0 hil;have hpi:=hT.2 (t.getD i e0) (by simp [hil])
 have hll:l.length≤100000:=by
  rw [←Qd];unfold L9;split
  ·simp
  ·have h1:=dD t (Yj (t.getD (Int.toNat i) e0)).toNat ((Int.toNat i)+1);have h2:=hpi.2.1;simp only [Zf] at h1 ⊢;omega
 rw [Qd] at hR2;obtain ⟨p,hp⟩:=exq (t.getD i e0);rw [hp] at hR2 Qe hpi;have hpm:=hpi.2.2;cases hmm:((l.length:Int)==Yj p) with
 | false =>
  rw [hmm,Bool.false_and] at hR2;subst hR2;have Z6:((l.length:Int) != Yj p)=true:=by rw [bne,hmm];rfl
  cases hc;refine Yv 6 ?_;exact Lp
 | true =>
 rw [hmm,Bool.true_and] at hR2;have Z6:((l.length:Int) != Yj p)=false:=by rw [bne,hmm];rfl
 cases hc;refine Yv 6 ?_;have Kq:KbC:=⟨⟩;exact K7
theorem Zny {p:Part} {w tg b t u li na op:Bool} (h:Xs p w tg b t u li na op=true):p.many≤50∧(p.kind=7→1≤p.many)∧(p.kind=10→0≤p.many):=by
 unfold Xs at h;by_cases h0:p.kind≠0∧p.kind≠14∧p.num≠0
 ·rw [if_pos h0] at h;cases h
 rw [if_neg h0] at h;by_cases h1:p.kind=0
 ·rw [if_pos h1] at h;simp only [Zk,Zm] at h;omega
 rw [if_neg h1] at h;by_cases h2:p.kind=1
 ·rw [if_pos h2] at h;simp only [Zk,Zm] at h;omega
 rw [if_neg h2] at h;by_cases h3:p.kind=2∨p.kind=4
 ·rw [if_pos h3] at h;simp only [Zk,Zm] at h;omega
 rw [if_neg h3] at h;by_cases h4:p.kind=3∨p.kind=6
 ·rw [if_pos h4] at h;simp only [Zk,Zm] at h;omega
 rw [if_neg h4] at h;by_cases h5:p.kind=5
 ·rw [if_pos h5] at h;simp only [Zk,Zm] at h;omega
 rw [if_neg h5] at h;by_cases h6:p.kind=7
 ·rw [if_pos h6] at h;simp only [Zk,Zm,Qx] at h;omega
 rw [if_neg h6] at h;by_cases h7:p.kind=8
 ·rw [if_pos h7] at h;simp only [Zk,Zm] at h;omega
 rw [if_neg h7] at h;by_cases h8:p.kind=9
 ·rw [if_pos h8] at h;simp only [Zk,Zm] at h;omega
 rw [if_neg h8] at h;by_cases h9:p.kind=10
 ·rw [if_pos h9] at h;simp only [Zk,Zm,Qx] at h;omega
 rw [if_neg h9] at h;by_cases ha:p.kind=11
 ·rw [if_pos ha] at h;simp only [Zk,Zm] at h;omega
 rw [if_neg ha] at h;by_cases hb:p.kind=12
 ·rw [if_pos hb] at h;simp only [Zk,Zm] at h;omega
 rw [if_neg hb] at h;by_cases hc:p.kind=13
 ·rw [if_pos hc] at h;simp only [Zk,Zm] at h;omega
 rw [if_neg hc] at h;by_cases hd:p.kind=14
 ·rw [if_pos hd] at h;simp only [Zk,Zm] at h;omega
 rw [if_neg hd] at h;cases h
theorem Zrk {n:Part} (h:Ib n=true):n.many≤50∧(n.kind=7→1≤n.many)∧(n.kind=10→0≤n.many):=by
 unfold Ib at h;exact Zny h
theorem Zgb {n:Part} (h:Ib n=true):0≤Yj n∧Yj n≤60∧n.many≤1000000:=by
 obtain ⟨h1,h2,h3⟩:=Zrk h;have hm:Zdf n.many 0=if n.many<0 then 0 else n.many:=rfl
 unfold Yj;rw [hm];refine ⟨?_,?_,by omega⟩
 ·repeat' (split;first|omega|skip)
  all_goals omega
 ·repeat' (split;first|omega|skip)
  all_goals omega
def M7 (t:List Part):Bool:=t.length==0||Yi 10000 t.length||!((t.getD 0 e0).label==[])||(t.getD 0 e0).kind==8
def Gm (t:List Part):Bool:=!M7 t&&(t.all Ib&&((iR t 0==(t.length:Int)&&fD t)&&(List.range t.length).all fun i=>Zl5 t i))
def Zy6 (p:Part):Prop:=Zy7 p∧p.name.length≤9223372036854775806
def Ay:Con:=Xj (fun (t:Sl Part)=>t.l.length≤9223372036854775807∧∀ p∈t.l,Zy6 p) (fun t=>Gm t.l)
structure KbW:Prop
theorem KbW.k (_:KbW) (h:p:=by
 unfold Gm M7;simp [h0]):p:=h
structure KbY:Prop
theorem KbY.k (_:KbY) (h:p:=by
 repeat' first|exact Z1|with_reducible apply Zb|intro _
 ·rename_i hb;rw [hr,cF (p:=Ib) e0 k hlt hb];rfl
 ·rename_i hb;refine ⟨k+1,by exact Qk,by omega,fun j hj=>?_,by omega⟩
  by_cases hjk:j=k
  ·subst hjk;exact hb
  ·exact hno j (by omega)):p:=h
structure Kca:Prop
theorem Kca.k (_:Kca) (h:p:=by
 repeat' first|exact Z1|with_reducible apply Zb|intro _
 ·rename_i hb;rw [hr2,Lq k hlt2 hb]
 ·rename_i hb;refine ⟨k+1,by exact Qk,by omega,fun j hj=>?_,by omega⟩
  by_cases hjk:j=k
  ·subst hjk;exact hb
  ·exact hno2 j (by omega)):p:=h
structure Kcb:Prop
theorem Kcb.k (_:Kcb) (h:p:=by
 rw [hr2,Mj fun j hj=>hno2 j (by omega)]):p:=h
structure KbZ:Prop
theorem KbZ.k (_:KbZ) (h:p:=by
 repeat' first|exact Z1|with_reducible apply Zb|intro _
 ·rename_i he hs;rw [hr,hs];simp
 ·rename_i he hs;have hr2:Gm t=(List.range t.length).all fun i=>Zl5 t i:=by
   rw [hr,hs,show (iR t 0==(t.length:Int))=true by simpa using he]
   rfl
  refine Zi [2,49,50,51,52,53,54,55,56,57,58] (fun k:Nat=>[(4,.d (.int .i64 k))]) (fun k:Nat=>[]) (fun k:Nat=>k≤t.length∧∀ j,j<k→Zl5 t j=true) (fun k:Nat=>t.length-k) 0 ?_ ?_ ?_
  ·simp
  ·exact Qk
  rintro k ⟨hk2,hno2⟩;rcases Zn k t.length with ⟨hlt2,Qc⟩|⟨hlt2,Qc⟩
  ·have Kq:Kca:=⟨⟩;exact K7
  ·have Kq:Kcb:=⟨⟩;exact K7
 ·rename_i he;rw [hr,show (iR t 0==(t.length:Int))=false by simpa using he]
  rfl):p:=h
structure KbX:Prop
theorem KbX.k (_:KbX) (h:p:=by
 repeat' first|exact Z1|with_reducible apply Zb|intro _
 ·rename_i h1 h2 h9;exact heb (by unfold M7;rw [show ((t.getD 0 e0).kind==8)=true by rw [Zm];exact h9];simp only [Bool.or_true])
 ·rename_i h1 h3 h9;have hle:t.length≤10000:=by omega
  have hnb:M7 t=false:=by
   unfold M7;simp only [Bool.or_eq_false_iff,Q9,Za];refine ⟨⟨⟨by omega,by omega⟩,?_⟩,h9⟩
   simpa using h3
  have hr:Gm t=(t.all Ib&&((iR t 0==(t.length:Int)&&fD t)&&(List.range t.length).all fun i=>Zl5 t i)):=by
   unfold Gm;rw [hnb];rfl
  refine Zi [2,27,28,29,30,31,32,33,34,35,36,37,38] (fun k:Nat=>[(3,.d (.int .i64 k))]) (fun k:Nat=>[]) (fun k:Nat=>k≤t.length∧∀ j,j<k→Ib (t.getD j e0)=true) (fun k:Nat=>t.length-k) 0 ?_ ?_ ?_
  ·simp
  ·exact Qk
  rintro k ⟨hk,hno⟩;rcases Zn k t.length with ⟨hlt,Z6⟩|⟨hlt,Z6⟩
  ·obtain ⟨hf1,hf2⟩:=hN (t.getD k e0) (by simp [hlt])
   have Qa:=Zr e0 hlt;have Kq:KbY:=⟨⟩;exact K7
  ·have hall:t.all Ib=true:=Cd (p:=Ib) e0 fun j hj=>hno j (by omega)
   have hT:kJ t:=⟨by omega,fun n hn=>Zgb (List.all_eq_true.1 hall n hn)⟩
   have hL:Qbu t:=fun n hn=>(hN n hn).1.2.2.1;rw [hall,Bool.true_and] at hr;have Kq:KbZ:=⟨⟩;exact K7
 ·rename_i h1 h3;exact heb (by unfold M7;rw [show ((t.getD 0 e0).label==[])=false by rw [Za];exact h3];simp only [Bool.not_false,Bool.or_true,Bool.true_or])
 ·rename_i h1;exact heb (by unfold M7;rw [show Yi 10000 (t.length:Int)=true by rw [Xa];exact h1];simp only [Bool.or_true,Bool.true_or])):p:=h
theorem good_Right5:Qq Tryz.prog (105,Ay):=by
 obtain ⟨Kx,Kt,Kc,Kd,Kb,Ku,Kw,K,W4,Gd,M4,Ln,_⟩:=X2 Z4 Zq [] false (Jh good_End5 aQ.eq_def (Jh good_uses5 bF.eq_def (Jh good_shallow5 Tq.eq_def (Jh good_labelled5 Lu.eq_def X1))));have Ko:=Ay.eq_def;refine Wh K Tryz.func105 [.tmp 2] rfl 59 rfl (fun c hc cvs hpre=>?_);unfold Ay at hpre;obtain ⟨⟨t⟩,rfl,ht,hN⟩:=Jr hpre;simp only at ht hN;cases hc;refine Yv 3 ?_;by_cases h0:t.length=0
 ·have Qd:((t.length:Int)==0)=true:=by simp [h0]
  have Kq:KbW:=⟨⟩;exact K7
 have Qd:((t.length:Int)==0)=false:=by rw [Za];omega
 have hlt0:0<t.length:=by omega
 have heb:M7 t=true→false=Gm t:=by
  intro h;unfold Gm;rw [h];rfl
 have Qe:=Zr e0 hlt0;have Kq:KbX:=⟨⟩;exact K7
def Mz (n:Part):Part:=⟨n.kind,n.label,n.name,n.bind,n.many,n.num,n.t.map cO,n.u.map cO⟩
def Zu4 (x y:Part):Bool:=(x.kind==y.kind)&&((x.label==y.label)&&((x.name==y.name)&&((x.bind==y.bind)&&((x.many==y.many)&&(x.num==y.num)))))
def Zct (x y:Part):Bool:=Zu4 x y&&(E7 x.t y.t&&E7 x.u y.u)
theorem Zcs {x y:Part}:Zct x y=true↔Mz x=Mz y:=by
 cases x;cases y;unfold Zct Zu4 Mz E7;simp [and_assoc]
def dJ (a b:List Part):Bool:=a.map Mz==b.map Mz
def Qbp (n:Part):Prop:=n.t.length≤9223372036854775807∧n.u.length≤9223372036854775807
def Zwh (a:List Part):Prop:=a.length≤9223372036854775807∧∀ n∈a,Qbp n
def Fq:Con:=Wr (fun (a b:Sl Part)=>Zwh a.l∧Zwh b.l) (fun a b=>dJ a.l b.l)
structure Kcd:Prop
theorem Kcd.k (_:Kcd) (h:p:=by
 repeat' first|exact Z1|with_reducible apply Zb|intro _
 all_goals first|with_reducible exact Qo|omega|assumption|(symm;apply hbad;clear hbad hyes hno Qe hR2 hQ Qa Qc K hA hB;simp_all;done)|(refine ⟨k+1,by exact Qk,by omega,Eq.mpr hQ (hyes ?_),by omega⟩;clear hbad hyes hno Qe hR2 hQ Qa Qc K hA hB;simp_all;done)|skip):p:=h
structure Kcc:Prop
theorem Kcc.k (_:Kcc) (h:p:=by
 repeat' first|exact Z1|with_reducible apply Zb|intro _
 refine Zi [4,6,7,13,14,15,16,17,18,19,20,21,22,23,24,25,26,27,28,29,30,31,32,33,34,35,36,37,38,39,40,41,42,43,44,45,46,47,48,49,50,51,52,53,54,55,56,57,58,59,60,61,62,63,64,65,66,67,68,69,70,71,72,73,74,75,76,77,78,79,80] (fun k:Nat=>[(5,.d (.int .i64 k))]) (fun k:Nat=>[]) (fun k:Nat=>k≤a.length∧∀ j,j<k→Mz (a.getD j e0)=Mz (b.getD j e0)) (fun k:Nat=>a.length-k) 0 ?_ ?_ ?_
 ·simp
 ·exact Qk
 rintro k ⟨hk,hno⟩;rcases Zn k a.length with ⟨hlt,Z6⟩|⟨hlt,Z6⟩
 ·have hlt2:k<b.length:=by omega
  have Qa:=Zr e0 hlt;have Qc:=Zr e0 hlt2;obtain ⟨s1,s2⟩:=hA (a.getD k e0) (by simp [hlt])
  obtain ⟨s3,s4⟩:=hB (b.getD k e0) (by simp [hlt2])
  have hbad:Zct (a.getD k e0) (b.getD k e0)=false→R=false:=by
   intro h;rw [←hR2,Za];intro e;have h1:(a.map Mz).getD k e0=(b.map Mz).getD k e0:=by rw [e]
   have h2:Mz (a.getD k e0)=Mz (b.getD k e0):=by simpa [hlt,hlt2] using h1
   rw [Zcs.2 h2] at h;cases h
  have hyes:Zct (a.getD k e0) (b.getD k e0)=true→∀ j,j<k+1→Mz (a.getD j e0)=Mz (b.getD j e0):=fun h=>Ks hno (Zcs.1 h);obtain ⟨Q,hQ⟩:=exq ((∀ j,j<k+1→Mz (a.getD j e0)=Mz (b.getD j e0)));rw [hQ] at hyes;obtain ⟨x,hx⟩:=exq (a.getD k e0);obtain ⟨y,hy⟩:=exq (b.getD k e0);rw [hx] at Qa s1 s2 hbad hyes;rw [hy] at Qc s3 s4 hbad hyes;unfold Zct Zu4 at hbad hyes;obtain ⟨b1,h1⟩:=exq ((x.kind==y.kind));obtain ⟨b5,h5⟩:=exq ((x.many==y.many));obtain ⟨b6,h6⟩:=exq ((x.num==y.num));obtain ⟨b7,Qv⟩:=exq (E7 x.t y.t);obtain ⟨b8,Q4⟩:=exq (E7 x.u y.u);have Qh:(x.kind != y.kind)=!b1:=by rw [bne,h1]
  have Qp:(x.many != y.many)=!b5:=by rw [bne,h5]
  have Qz:(x.num != y.num)=!b6:=by rw [bne,h6]
  rw [h1,h5,h6,Qv,Q4] at hbad hyes;have Kq:Kcd:=⟨⟩;exact K7
 ·have hr:R=true:=by
   rw [←hR2,Zm];refine List.ext_getElem (by simp [hne]) fun j h1 h2=>?_
   rw [Zo] at h1 h2;have:=hno j (by omega)
   simpa [h1,h2] using this
  subst hr;exact Zrv):p:=h
theorem good_Same5:Qq Tryz.prog (131,Fq):=by
 obtain ⟨Kx,Kt,Kc,Kd,Kb,Ku,Kw,K,W4,_⟩:=X2 Z4 Zq [] false (Jh good_Same3 Fr.eq_def X1);have Ko:=Fq.eq_def;refine Wh K Tryz.func131 [.tmp 4] rfl 81 rfl (fun c hc cvs hpre=>?_);unfold Fq at hpre;obtain ⟨⟨a⟩,⟨b⟩,rfl,hIa,hIb⟩:=Jv hpre;obtain ⟨ha,hA⟩:Zwh a:=hIa;obtain ⟨hb,hB⟩:Zwh b:=hIb;clear hpre;obtain ⟨R,Qe⟩:=exq (dJ a b);have hR2:=Qe;unfold dJ at hR2;by_cases hne:a.length=b.length
 case neg =>
  have hr:R=false:=by
   rw [←hR2,Za];intro h;have:=congrArg List.length h;rw [Zo,Zo] at this;exact hne this
  have Qd:((a.length:Int) != (b.length:Int))=true:=by rw [bne_iff_ne];omega
  subst hr;cases hc;refine Yv 5 ?_;exact Zrv
 have Qd:((a.length:Int) != (b.length:Int))=false:=by rw [bne_eq_false_iff_eq];omega
 cases hc;refine Yv 5 ?_;have Kq:Kcc:=⟨⟩;exact K7
theorem Zvn {a b:List Part} (h:(a==b)=true):dJ a b=true:=by
 rw [eq_of_beq h];unfold dJ;exact beq_self_eq_true _
theorem Zjm {a:List Part} (h:a.length≤9223372036854775807) (h2:∀ n∈a,Qbp n):Zwh a:=⟨h,h2⟩
def jH:Con:=Wr (fun (a b:Sl Part)=>Zwh a.l∧Zwh b.l) (fun a b=>a.l==b.l)
structure Kce:Prop
theorem Kce.k (_:Kce) (h:p:=by
 repeat' first|exact Z1|with_reducible apply Zb|intro _
 all_goals first|exact Zjm ha hA|exact Zjm hb hB|skip):p:=h
structure Kcg:Prop
theorem Kcg.k (_:Kcg) (h:p:=by
 repeat' first|exact Z1|with_reducible apply Zb|intro _
 all_goals first|with_reducible exact Qo|omega|assumption|(symm;apply hbad;clear hbad hyes hno Qe hQ Qa Qc K hA hB;simp_all;done)|(refine ⟨k+1,by exact Qk,by omega,Eq.mpr hQ (hyes ?_),by omega⟩;clear hbad hyes hno Qe hQ Qa Qc K hA hB;simp_all;done)|skip):p:=h
structure Kcf:Prop
theorem Kcf.k (_:Kcf) (h:p:=by
 repeat' first|exact Z1|with_reducible apply Zb|intro _
 all_goals first|exact Zjm ha hA|exact Zjm hb hB|skip
 refine Zi [4,10,11,12,13,14,15,16,17,18,19,20,21,22,23,24,25,26,27,28,29,30,31,32,33,34,35,36,37,38,39,40,41] (fun k:Nat=>[(5,.d (.int .i64 k))]) (fun k:Nat=>[]) (fun k:Nat=>k≤a.length∧∀ j,j<k→a.getD j e0=b.getD j e0) (fun k:Nat=>a.length-k) 0 ?_ ?_ ?_
 ·simp
 ·exact Qk
 rintro k ⟨hk,hno⟩;rcases Zn k a.length with ⟨hlt,Z6⟩|⟨hlt,Z6⟩
 ·have hlt2:k<b.length:=by omega
  have Qa:=Zr e0 hlt;have Qc:=Zr e0 hlt2;obtain ⟨s1,s2⟩:=hA (a.getD k e0) (by simp [hlt])
  obtain ⟨s3,s4⟩:=hB (b.getD k e0) (by simp [hlt2])
  have hnk:Mz (a.getD k e0)=Mz (b.getD k e0):=by
   have Qh:(a.map Mz).getD k e0=(b.map Mz).getD k e0:=by rw [hmap]
   simpa [hlt,hlt2] using Qh
  have hbad:a.getD k e0≠b.getD k e0→R=false:=by
   intro h;rw [←Qe,Za];intro e;exact h (by rw [e])
  have hyes:a.getD k e0=b.getD k e0→∀ j,j<k+1→a.getD j e0=b.getD j e0:=fun h=>Ks hno h;obtain ⟨Q,hQ⟩:=exq ((∀ j,j<k+1→a.getD j e0=b.getD j e0));rw [hQ] at hyes;obtain ⟨x,hx⟩:=exq (a.getD k e0);obtain ⟨y,hy⟩:=exq (b.getD k e0);rw [hx] at Qa s1 s2 hbad hyes hnk;rw [hy] at Qc s3 s4 hbad hyes hnk;have hxy:x=y↔((x.t==y.t)&&(x.u==y.u))=true:=by
   constructor
   ·rintro rfl;simp
   ·intro h;rw [Zk,Zm,Zm] at h;cases x;cases y;unfold Mz at hnk;simp only [Part.mk.injEq] at hnk h ⊢;exact ⟨hnk.1,hnk.2.1,hnk.2.2.1,hnk.2.2.2.1,hnk.2.2.2.2.1,hnk.2.2.2.2.2.1,h.1,h.2⟩
  obtain ⟨b1,Qh⟩:=exq ((x.t==y.t));obtain ⟨b2,Qp⟩:=exq ((x.u==y.u));rw [Qh,Qp] at hxy;rw [ne_eq,hxy] at hbad;rw [hxy] at hyes;clear hxy;have Kq:Kcg:=⟨⟩;exact K7
 ·have hr:R=true:=by
   rw [←Qe,Zm];refine List.ext_getElem hne fun j Qh Qp=>?_;have:=hno j (by omega)
   simpa [Qh,Qp] using this
  subst hr;exact Zrv):p:=h
theorem good_One5:Qq Tryz.prog (93,jH):=by
 obtain ⟨Kx,Kt,Kc,Kd,Kb,Ku,Kw,K,W4,Gd,_⟩:=X2 Z4 Zq [] false (Jh good_One3 O7.eq_def (Jh good_Same5 Fq.eq_def X1));have Ko:=jH.eq_def;refine Wh K Tryz.func93 [.tmp 4] rfl 42 rfl (fun c hc cvs hpre=>?_);unfold jH at hpre;obtain ⟨⟨a⟩,⟨b⟩,rfl,hIa,hIb⟩:=Jv hpre;obtain ⟨ha,hA⟩:Zwh a:=hIa;obtain ⟨hb,hB⟩:Zwh b:=hIb;clear hpre;obtain ⟨R,Qe⟩:=exq ((a==b));cases Qd:dJ a b with
 | false =>
  have hr:R=false:=by
   rw [←Qe,Bool.eq_false_iff];intro h;rw [Zvn h] at Qd;cases Qd
  subst hr;cases hc;refine Yv 2 ?_;have Kq:Kce:=⟨⟩;exact K7
 | true =>
 have hmap:a.map Mz=b.map Mz:=by unfold dJ at Qd;exact eq_of_beq Qd
 have hne:a.length=b.length:=by have:=congrArg List.length hmap;rwa [Zo,Zo] at this
 cases hc;refine Yv 2 ?_;have Kq:Kcf:=⟨⟩;exact K7
structure Ch where
 site:Int
 t:List Node
 deriving DecidableEq
instance encCh:Enc Ch:=⟨fun a=>.agg [.int .i64 a.site,.list 3 (a.t.map enc)],fun x=>match x with
 | .agg [a,b]=>⟨a.i,b.l.map dec⟩
 | _=>⟨0,[]⟩,fun a=>by
  have h:∀ l:List Node,(l.map (enc:Node→D)).map dec=l:=fun l=>J2;cases a;simp [D.l,D.i,h]⟩
instance szCh:Sz Ch:=⟨2⟩
def c0:Ch:=⟨0,[]⟩
abbrev ty (l:List Ch) (k:Nat):List Node:=(l.getD k c0).t
abbrev si (l:List Ch) (k:Nat):Int:=(l.getD k c0).site
def Zi1 (t:List Node):Bool:=t.all fun n=>n.kind != 0
def Zu5 (t:List Node):Bool:=Y6 t&&(I8 t&&Zi1 t)
def Qb1 (l:List Ch) (k:Nat):Bool:=!(Yi (si l k) 1||(Yi 0 (k:Int)&&Wf (si l k) (si l (k-1))))&&Zu5 (ty l k)
def right11 (l:List Ch):Bool:=(List.range l.length).all (Qb1 l)
section
variable {α β:Type} [BEq α]
def Xn (x:α):List α→Bool
 | []=>false
 | y::l=>(x==y)||Xn x l
def K5 (x:α) (z:β):List α→List β→β
 | y::ks,v::vs=>cond (x==y) v (K5 x z ks vs)
 | _,_=>z
def Vd (x:α) (ks:List α):List α:=cond (Xn x ks) ks (ks++[x])
def Hi (x:α) (v:β):List α→List β→List β
 | y::ks,u::vs=>cond (x==y) (v::vs) (u::Hi x v ks vs)
 | _,_=>[v]
theorem Zht {x y:α}:∀ {l:List α},Xn x (l++[y])=(Xn x l||(x==y))
 | []=>by simp [Xn]
 | z::l=>by simp only [List.cons_append,Xn,Zht (l:=l),Bool.or_assoc]
theorem lI {x:α} {v:β}:∀ {ks:List α} {vs:List β},ks.length=vs.length→(Hi x v ks vs).length=(Vd x ks).length
 | [],[],_=>rfl
 | [],_::_,h=>by simp at h
 | _::_,[],h=>by simp at h
 | k::ks,u::vs,h=>by
  have h':ks.length=vs.length:=by simpa using h
  have ih:=lI (x:=x) (v:=v) h';unfold Vd at ih ⊢;simp only [Hi,Xn];cases hx:(x==k) with
  | true=>simp only [cond_true,Bool.true_or,Zj,h']
  | false =>
   simp only [cond_false,Bool.false_or,Zj,ih];cases Xn x ks<;>simp
variable [LawfulBEq α]
theorem Zu2 {x y:α} {ks:List α}:Xn x (Vd y ks)=(Xn x ks||(x==y)):=by
 unfold Vd;cases h:Xn y ks with
 | false=>rw [cond_false,Zht]
 | true =>
  rw [cond_true];cases hxy:(x==y) with
  | false=>rw [Bool.or_false]
  | true=>rw [eq_of_beq hxy,h];rfl
theorem Zd4 {x y:α} {z v:β}:∀ {ks:List α} {vs:List β},ks.length=vs.length→K5 x z (Vd y ks) (Hi y v ks vs)=cond (x==y) v (K5 x z ks vs)
 | [],[],_=>by
  show K5 x z [y] [v]=_;cases h:x==y<;>simp [K5,h]
 | [],_::_,h=>by simp at h
 | _::_,[],h=>by simp at h
 | k::ks,u::vs,h=>by
  have h':ks.length=vs.length:=by simpa using h
  have ih:=Zd4 (x:=x) (y:=y) (z:=z) (v:=v) h';unfold Vd at ih ⊢;simp only [Hi,Xn];cases hk:(y==k) with
  | true =>
   have e:=eq_of_beq hk;subst e;simp only [cond_true,Bool.true_or,K5];cases x==y<;>rfl
  | false =>
   simp only [cond_false,Bool.false_or];cases hh:Xn y ks with
   | true =>
    rw [hh] at ih;simp only [cond_true] at ih ⊢;simp only [K5,ih];cases hxk:(x==k) with
    | true =>
     have e:=eq_of_beq hxk;subst e;have:(x==y)=false:=by rw [Za] at hk ⊢;exact fun e=>hk e.symm
     rw [this];rfl
    | false=>rfl
   | false =>
    rw [hh] at ih;simp only [cond_false] at ih ⊢;simp only [List.cons_append,K5,ih];cases hxk:(x==k) with
    | true =>
     have e:=eq_of_beq hxk;subst e;have:(x==y)=false:=by rw [Za] at hk ⊢;exact fun e=>hk e.symm
     rw [this];rfl
    | false=>rfl
end
theorem Zvb {x y:Int}:D.eqb (.int .i64 x) (.int .i64 y)=(x==y):=by
 show ((IntKind.i64==IntKind.i64)&&(x==y))=_;rfl
theorem J7:∀ {ks:List Int},K2 (.int .i64) (ks.map enc)=True
 | []=>rfl
 | k::ks=>by
  show ((IntKind.i64=IntKind.i64)∧K2 (.int .i64) (ks.map enc))=True;rw [J7];simp
theorem Yn {x:Int}:∀ {ks:List Int},Di (.int .i64 x) (ks.map enc)=Xn x ks
 | []=>rfl
 | k::ks=>by
  show (D.eqb (.int .i64 x) (.int .i64 k)||Di (.int .i64 x) (ks.map enc))=_;rw [Yn,Zvb,Xn]
theorem Wm {x:Int} {ks:List Int}:Oh (.int .i64 x) (ks.map enc)=(Vd x ks).map enc:=by
 unfold Oh Vd;rw [Yn];cases Xn x ks
 ·simp only [cond_false,List.map_append,List.map_cons,List.map_nil];rfl
 ·rfl
def named (s:List UInt8):List Node→List Node
 | []=>[]
 | n::r=>⟨n.kind,s,n.n⟩::r
theorem Zg2 {s:List UInt8} {l:List Node}:(named s l).length=l.length:=by cases l<;>rfl
theorem Zgg {P:List Node} {n:Node} {r:List Node} {s:List UInt8}:((P++n::r).map (enc:Node→D)).set P.length (.agg [.int .i64 n.kind,.str s,.int .i64 n.n])=(P++named s (n::r)).map enc:=by
 rw [List.map_append,List.map_append,List.set_append];simp [named,Q3]
theorem Zms {P:List Node} {n:Node} {r:List Node}:el ((P++n::r).map (enc:Node→D)) P.length=enc n:=by
 unfold el;simp
def Zx0:List Ch→Int→Option (List Node)
 | [],_=>none
 | c::l,s=>if c.site=s then some c.t else Zx0 l s
def Zy3 (l:List Ch):Prop:=∀ i j,i<j→j<l.length→si l i<si l j
theorem Zrx {l:List Ch} (h:right11 l=true):Zy3 l:=by
 unfold right11 at h;rw [List.all_eq_true] at h;have step:∀ j,j+1<l.length→si l j<si l (j+1):=by
  intro j hj;have:=h (j+1) (List.mem_range.2 hj);unfold Qb1 at this;simp only [Zk,Bool.not_eq_true',Bool.or_eq_false_iff,Bool.and_eq_false_iff,Q9] at this;have h2:=this.1.2;simp only [Nat.add_sub_cancel] at h2;rcases h2 with h2|h2
  ·omega
  ·rw [←Bool.not_eq_true,Qx] at h2;omega
 intro i j hij
 induction j with
 | zero=>omega
 | succ j ih =>
  intro hj;have:=step j hj;rcases Nat.lt_or_ge i j with h1|h1
  ·have:=ih h1 (by omega)
   omega
  ·have:i=j:=by omega
   subst this;exact step i hj
theorem Zqy {l:List Ch} (h:right11 l=true):∀ c∈l,1≤c.site∧Y6 c.t=true∧I8 c.t=true∧Zi1 c.t=true:=by
 unfold right11 at h;rw [List.all_eq_true] at h;intro c hc;obtain ⟨k,hk,rfl⟩:=List.mem_iff_getElem.1 hc;have:=h k (List.mem_range.2 hk);unfold Qb1 Zu5 si ty at this;have hg:l.getD k c0=l[k]:=by simp [hk]
 rw [hg] at this;simp only [Zk,Bool.not_eq_true',Bool.or_eq_false_iff,Q9] at this;exact ⟨this.1.1,this.2.1,this.2.2.1,this.2.2.2⟩
theorem Zoa {t:List Node} (h:Y6 t=true):0<t.length:=by
 unfold Y6 Bj at h;cases t with
 | nil=>simp at h
 | cons n t=>simp
def fillN (l:List Ch) (n:Node):List Node:=if n.kind=0 then (match Zx0 l n.n with
 | some u=>named n.name u
 | none=>[n]) else [n]
abbrev Qbo (l:List Ch):Prop:=l.Pairwise fun a b=>a.site<b.site
theorem Zob {l:List Ch} (hu:Qbo l) (hf:∀ c∈l,1≤c.site∧Y6 c.t=true∧I8 c.t=true∧Zi1 c.t=true):right11 l=true:=by
 unfold right11;rw [List.all_eq_true];intro k hk;have hk:=List.mem_range.1 hk;have e1:l.getD k c0=l[k]:=by simp [hk]
 obtain ⟨h1,h2,h3,h4⟩:=hf l[k] (List.getElem_mem hk);unfold Qb1 si ty Zu5;rw [e1,h2,h3,h4,Bool.and_true,Bool.and_true,Bool.and_true,Bool.not_eq_true',Bool.or_eq_false_iff,Q9];refine ⟨h1,?_⟩;cases k with
 | zero=>rfl
 | succ k =>
  have e2:l.getD (k+1-1) c0=l[k]:=by simp [show k<l.length by omega]
  rw [e2,Bool.and_eq_false_iff];right;rw [←Bool.not_eq_true,Qx];have:=(List.pairwise_iff_getElem.1 hu) k (k+1) (by omega) hk (by omega)
  omega
structure Mrg (l0 l1:List Ch) (i k:Nat) (B:List Ch):Prop where
 li:i≤l0.length
 lk:k≤l1.length
 len:B.length=i+k
 mem:∀ c,c∈B↔c∈l0.take i∨c∈l1.take k
 ups:Qbo B
 lo0:∀ c∈B,i<l0.length→c.site<si l0 i
 lo1:∀ c∈B,k<l1.length→c.site<si l1 k
theorem Mrg.nil {l0 l1:List Ch}:Mrg l0 l1 0 0 []:=⟨by omega,by omega,rfl,by simp,List.Pairwise.nil,by simp,by simp⟩
theorem Zp0 {l:List Ch} (h:right11 l=true) {i:Nat} (hi:i+1<l.length):si l i<si l (i+1):=Zrx h i (i+1) (by omega) hi
theorem dA {l:List Ch} {i:Nat} (h:i<l.length) (c:Ch):c∈l.take (i+1)↔c∈l.take i∨c=l.getD i c0:=by
 rw [Km c0 h,List.mem_append,Zp]
theorem Zkf {B:List Ch} {c:Ch} (hB:Qbo B) (h:∀ b∈B,b.site<c.site):Qbo (B++[c]):=by
 rw [Qbo,List.pairwise_append];exact ⟨hB,List.pairwise_singleton _ _,fun a ha b hb=>by rw [Zp] at hb;subst hb;exact h a ha⟩
theorem Mrg.left {l0 l1:List Ch} (h0:right11 l0=true) {i k:Nat} {B:List Ch} (h:Mrg l0 l1 i k B) (hi:i<l0.length) (hlt:k<l1.length→si l0 i<si l1 k):Mrg l0 l1 (i+1) k (B++[l0.getD i c0]):=by
 refine ⟨hi,h.lk,by simp [h.len];omega,fun c=>?_,Zkf h.ups fun b hb=>h.lo0 b hb hi,fun c hc hi2=>?_,fun c hc hk=>?_⟩
 ·rw [List.mem_append,Zp,h.mem,dA hi];constructor
  ·rintro ((h|h)|h)
   ·exact .inl (.inl h)
   ·exact .inr h
   ·exact .inl (.inr h)
  ·rintro ((h|h)|h)
   ·exact .inl (.inl h)
   ·exact .inr h
   ·exact .inl (.inr h)
 ·have hn:=Zp0 h0 hi2;rcases List.mem_append.1 hc with hc|hc
  ·have:=h.lo0 c hc hi;omega
  ·rw [Zp] at hc;subst hc;exact hn
 ·rcases List.mem_append.1 hc with hc|hc
  ·exact h.lo1 c hc hk
  ·rw [Zp] at hc;subst hc;exact hlt hk
theorem Mrg.right {l0 l1:List Ch} (h1:right11 l1=true) {i k:Nat} {B:List Ch} (h:Mrg l0 l1 i k B) (hk:k<l1.length) (hlt:i<l0.length→si l1 k<si l0 i):Mrg l0 l1 i (k+1) (B++[l1.getD k c0]):=by
 refine ⟨h.li,hk,by simp [h.len];omega,fun c=>?_,Zkf h.ups fun b hb=>h.lo1 b hb hk,fun c hc hi=>?_,fun c hc hk2=>?_⟩
 ·rw [List.mem_append,Zp,h.mem,dA hk,or_assoc]
 ·rcases List.mem_append.1 hc with hc|hc
  ·exact h.lo0 c hc hi
  ·rw [Zp] at hc;subst hc;exact hlt hi
 ·have hn:=Zp0 h1 hk2;rcases List.mem_append.1 hc with hc|hc
  ·have:=h.lo1 c hc hk;omega
  ·rw [Zp] at hc;subst hc;exact hn
theorem Mrg.whole {l0 l1 B:List Ch} (h:Mrg l0 l1 l0.length l1.length B) (c:Ch):c∈B↔c∈l0∨c∈l1:=by
 have:=h.mem c;rwa [List.take_length,List.take_length] at this
theorem Mrg.right11 {l0 l1 B:List Ch} (h0:right11 l0=true) (h1:Ty.right11 l1=true) (h:Mrg l0 l1 l0.length l1.length B):Ty.right11 B=true :=
 Zob h.ups fun c hc=>by
  rcases (h.whole c).1 hc with hc|hc
  ·exact Zqy h0 c hc
  ·exact Zqy h1 c hc
theorem map_snoc {B:List Ch} {x:Ch}:(B++[x]).map (enc:Ch→D)=B.map enc++[.agg [.int .i64 x.site,.list 3 (x.t.map enc)]]:=by rw [List.map_append];rfl
def Zfe {A B C E R:Type} [Enc A] [Enc B] [Enc C] [Enc E] [Enc R] (p:A→B→C→E→Prop) (f:A→B→C→E→R):Con:=⟨[false,false,false,false],[false],fun c=>match c with
 | [.d x,.d y,.d z,.d w]=>K3 A x∧K3 B y∧K3 C z∧K3 E w∧p (dec x) (dec y) (dec z) (dec w)
 | _=>False,fun c=>match c with
 | [.d x,.d y,.d z,.d w]=>.d (enc (f (dec x) (dec y) (dec z) (dec w)))
 | _=>.d .nilp⟩
theorem Ztr:type_of% @Zfe.eq_def:=@Zfe.eq_def
theorem Zj0 {A B C E R:Type} [Enc A] [Enc B] [Enc C] [Enc E] [Enc R] {p:A→B→C→E→Prop} {f:A→B→C→E→R} {c:List CV} (h:(Zfe p f).pre c):∃ a b d e,c=[.d (enc a),.d (enc b),.d (enc d),.d (enc e)]∧p a b d e:=by
 unfold Zfe at h;simp only at h;split at h
 ·next x y z w=>exact ⟨dec x,dec y,dec z,dec w,by rw [←h.1,←h.2.1,←h.2.2.1,←h.2.2.2.1],h.2.2.2.2⟩
 ·exact h.elim
def Bx (s:List UInt8) (i:Int) (a b:UInt8):Bool:=Yi i s.length&&Wv (s.getD i.toNat 0) a b
def bP:Con:=Zfe (fun (s:List UInt8) (i:Int) (_ _:UInt8)=>s.length≤1000000∧0≤i∧i≤2000000) (fun s i a b=>Bx s i a b)
theorem Zo5:Qq Tryz.prog (246,bP):=by
 obtain ⟨Kx,Kt,Kc,Kd,Kb,Ku,Kw,K,W4,_⟩:=X2 Z4 Zq [] false (Jh good_within Zcd X1);have Ko:=bP.eq_def;refine Wh K Tryz.func246 [.tmp 8] rfl 21 rfl (fun c hc cvs hpre=>?_);unfold bP at hpre;obtain ⟨s,i,a,b,rfl,hs,hi0,hi1⟩:=Zj0 hpre;obtain ⟨i,rfl⟩:∃ n:Nat,i=n:=⟨i.toNat,by omega⟩
 obtain ⟨R,Z6⟩:=exq (Bx s i a b);have Qe:=Z6;unfold Bx at Qe;rw [Zf] at Qe;rcases Zn i s.length with ⟨hlt,Qd⟩|⟨hlt,Qd⟩
 ·rw [Qd,Bool.true_and] at Qe;cases hc;have Qa:=@Zfe.eq_def;exact Lp
 ·rw [Qd,Bool.false_and] at Qe;subst Qe;cases hc;have Qa:=@Zfe.eq_def;exact Zrv
def Zoq (s:List UInt8) (i:Nat) (c:UInt8):Nat :=
 if c<128 then 1
 else if (Wv c 194 223&&Bx s (i+1) 128 191)=true then 2
 else if (Wv c 224 239&&(Bx s (i+1) (if c=224 then 160 else 128) (if c=237 then 159 else 191)&&Bx s (i+2) 128 191))=true then 3
 else if (Wv c 240 244&&(Bx s (i+1) (if c=240 then 144 else 128) (if c=244 then 143 else 191)&&(Bx s (i+2) 128 191&&Bx s (i+3) 128 191)))=true then 4
 else 0
def gC (s:List UInt8) (i:Nat):Nat:=Zoq s i (s.getD i 0)
theorem Zeg {s:List UInt8} {i:Int} {a b:UInt8} (h:Bx s i a b=true):i<s.length:=by
 unfold Bx at h;rw [Zk,Xa] at h;exact h.1
theorem Zl0 {s:List UInt8} {i:Nat} (hi:i<s.length):i+gC s i≤s.length:=by
 unfold gC Zoq;obtain ⟨a,ha⟩:=exq ((if s.getD i 0=224 then (160:UInt8) else 128))
 obtain ⟨b,hb⟩:=exq ((if s.getD i 0=237 then (159:UInt8) else 191))
 obtain ⟨c,hc⟩:=exq ((if s.getD i 0=240 then (144:UInt8) else 128))
 obtain ⟨d,hd⟩:=exq ((if s.getD i 0=244 then (143:UInt8) else 191))
 rw [ha,hb,hc,hd];split
 ·omega
 split
 ·rename_i h;rw [Zk] at h;have:=Zeg h.2;omega
 split
 ·rename_i h;simp only [Zk] at h;have:=Zeg h.2.2;omega
 split
 ·rename_i h;simp only [Zk] at h;have:=Zeg h.2.2.2;omega
 ·omega
def nP (c:UInt8):Int:=if Wv c 48 57=true then (c.toNat:Int)-48 else if Wv c 97 102=true then (c.toNat:Int)-97+10 else -1
theorem Zpz {c:UInt8}:-1≤nP c∧nP c≤15:=by
 unfold nP Wv;split
 ·rename_i h;simp only [Zk,decide_eq_true_eq,UInt8.le_iff_toNat_le] at h;have h1:(48:UInt8).toNat=48:=rfl;have h2:(57:UInt8).toNat=57:=rfl;omega
 split
 ·rename_i h;simp only [Zk,decide_eq_true_eq,UInt8.le_iff_toNat_le] at h;have h1:(97:UInt8).toNat=97:=rfl;have h2:(102:UInt8).toNat=102:=rfl;omega
 ·omega
def Zyp (s:List UInt8) (i:Nat) (c:UInt8):List UInt8×Int :=
 if c=92∨c=34 then ((s.take (i+2)).drop (i+1),2)
 else if c=110 then ([10],2)
 else if c=116 then ([9],2)
 else if c=120∧i+3<s.length∧0≤nP (s.getD (i+2) 0)∧0≤nP (s.getD (i+3) 0) then ([UInt8.ofNat (16*nP (s.getD (i+2) 0)+nP (s.getD (i+3) 0)).toNat],4)
 else ([],0)
def oJ (s:List UInt8) (i:Nat):List UInt8×Int:=if s.length≤i+1 then ([],0) else Zyp s i (s.getD (i+1) 0)
theorem Zq1 {s:List UInt8} {i:Nat} (hi:i<s.length):0≤(oJ s i).2∧i+(oJ s i).2.toNat≤s.length∧(oJ s i).1.length≤(oJ s i).2.toNat:=by
 unfold oJ;split
 ·exact ⟨by simp,by simp;omega,by simp⟩
 unfold Zyp;split
 ·exact ⟨by simp,by simp;omega,by simp;omega⟩
 split
 ·exact ⟨by simp,by simp;omega,by simp⟩
 split
 ·exact ⟨by simp,by simp;omega,by simp⟩
 split
 ·rename_i h;exact ⟨by simp,by simp;omega,by simp⟩
 ·exact ⟨by simp,by simp;omega,by simp⟩
def dM:Nat→List UInt8→Nat→List UInt8→List UInt8×Int×Int
 | 0,_,_,_=>([],0,2)
 | f+1,s,i,out =>
  if s.length≤i then ([],0,2)
  else if s.getD i 0=34 then (out,(i:Int)+1,0)
  else if gC s i=0∨s.getD i 0<32∨s.getD i 0=127 then ([],0,2)
  else if s.getD i 0=92 then (if (oJ s i).2=0 then ([],0,2) else dM f s (i+(oJ s i).2.toNat) (out++(oJ s i).1))
  else dM f s (i+gC s i) (out++(s.take (i+gC s i)).drop i)
def Ik (s:List UInt8):List UInt8×Int×Int:=if s.length=0∨s.getD 0 0≠34 then ([],0,2) else dM s.length s 1 []
theorem Ziw {s:List UInt8}:∀ {f i:Nat} {out:List UInt8},1≤i→i≤s.length→out.length≤i→(dM f s i out).2.2=0→1≤(dM f s i out).2.1∧(dM f s i out).2.1≤s.length∧(dM f s i out).1.length≤s.length
 | 0,i,out,_,_,_,h=>by simp [dM] at h
 | f+1,i,out,h1,h2,h3,h=>by
  unfold dM at h ⊢;split at h
  ·simp at h
  rename_i hi;rw [if_neg hi];split at h
  ·rename_i h4;rw [if_pos h4];exact ⟨by simp only;omega,by simp only;omega,by simp only;omega⟩
  rename_i h4;rw [if_neg h4];split at h
  ·simp at h
  rename_i h5;rw [if_neg h5];split at h
  ·rename_i h6;rw [if_pos h6];split at h
   ·simp at h
   rename_i h7;rw [if_neg h7];have hE:=Zq1 (s:=s) (i:=i) (by omega)
   exact Ziw (by omega) hE.2.1 (by rw [Zh];omega) h
  ·rename_i h6;rw [if_neg h6];have hE:=Zl0 (s:=s) (i:=i) (by omega)
   exact Ziw (by omega) hE (by simp only [Zh,List.length_drop,List.length_take];omega) h
theorem Zix {s:List UInt8} (h:(Ik s).2.2=0):1≤(Ik s).2.1∧(Ik s).2.1≤s.length∧(Ik s).1.length≤s.length:=by
 unfold Ik at h ⊢;split at h
 ·simp at h
 rename_i h1;rw [if_neg h1];exact Ziw (by omega) (by omega) (by simp) h
structure Tok where
 kind:Int
 text:List UInt8
 frm:Int
 to:Int
 deriving DecidableEq
instance encTok:Enc Tok:=⟨fun a=>.agg [.int .i64 a.kind,.str a.text,.int .i64 a.frm,.int .i64 a.to],fun x=>match x with
 | .agg [a,b,c,d]=>⟨a.i,b.s,c.i,d.i⟩
 | _=>⟨0,[],0,0⟩,fun a=>rfl⟩
instance szTok:Sz Tok:=⟨4⟩
theorem Td:Sz.sz Tok=4:=rfl
theorem J4 {n:Tok}:(enc n:D)=.agg [.int .i64 n.kind,.str n.text,.int .i64 n.frm,.int .i64 n.to]:=rfl
theorem Ui {a c d:Int} {b:List UInt8}:(dec (.agg [.int .i64 a,.str b,.int .i64 c,.int .i64 d]):Tok)=⟨a,b,c,d⟩:=rfl
theorem Ug {a c d:Int} {b:List UInt8}:K3 Tok (.agg [.int .i64 a,.str b,.int .i64 c,.int .i64 d])=True:=eq_true rfl
theorem Vg {n:Tok}:Tok.mk n.kind n.text n.frm n.to=n:=rfl
def Kg:Tok:=⟨0,[],0,0⟩
def Zqj:List (List UInt8):=[[105,109,112,111,114,116],[100,101,102],[102,117,110],[108,101,116],[114,101,99],[105,110],[105,102],[116,104,101,110],[101,108,115,101],[99,97,115,101],[111,102],[101,110,100],[116,114,117,101],[102,97,108,115,101],[117,110,105,116],[105,110,116],[98,111,111,108],[115,116,114,105,110,103]]
def dS:List (List UInt8):=[[45,62],[61,61],[38,38],[124,124],[43,43],[40],[41],[123],[125],[91],[93],[44],[59],[58],[46],[61],[124],[43],[45],[42],[47],[60],[63],[33]]
def lB (s:List UInt8):Bool:=Zqj.any fun o=>o==s
def Zhr (c:UInt8):Bool:=Wv c 97 122||(Wv c 65 90||(Wv c 48 57||c==95))
def Wn (c:UInt8):Bool:=Wv c 48 57
def Fn:Bool→List UInt8→Nat
 | _,[]=>0
 | true,c::r=>if c=10 then 1+Fn false r else 1+Fn true r
 | false,c::r=>if c=32∨c=9∨c=10 then 1+Fn false r else if c=35 then 1+Fn true r else 0
def Ij (s:List UInt8) (i:Nat):Nat:=i+Fn false (s.drop i)
theorem iK:∀ (b:Bool) (s:List UInt8),Fn b s≤s.length
 | _,[]=>by simp [Fn]
 | true,c::r=>by
  have h1:=iK true r;have h2:=iK false r;unfold Fn;split<;>simp only [Zj]<;>omega
 | false,c::r=>by
  have h1:=iK true r;have h2:=iK false r;unfold Fn;split
  ·simp only [Zj];omega
  split<;>simp only [Zj]<;>omega
theorem aV {s:List UInt8} {i:Nat} (h:i≤s.length):i≤Ij s i∧Ij s i≤s.length:=by
 unfold Ij;have:=iK false (s.drop i);rw [List.length_drop] at this;omega
def kL (s:List UInt8) (i:Nat) (x:List UInt8):Bool:=Wf ((i+x.length:Nat):Int) s.length&&((s.take (i+x.length)).drop i==x)
def S0 (s:List UInt8) (i:Nat):List (List UInt8)→List UInt8
 | []=>[]
 | x::l=>cond (kL s i x) x (S0 s i l)
def S3 (s:List UInt8) (i:Nat):List UInt8:=S0 s i dS
def Gi:List UInt8→Nat
 | []=>0
 | c::r=>cond (Zhr c) (1+Gi r) 0
theorem fK:∀ s:List UInt8,Gi s≤s.length
 | []=>by simp [Gi]
 | c::r=>by
  have:=fK r;unfold Gi;cases Zhr c
  ·exact Nat.zero_le _
  ·rw [cond_true,Zj];omega
def Gp (s:List UInt8) (i:Nat):List UInt8:=(s.take (i+Gi (s.drop i))).drop i
def fU (s:List UInt8) (i:Nat):Tok×Bool :=
 if s.getD i 0=34 then (⟨4,(Ik (s.drop i)).1,i,i+(Ik (s.drop i)).2.1⟩,(Ik (s.drop i)).2.2==0)
 else if Sa (Gp s i)=true then (⟨2,Gp s i,i,i+Gi (s.drop i)⟩,true)
 else if lB (Gp s i)=true then (⟨6,Gp s i,i,i+Gi (s.drop i)⟩,true)
 else if Yo (Gp s i)=true then (⟨1,Gp s i,i,i+Gi (s.drop i)⟩,true)
 else if 0<Gi (s.drop i) then
  (if (Gp s i).all Wn=true then (⟨3,Gp s i,i,i+Gi (s.drop i)⟩,Wf ((Gi (s.drop i):Nat):Int) 18) else (⟨1,Gp s i,i,i+Gi (s.drop i)⟩,false))
 else (⟨5,S3 s i,i,i+(S3 s i).length⟩,!(S3 s i==[]))
def Em:Nat→List UInt8→Nat→List Tok→List Tok×Int×Int
 | 0,_,_,_=>([],0,2)
 | f+1,s,i,out =>
  if s.length≤i then (out++[⟨0,[],s.length,s.length⟩],0,0)
  else if (fU s i).2=false then ([],i,2)
  else Em f s (Ij s (fU s i).1.to.toNat) (out++[(fU s i).1])
def Ba (s:List UInt8):List Tok×Int×Int:=if 100000<s.length then ([],0,3) else Em (s.length+1) s (Ij s 0) []
structure Site where
 frm:Int
 to:Int
 miss:Bool
 deriving DecidableEq
instance encSite:Enc Site:=⟨fun a=>.agg [.int .i64 a.frm,.int .i64 a.to,.bool a.miss],fun x=>match x with
 | .agg [a,b,c]=>⟨a.i,b.i,c.b⟩
 | _=>⟨0,0,false⟩,fun a=>rfl⟩
instance szSite:Sz Site:=⟨3⟩
theorem dN:Sz.sz Site=3:=rfl
theorem Uz {n:Site}:(enc n:D)=.agg [.int .i64 n.frm,.int .i64 n.to,.bool n.miss]:=rfl
structure St4 where
 at_:Int
 site:Int
 sites:List Site
 e:Int
 deriving DecidableEq
instance encSt4:Enc St4:=⟨fun a=>.agg [.int .i64 a.at_,.int .i64 a.site,.list 3 (a.sites.map enc),.int .i64 a.e],fun x=>match x with
 | .agg [a,b,c,d]=>⟨a.i,b.i,c.l.map dec,d.i⟩
 | _=>⟨0,0,[],0⟩,fun a=>by
  have h:∀ l:List Site,(l.map (enc:Site→D)).map dec=l:=fun l=>J2;cases a;simp [D.l,D.i,h]⟩
theorem Ea {n:St4}:(enc n:D)=.agg [.int .i64 n.at_,.int .i64 n.site,.list 3 (n.sites.map enc),.int .i64 n.e]:=rfl
theorem Mt {a b d:Int} {c:List Site}:(dec (.agg [.int .i64 a,.int .i64 b,.list 3 (c.map enc),.int .i64 d]):St4)=⟨a,b,c,d⟩:=Enc.dec_enc (St4.mk a b c d)
theorem Mp {a b d:Int} {c:List Site}:K3 St4 (.agg [.int .i64 a,.int .i64 b,.list 3 (c.map enc),.int .i64 d])=True:=eq_true (Wg (St4.mk a b c d))
theorem Dm {n:St4}:St4.mk n.at_ n.site n.sites n.e=n:=rfl
def tk (l:List Tok) (i:Int):Tok:=l.getD i.toNat Kg
def S6 (l:List Tok) (i:Int) (x:List UInt8):Bool:=Yi i l.length&&((tk l i).kind==5&&(tk l i).text==x)
def Ke (s:St4) (i e:Int):St4:=⟨i,s.site,s.sites,e⟩
def nF (t:Tok):Int:=if t.kind≠6 then -1 else if t.text=[105,110,116] then 1 else if t.text=[98,111,111,108] then 2 else if t.text=[115,116,114,105,110,103] then 3 else if t.text=[117,110,105,116] then 4 else -1
def Ym (s:St4):St4:=⟨s.at_+1,s.site,s.sites,s.e⟩
def Uw (l:List Tok) (s:St4) (x:List UInt8):St4:=if s.e≠0 then s else if S6 l s.at_ x=false then Ke s s.at_ 2 else Ym s
def Y4 (labels:List (List UInt8)) (done:List UInt8):Nat→Int
 | 0=>-1
 | k+1=>cond (Op.bytesLess done (labels.getD k [])&&(Yi (Y4 labels done k) 0||Op.bytesLess (labels.getD k []) (labels.getD (Y4 labels done k).toNat []))) (k:Int) (Y4 labels done k)
def nS (labels:List (List UInt8)) (types:List (List Node)):Nat→List UInt8→List Node→List Node×Int
 | 0,_,out=>(out,0)
 | k+1,done,out =>
  if Y4 labels done types.length<0 then ([],7)
  else nS labels types k (labels.getD (Y4 labels done types.length).toNat []) (out++named (labels.getD (Y4 labels done types.length).toNat []) (types.getD (Y4 labels done types.length).toNat []))
def Ux (kind:Int) (s:List UInt8):Bool:=if kind=7 then Sa s else Yo s
def fF (kind:Int) (labels:List (List UInt8)) (types:List (List Node)):List Node×Int :=
 if ((kind≠6∧kind≠7)∨labels.length≠types.length)∨(50<types.length∨kind=7∧types.length=0) then ([],1)
 else if ((List.range types.length).all fun k=>Ux kind (labels.getD k []))=false then ([],1)
 else nS labels types types.length [] [⟨kind,[],types.length⟩]
def Zga (kind:Int):Int:=if kind=7 then 2 else 1
def nG (l:List Tok) (kind:Int) (s:St4):Bool:=Wf l.length s.at_||(!((tk l s.at_).kind==Zga kind)||((Zga kind==1&&!Yo (tk l s.at_).text)||(Zga kind==2&&!Sa (tk l s.at_).text)))
section
variable (w:List Tok→St4→List Node×St4)
def Ep (l:List Tok) (kind:Int) (between fin:List UInt8):Nat→St4→List (List UInt8)→List (List Node)→List Node×St4
 | 0,s,_,_=>([],s)
 | f+1,s,labels,types =>
  if nG l kind s=true then ([],Ke s s.at_ 2)
  else if (labels.any fun x=>x==(tk l s.at_).text)=true then ([],Ke s s.at_ 7)
  else if labels.length=50 then ([],Ke s s.at_ 3)
  else if (w l (Uw l (Ym s) [58])).2.e≠0 then ([],(w l (Uw l (Ym s) [58])).2)
  else if S6 l (w l (Uw l (Ym s) [58])).2.at_ between=false then ((fF kind (labels++[(tk l s.at_).text]) (types++[(w l (Uw l (Ym s) [58])).1])).1,Uw l (w l (Uw l (Ym s) [58])).2 fin)
  else Ep l kind between fin f (Ym (w l (Uw l (Ym s) [58])).2) (labels++[(tk l s.at_).text]) (types++[(w l (Uw l (Ym s) [58])).1])
def mE (l:List Tok) (s:St4) (kind:Int) (between fin:List UInt8):List Node×St4:=Ep w l kind between fin 51 s [] []
def Bz (d:Nat) (l:List Tok) (s:St4):List Node×St4 :=
 if s.e≠0 then ([],s)
 else if (l.length:Int)≤s.at_ then ([],Ke s l.length 2)
 else if S6 l s.at_ [63]=true then ([⟨0,[],s.site⟩],⟨s.at_+1,s.site+1,s.sites++[⟨(tk l s.at_).frm,(tk l s.at_).to,false⟩],0⟩)
 else if 0≤nF (tk l s.at_) then ([⟨nF (tk l s.at_),[],0⟩],Ym s)
 else if S6 l s.at_ [40]=false∧S6 l s.at_ [123]=false∧S6 l s.at_ [91]=false then ([],Ke s s.at_ 2)
 else if d=0 then ([],Ke s s.at_ 4)
 else if (tk l s.at_).text=[123]∧S6 l (s.at_+1) [125]=true then ([⟨6,[],0⟩],Ym (Ym s))
 else if (tk l s.at_).text=[123] then mE w l (Ym s) 6 [44] [125]
 else if (tk l s.at_).text=[91] then mE w l (Ym s) 7 [124] [93]
 else ((w l (Ym s)).1,Uw l (w l (Ym s)).2 [41])
end
def Xw:Nat→List Tok→St4→List Node×St4
 | 0,_,s=>([],s)
 | d+1,l,s =>
  if (Bz (Xw d) d l s).2.e≠0∨S6 l (Bz (Xw d) d l s).2.at_ [45,62]=false then Bz (Xw d) d l s
  else if d=0 then ([],Ke (Bz (Xw d) d l s).2 (Bz (Xw d) d l s).2.at_ 4)
  else (E1 (Bz (Xw d) d l s).1 (Xw d l (Ym (Bz (Xw d) d l s).2)).1,(Xw d l (Ym (Bz (Xw d) d l s).2)).2)
def U7 (l:List Tok) (i site level:Int):List Node×Int×List Site×Int×Int :=
 if i<0∨site<1∨level<1 then ([],0,[],0,1)
 else
  let at_:=if (l.length:Int)<i then (l.length:Int) else i
  let r:=Xw (101-level).toNat l ⟨at_,site,[],0⟩
  if r.2.e≠0 then ([],0,[],r.2.at_,r.2.e)
  else if 10000<r.1.length then ([],0,[],at_,3)
  else if Y6 r.1=false then ([],0,[],at_,4)
  else (r.1,r.2.at_,r.2.sites,0,0)
theorem Zw2 {x y:List UInt8}:Op.bytesLess x y=true↔x<y:=by rw [bytesLess_eq,decide_eq_true_eq]
theorem B7 {a b c:List UInt8} (h1:Op.bytesLess a b=true) (h2:Op.bytesLess b c=true):Op.bytesLess a c=true:=by
 rw [Zw2] at *;exact List.lt_trans h1 h2
theorem N3 (a:List UInt8):Op.bytesLess a a=false:=by
 rw [bytesLess_eq,decide_eq_false_iff_not];exact List.lt_irrefl a
theorem Fi {a b:List UInt8} (h1:a≠b) (h2:Op.bytesLess b a=false):Op.bytesLess a b=true:=by
 have h:=less_not a b;rw [h2] at h;cases hb:Op.bytesLess a b with
 | true=>rfl
 | false=>rw [hb,Za.2 h1] at h;cases h
theorem Zw0 {s:List UInt8} (h:s≠[]):Op.bytesLess [] s=true:=Fi (Ne.symm h) (Zup s)
def Znx (labels:List (List UInt8)) (done:List UInt8) (f:Nat→Nat):Nat→Nat
 | 0=>0
 | k+1=>Znx labels done f k+cond (Op.bytesLess done (labels.getD k [])) (f k) 0
theorem Df (labels:List (List UInt8)) (done:List UInt8):∀ k,(Y4 labels done k=-1∧∀ j,j<k→Op.bytesLess done (labels.getD j [])=false) ∨
  ∃ b,b<k∧Y4 labels done k=(b:Int)∧Op.bytesLess done (labels.getD b [])=true∧∀ j,j<k→Op.bytesLess done (labels.getD j [])=true→Op.bytesLess (labels.getD j []) (labels.getD b [])=false
 | 0=>.inl ⟨rfl,by omega⟩
 | k+1=>by
  rw [Y4];cases hd:Op.bytesLess done (labels.getD k []) with
  | false =>
   rw [Bool.false_and,cond_false];rcases Df labels done k with ⟨h1,h2⟩|⟨b,h1,h2,h3,h4⟩
   ·exact .inl ⟨h1,Ks h2 hd⟩
   ·refine .inr ⟨b,by omega,h2,h3,fun j hj hq=>?_⟩
    rcases Nat.lt_or_ge j k with h|h
    ·exact h4 j h hq
    ·have:j=k:=by omega
     subst this;rw [hd] at hq;cases hq
  | true =>
   rw [Bool.true_and];rcases Df labels done k with ⟨h1,h2⟩|⟨b,h1,h2,h3,h4⟩
   ·rw [h1];refine .inr ⟨k,by omega,rfl,hd,fun j hj hq=>?_⟩
    rcases Nat.lt_or_ge j k with h|h
    ·rw [h2 j h] at hq;cases hq
    ·have:j=k:=by omega
     subst this;exact N3 _
   ·rw [h2,Zf];have hb0:Yi (b:Int) 0=false:=by rw [Q9];omega
    rw [hb0,Bool.false_or];cases hl:Op.bytesLess (labels.getD k []) (labels.getD b []) with
    | false =>
     refine .inr ⟨b,by omega,rfl,h3,fun j hj hq=>?_⟩
     rcases Nat.lt_or_ge j k with h|h
     ·exact h4 j h hq
     ·have:j=k:=by omega
      subst this;exact hl
    | true =>
     refine .inr ⟨k,by omega,rfl,hd,fun j hj hq=>?_⟩
     rcases Nat.lt_or_ge j k with h|h
     ·cases hz:Op.bytesLess (labels.getD j []) (labels.getD k []) with
      | false=>rfl
      | true =>
       have:=B7 hz hl;rw [h4 j h hq] at this;cases this
     ·have:j=k:=by omega
      subst this;exact N3 _
def Zfd (labels:List (List UInt8)) (n:Nat):Prop:=∀ i j,i<n→j<n→labels.getD i []=labels.getD j []→i=j
theorem Zcg {labels:List (List UInt8)} {done:List UInt8} {b:Nat} (h3:Op.bytesLess done (labels.getD b [])=true) (f:Nat→Nat):∀ k,Zfd labels (max k (b+1))→(∀ j,j<k→Op.bytesLess done (labels.getD j [])=true→Op.bytesLess (labels.getD j []) (labels.getD b [])=false) →
  Znx labels done f k=Znx labels (labels.getD b []) f k+(if b<k then f b else 0)
 | 0,_,_=>rfl
 | k+1,hA,h4=>by
  have ih:=Zcg h3 f k (fun i j hi hj=>hA i j (by omega) (by omega)) fun j hj=>h4 j (by omega)
  rw [Znx,Znx,ih];by_cases hkb:k=b
  ·subst hkb;rw [h3,N3,if_neg (by omega),if_pos (by omega)]
   simp
  ·have e:Op.bytesLess done (labels.getD k [])=Op.bytesLess (labels.getD b []) (labels.getD k []):=by
    cases hd:Op.bytesLess done (labels.getD k []) with
    | true =>
     have h5:=h4 k (by omega) hd
     symm;refine Fi (fun e=>?_) h5;have:=hA b k (by omega) (by omega) e
     omega
    | false =>
     cases hz:Op.bytesLess (labels.getD b []) (labels.getD k []) with
     | false=>rfl
     | true=>rw [B7 h3 hz] at hd;cases hd
   rw [e];by_cases hb:b<k
   ·rw [if_pos hb,if_pos (by omega)];omega
   ·rw [if_neg hb,if_neg (by omega)];omega
theorem Ziv {labels:List (List UInt8)} (f:Nat→Nat):∀ k,(∀ j,j<k→labels.getD j []≠[])→Znx labels [] f k=((List.range k).map f).sum
 | 0,_=>rfl
 | k+1,h=>by
  rw [Znx,Ziv f k fun j hj=>h j (by omega),Zw0 (h k (by omega)),List.range_succ,List.map_append,List.sum_append]
  simp
def Xl (g:Node→Nat) (t:List Node):Nat:=(t.map g).sum
def mJ (g:Node→Nat):Prop:=∀ n s,g ⟨n.kind,s,n.n⟩=g n
theorem Zjf (g:Node→Nat) (a b:List Node):Xl g (a++b)=Xl g a+Xl g b:=by unfold Xl;rw [List.map_append,List.sum_append]
theorem Zlg {g:Node→Nat} (hg:mJ g) (s:List UInt8) (t:List Node):Xl g (named s t)=Xl g t:=by
 cases t with
 | nil=>rfl
 | cons n t=>unfold Xl named;rw [List.map_cons,List.map_cons,hg]
theorem Zkx {labels:List (List UInt8)} {types:List (List Node)} {n:Nat} (hn:types.length=n) (hA:Zfd labels n) {g:Node→Nat} (hg:mJ g):∀ (k:Nat) (done:List UInt8) (out:List Node),Znx labels done (fun _=>1) n=k →
  (nS labels types k done out).2=0∧Xl g (nS labels types k done out).1=Xl g out+Znx labels done (fun j=>Xl g (types.getD j [])) n∧(out≠[]→(nS labels types k done out).1≠[])
 | 0,done,out,hk=>by
  refine ⟨rfl,?_,fun h=>h⟩;have:∀ (f:Nat→Nat) m,Znx labels done (fun _=>1) m=0→Znx labels done f m=0:=by
   intro f m
   induction m with
   | zero=>intro _;rfl
   | succ m ih =>
    intro h;rw [Znx] at h ⊢;cases hb:Op.bytesLess done (labels.getD m []) with
    | true=>rw [hb,cond_true] at h;omega
    | false=>rw [cond_false,ih (by omega)]
  show Xl g out=_;rw [this _ n hk];rfl
 | k+1,done,out,hk=>by
  rw [nS,hn];rcases Df labels done n with ⟨h1,h2⟩|⟨b,h1,h2,h3,h4⟩
  ·exfalso;have:∀ m,m≤n→Znx labels done (fun _=>1) m=0:=by
    intro m
    induction m with
    | zero=>intro _;rfl
    | succ m ih=>intro hm;rw [Znx,ih (by omega),h2 m (by omega)];rfl
   rw [this n (Zl _)] at hk;omega
  ·have hA':Zfd labels (max n (b+1)):=fun i j hi hj=>hA i j (by omega) (by omega)
   have p1:=Zcg h3 (fun _=>1) n hA' h4;have p2:=Zcg h3 (fun j=>Xl g (types.getD j [])) n hA' h4;rw [if_pos h1] at p1 p2;rw [h2,Zf,if_neg (by omega)]
   obtain ⟨r1,r2,r3⟩:=Zkx hn hA hg k (labels.getD b []) (out++named (labels.getD b []) (types.getD b [])) (by omega)
   refine ⟨r1,?_,fun ho=>r3 (by simp [ho])⟩
   rw [r2,Zjf,Zlg hg];omega
theorem Zhl {s:List UInt8} (h:Yo s=true):s≠[]:=by rintro rfl;cases h
theorem Zl7 {s:List UInt8} (h:Sa s=true):s≠[]:=by rintro rfl;cases h
theorem Zrm {f:List Node→Nat}:∀ (types:List (List Node)),((List.range types.length).map fun j=>f (types.getD j [])).sum=(types.map f).sum:=by
 intro types
 congr 1
 refine List.ext_getElem (by simp) fun j h1 h2=>?_
 simp at h1 h2;simp [h1]
theorem Zt9 {kind:Int} {labels:List (List UInt8)} {types:List (List Node)} (hk:kind=6∨kind=7) (hl:labels.length=types.length) (h50:types.length≤50) (h1:1≤types.length) (hA:Zfd labels types.length)
  (hv:∀ j,j<types.length→Ux kind (labels.getD j [])=true) {g:Node→Nat} (hg:mJ g) :
  (fF kind labels types).2=0∧Xl g (fF kind labels types).1=g ⟨kind,[],types.length⟩+(types.map (Xl g)).sum∧(fF kind labels types).1≠[]:=by
 unfold fF;rw [if_neg (by omega),if_neg (by rw [Mj hv];simp)]
 have hne:∀ j,j<types.length→labels.getD j []≠[]:=fun j hj=>by
  have:=hv j hj;unfold Ux at this;split at this
  ·exact Zl7 this
  ·exact Zhl this
 have hw:Znx labels [] (fun _=>1) types.length=types.length:=by
  rw [Ziv _ _ hne];have:∀ n:Nat,((List.range n).map fun _=>1).sum=n:=by
   intro n
   induction n with
   | zero=>rfl
   | succ n ih=>rw [List.range_succ,List.map_append,List.sum_append,ih];rfl
  exact this _
 obtain ⟨r1,r2,r3⟩:=Zkx rfl hA hg types.length [] [⟨kind,[],types.length⟩] hw;refine ⟨r1,?_,r3 (by simp)⟩
 rw [r2,Ziv _ _ hne,Zrm (f:=Xl g)];rfl
def Ms (z:Int) (n:Node):Nat:=if n.kind=0∧n.n=z then 1 else 0
theorem Zom (z:Int):mJ (Ms z):=fun _ _=>rfl
theorem Zda:mJ fun _=>1:=fun _ _=>rfl
theorem Zgz (t:List Node):Xl (fun _=>1) t=t.length:=by
 unfold Xl
 induction t with
 | nil=>rfl
 | cons n t ih=>rw [List.map_cons,List.sum_cons,ih,Zj];omega
structure Eats (l:List Tok) (s:St4) (r:List Node×St4):Prop where
 lo:0≤r.2.at_
 hi:r.2.at_≤l.length
 err:s.e≠0→r.2.e≠0
 len:(r.1.length:Int)≤l.length-s.at_
 ok:r.2.e=0→(r.1.length:Int)≤r.2.at_-s.at_∧r.2.at_≤l.length∧r.1≠[]
 sites:r.2.e=0→s.sites.length≤r.2.sites.length∧(r.2.sites.length:Int)≤s.sites.length+(r.2.at_-s.at_)∧r.2.site=s.site+(r.2.sites.length-s.sites.length)
 cnt:r.2.e=0→∀ z,Xl (Ms z) r.1=if s.site≤z∧z<r.2.site then 1 else 0
theorem Eats.bad {l:List Tok} {s:St4} {i e:Int} (h1:s.at_≤l.length) (h2:0≤i) (h3:e≠0) {q:St4} (hq:q.at_=i) (hq2:q.e=e) (h4:i≤l.length:=by omega):Eats l s ([],q) :=
 ⟨by rw [hq];exact h2,by rw [hq];exact h4,fun _=>by rw [hq2];exact h3,by show (0:Int)≤_;omega,fun h=>absurd h (by rw [hq2];exact h3),fun h=>absurd h (by rw [hq2];exact h3),fun h=>absurd h (by rw [hq2];exact h3)⟩
theorem Cx {l:List Tok} {i:Int} {x:List UInt8} (h:S6 l i x=true):i<l.length:=by
 unfold S6 at h;rw [Zk,Xa] at h;exact h.1
theorem Mm (l:List Tok) (s:St4) (x:List UInt8):(s.e≠0∧Uw l s x=s)∨(s.e=0∧Uw l s x=Ke s s.at_ 2)∨(s.e=0∧S6 l s.at_ x=true∧Uw l s x=Ym s):=by
 unfold Uw;by_cases h:s.e=0
 ·rw [if_neg (by simpa using h)]
  cases hi:S6 l s.at_ x with
  | false=>exact .inr (.inl ⟨h,if_pos rfl⟩)
  | true=>exact .inr (.inr ⟨h,rfl,if_neg (by simp)⟩)
 ·exact .inl ⟨h,if_pos h⟩
structure Had4 (l:List Tok) (kind:Int) (a s:St4) (labels:List (List UInt8)) (types:List (List Node)):Prop where
 e:s.e=0
 hi:s.at_≤l.length
 lo:0≤a.at_
 len:1+((types.map List.length).sum:Int)≤s.at_-a.at_
 s1:a.sites.length≤s.sites.length
 s2:(s.sites.length:Int)≤a.sites.length+(s.at_-a.at_)
 s3:s.site=a.site+(s.sites.length-a.sites.length)
 cnt:∀ z,(types.map (Xl (Ms z))).sum=if a.site≤z∧z<s.site then 1 else 0
 ll:labels.length=types.length
 apart:Zfd labels labels.length
 ok:∀ j,j<labels.length→Ux kind (labels.getD j [])=true
theorem Zwm (types:List (List Node)):(types.map (Xl fun _=>1)).sum=(types.map List.length).sum:=by
 congr 1
 exact List.map_congr_left fun t _=>Zgz t
theorem aX {a b c z:Int} (h1:a≤b) (h2:b≤c):((if a≤z∧z<b then 1 else 0)+(if b≤z∧z<c then 1 else 0):Nat)=if a≤z∧z<c then 1 else 0:=by
 by_cases h3:a≤z∧z<b
 ·rw [if_pos h3,if_neg (by omega),if_pos (by omega)]
 ·rw [if_neg h3];by_cases h4:b≤z∧z<c
  ·rw [if_pos h4,if_pos (by omega)]
  ·rw [if_neg h4,if_neg (by omega)]
theorem Zpo {labels:List (List UInt8)} {x:List UInt8} (h:Zfd labels labels.length) (hx:(labels.any fun y=>y==x)=false):Zfd (labels++[x]) (labels++[x]).length:=by
 rw [List.any_eq_false] at hx;have hno:∀ i,i<labels.length→labels.getD i []≠x:=fun i hi e=>by
  have:=hx (labels.getD i []) (by simp [hi])
  rw [e,beq_self_eq_true] at this;exact this rfl
 have g1:∀ i,i<labels.length→(labels++[x]).getD i []=labels.getD i []:=fun i hi=>by simp [Zd,List.getElem?_append_left hi]
 have g2:(labels++[x]).getD labels.length []=x:=by simp
 intro i j hi hj hij;rw [Zh,List.length_singleton] at hi hj;rcases Nat.lt_or_ge i labels.length with h1|h1
 ·rcases Nat.lt_or_ge j labels.length with h2|h2
  ·rw [g1 i h1,g1 j h2] at hij;exact h i j h1 h2 hij
  ·have:j=labels.length:=by omega
   subst this;rw [g1 i h1,g2] at hij;exact absurd hij (hno i h1)
 ·have e1:i=labels.length:=by omega
  subst e1;rcases Nat.lt_or_ge j labels.length with h2|h2
  ·rw [g1 j h2,g2] at hij;exact absurd hij.symm (hno j h2)
  ·omega
theorem Zvo {l:List Tok} {kind:Int} (hk:kind=6∨kind=7) {s:St4} (h:nG l kind s=false):s.at_<l.length∧Ux kind (tk l s.at_).text=true:=by
 unfold nG at h;have h1:Wf l.length s.at_=false:=by
  cases hb:Wf l.length s.at_ with
  | false=>rfl
  | true=>rw [hb,Bool.true_or] at h;cases h
 rw [h1,Bool.false_or,Bool.or_eq_false_iff,Bool.or_eq_false_iff] at h;refine ⟨by rw [←Bool.not_eq_true,Qx] at h1;omega,?_⟩
 unfold Ux Zga at *;rcases hk with rfl|rfl
 ·rw [if_neg (by decide)] at h ⊢
  have:=h.2.1;simpa using this
 ·rw [if_pos rfl] at h ⊢;have:=h.2.2;simpa using this
section
variable {w:List Tok→St4→List Node×St4} {l:List Tok}
theorem lM (hw:∀ s:St4,0≤s.at_→s.at_≤l.length→Eats l s (w l s)) {kind:Int} (hk:kind=6∨kind=7) {between fin:List UInt8} {a:St4} (ha:a.e=0):∀ (f:Nat) (s:St4) (labels:List (List UInt8)) (types:List (List Node)),
  Had4 l kind a s labels types→labels.length≤50→f+labels.length=51→Eats l a (Ep w l kind between fin f s labels types)
 | 0,s,labels,types,h,h51,hf=>by omega
 | f+1,s,labels,types,h,h51,hf=>by
  have hlo:=h.lo;have hhi:=h.hi;have hsum:=h.len;have hs1:a.at_≤l.length:=by omega
  have h0:0≤s.at_:=by omega
  rw [Ep];cases hb:nG l kind s with
  | true=>rw [if_pos rfl];exact Eats.bad (e:=2) hs1 h0 (by decide) rfl rfl
  | false =>
  rw [if_neg (by simp)]
  obtain ⟨hlt,hlab⟩:=Zvo hk hb;cases hany:labels.any fun x=>x==(tk l s.at_).text with
  | true=>rw [if_pos rfl];exact Eats.bad (e:=7) hs1 h0 (by decide) rfl rfl
  | false =>
  rw [if_neg (by simp)]
  by_cases h50:labels.length=50
  ·rw [if_pos h50];exact Eats.bad (e:=3) hs1 h0 (by decide) rfl rfl
  rw [if_neg h50];have hA:(Ym s).at_=s.at_+1:=rfl;have hAe:(Ym s).e=0:=h.e;have hAs:(Ym s).sites=s.sites:=rfl;have hAi:(Ym s).site=s.site:=rfl;obtain ⟨N,hN⟩:=exq (Uw l (Ym s) [58]);have hc:=Mm l (Ym s) [58];rw [hN] at hc ⊢;have hNat:0≤N.at_∧N.at_≤l.length:=by
   rcases hc with ⟨h1,_⟩|⟨_,h2⟩|⟨_,h2,h3⟩
   ·exact absurd hAe h1
   ·rw [h2];exact ⟨by show 0≤(Ym s).at_;omega,by show (Ym s).at_≤_;omega⟩
   ·have:=Cx h2;rw [h3];exact ⟨by show 0≤(Ym s).at_+1;omega,by show (Ym s).at_+1≤_;omega⟩
  have hE:=hw N hNat.1 hNat.2;obtain ⟨r,hr⟩:=exq (w l N);rw [hr] at hE ⊢;by_cases hre:r.2.e=0
  case neg=>rw [if_pos hre];exact Eats.bad hs1 hE.lo hre rfl rfl hE.hi
  rw [if_neg (by simpa using hre)]
  have hNe:N.e=0:=Classical.byContradiction fun e=>hE.err e hre;have hN3:S6 l (Ym s).at_ [58]=true∧N=Ym (Ym s):=by
   rcases hc with ⟨h1,_⟩|⟨_,h2⟩|⟨_,h2,h3⟩
   ·exact absurd hAe h1
   ·rw [h2] at hNe;exact absurd hNe (by show (2:Int)≠0;decide)
   ·exact ⟨h2,h3⟩
  have e1:N.at_=s.at_+2:=by rw [hN3.2];show s.at_+1+1=_;omega
  have e2:N.sites=s.sites:=by rw [hN3.2];rfl
  have e3:N.site=s.site:=by rw [hN3.2];rfl
  obtain ⟨k1,k2,k3⟩:=hE.ok hre;obtain ⟨g1,g2,g3⟩:=hE.sites hre;have g4:=hE.cnt hre;rw [e1] at k1;rw [e2] at g1 g2 g3;rw [e1] at g2;rw [e3] at g3 g4;have m1:=h.s1;have m2:=h.s2;have m3:=h.s3;have hsl:((types++[r.1]).map List.length).sum=(types.map List.length).sum+r.1.length:=by simp
  have hH:Had4 l kind a r.2 (labels++[(tk l s.at_).text]) (types++[r.1]):=by
   refine ⟨hre,k2,hlo,?_,by omega,by omega,by omega,fun z=>?_,by simp [h.ll],Zpo h.apart hany,fun j hj=>?_⟩
   ·rw [hsl];omega
   ·rw [List.map_append,List.sum_append,h.cnt,List.map_singleton,List.sum_singleton,g4];exact aX (by omega) (by omega)
   ·rw [Zh,List.length_singleton] at hj;rcases Nat.lt_or_ge j labels.length with h1|h1
    ·have:(labels++[(tk l s.at_).text]).getD j []=labels.getD j []:=by simp [Zd,List.getElem?_append_left h1]
     rw [this];exact h.ok j h1
    ·have:j=labels.length:=by omega
     subst this;have:(labels++[(tk l s.at_).text]).getD labels.length []=(tk l s.at_).text:=by simp
     rw [this];exact hlab
  have hll:(labels++[(tk l s.at_).text]).length=(types++[r.1]).length:=hH.ll;have hllen:(labels++[(tk l s.at_).text]).length=labels.length+1:=by simp
  cases hbt:S6 l r.2.at_ between with
  | false =>
   rw [if_pos rfl];have hR:=fun {g:Node→Nat} (hg:mJ g)=>Zt9 (labels:=labels++[(tk l s.at_).text]) (types:=types++[r.1]) hk hll (by omega) (by omega) (by rw [←hll];exact hH.apart) (by rw [←hll];exact hH.ok) hg
   have hone:=(hR Zda).2.1;rw [Zgz,Zwm,hsl] at hone;obtain ⟨row,hrow⟩:=exq (fF kind (labels++[(tk l s.at_).text]) (types++[r.1]));rw [hrow] at hone ⊢;have hz:=fun z=>(hR (Zom z)).2.1;rw [hrow] at hz;have hne:=(hR Zda).2.2;rw [hrow] at hne;have hdk:∀ z,Ms z ⟨kind,[],(types++[r.1]).length⟩=0:=by
    intro z;unfold Ms;rw [if_neg (by intro hh;simp only at hh;omega)]
   have hcz:=fun z=>hH.cnt z;rcases Mm l r.2 fin with ⟨q1,q2⟩|⟨q1,q2⟩|⟨q1,q2,q3⟩
   ·exact absurd hre q1
   ·rw [q2];refine ⟨hE.lo,hE.hi,fun _=>by show (2:Int)≠0;decide,by show (row.1.length:Int)≤_;omega,fun h=>absurd h (by show (2:Int)≠0;decide),fun h=>absurd h (by show (2:Int)≠0;decide),fun h=>absurd h (by show (2:Int)≠0;decide)⟩
   ·have q4:=Cx q2;rw [q3];refine ⟨by show 0≤r.2.at_+1;have:=hE.lo;omega,by show r.2.at_+1≤_;omega,fun h=>absurd ha h,by show (row.1.length:Int)≤_;omega,fun _=>⟨by show (row.1.length:Int)≤r.2.at_+1-a.at_;omega,by show r.2.at_+1≤_;omega,hne⟩,fun _=>⟨hH.s1,by show (r.2.sites.length:Int)≤_+(r.2.at_+1-a.at_);have:=hH.s2;omega,hH.s3⟩,fun _ z=>?_⟩
    show Xl (Ms z) row.1=_;rw [hz z,hdk,Nat.zero_add];exact hcz z
  | true =>
   rw [if_neg (by simp)]
   have q4:=Cx hbt;refine lM hw hk ha f (Ym r.2) _ _ ?_ (by rw [hllen];omega) (by rw [hllen];omega)
   exact ⟨hre,by show r.2.at_+1≤_;omega,hlo,by show _≤r.2.at_+1-a.at_;have:=hH.len;omega,hH.s1,by show (r.2.sites.length:Int)≤_+(r.2.at_+1-a.at_);have:=hH.s2;omega,hH.s3,hH.cnt,hH.ll,hH.apart,hH.ok⟩
theorem Zh4 {d:Nat} (hw:d≠0→∀ s:St4,0≤s.at_→s.at_≤l.length→Eats l s (w l s)) {s:St4} (h0:0≤s.at_) (hL:s.at_≤l.length):Eats l s (Bz w d l s):=by
 unfold Bz;by_cases he:s.e=0
 case neg=>rw [if_pos he];exact Eats.bad hL h0 he rfl rfl
 rw [if_neg (by simpa using he)]
 by_cases hlt:(l.length:Int)≤s.at_
 ·rw [if_pos hlt];exact Eats.bad (e:=2) hL (show (0:Int)≤l.length by omega) (by decide) rfl rfl (Int.le_refl _)
 rw [if_neg hlt];have hz:∀ (k:Int) z,k≠0→Xl (Ms z) [⟨k,[],0⟩]=0:=by
  intro k z hk;unfold Xl Ms;simp [hk]
 cases h1:S6 l s.at_ [63] with
 | true =>
  rw [if_pos rfl];refine ⟨by show 0≤s.at_+1;omega,by show s.at_+1≤(l.length:Int);omega,fun h=>absurd he h,by show (1:Int)≤_;omega,fun _=>⟨by show (1:Int)≤s.at_+1-s.at_;omega,by show s.at_+1≤_;omega,by simp⟩,fun _=>⟨by show _≤(s.sites++_).length;simp,by show ((s.sites++_).length:Int)≤_+(s.at_+1-s.at_);simp;omega,by show s.site+1=s.site+(((s.sites++_).length:Int)-_);simp;omega⟩,fun _ z=>?_⟩
  show Xl (Ms z) [⟨0,[],s.site⟩]=if s.site≤z∧z<s.site+1 then 1 else 0
  unfold Xl Ms;simp only [List.map_cons,List.map_nil,List.sum_cons,List.sum_nil,true_and,Nat.add_zero];by_cases hq:s.site=z
  ·rw [if_pos hq,if_pos (by omega)]
  ·rw [if_neg hq,if_neg (by omega)]
 | false =>
 rw [if_neg (by simp)]
 have hone:∀ (k n:Int) (q:St4),k≠0→q.e=0→s.at_<q.at_→q.at_≤l.length→q.sites=s.sites→q.site=s.site→Eats l s ([⟨k,[],n⟩],q):=by
  intro k n q hk hq1 hq2 hq3 hq4 hq5;refine ⟨by show 0≤q.at_;omega,hq3,fun h=>absurd he h,by show (1:Int)≤_;omega,fun _=>⟨by show (1:Int)≤q.at_-s.at_;omega,hq3,by simp⟩,fun _=>⟨by show _≤q.sites.length;rw [hq4];omega,by show (q.sites.length:Int)≤_+(q.at_-s.at_);rw [hq4];omega,by show q.site=s.site+((q.sites.length:Int)-_);rw [hq4,hq5];omega⟩,fun _ z=>?_⟩
  show Xl (Ms z) [⟨k,[],n⟩]=if s.site≤z∧z<q.site then 1 else 0
  rw [if_neg (by omega)]
  unfold Xl Ms;simp [hk]
 by_cases hb:0≤nF (tk l s.at_)
 ·rw [if_pos hb];refine hone _ _ _ ?_ he (by show s.at_<s.at_+1;omega) (by show s.at_+1≤_;omega) rfl rfl
  unfold nF at hb ⊢;repeat' split
  all_goals first|decide|(exfalso;simp_all;done)
 rw [if_neg hb];by_cases ho:S6 l s.at_ [40]=false∧S6 l s.at_ [123]=false∧S6 l s.at_ [91]=false
 ·rw [if_pos ho];exact Eats.bad (e:=2) hL h0 (by decide) rfl rfl
 rw [if_neg ho];by_cases hd:d=0
 ·rw [if_pos hd];exact Eats.bad (e:=4) hL h0 (by decide) rfl rfl
 rw [if_neg hd];have hw':=hw hd;by_cases hr:(tk l s.at_).text=[123]∧S6 l (s.at_+1) [125]=true
 ·rw [if_pos hr];have:=Cx hr.2;exact hone _ _ _ (by decide) he (by show s.at_<s.at_+1+1;omega) (by show s.at_+1+1≤_;omega) rfl rfl
 rw [if_neg hr];have hH:∀ kind,Had4 l kind s (Ym s) [] []:=fun kind=>⟨he,by show s.at_+1≤_;omega,h0,by show (1:Int)+0≤s.at_+1-s.at_;omega,Zl _,by show (s.sites.length:Int)≤_+(s.at_+1-s.at_);omega,by show s.site=s.site+((s.sites.length:Int)-_);omega,
  fun z=>by show 0=if s.site≤z∧z<s.site then 1 else 0;rw [if_neg (by omega)],rfl,fun i j hi=>absurd hi (by simp),fun j hj=>absurd hj (by simp)⟩
 by_cases h123:(tk l s.at_).text=[123]
 ·rw [if_pos h123];exact lM hw' (.inl rfl) he 51 (Ym s) [] [] (hH 6) (by simp) rfl
 rw [if_neg h123];by_cases h91:(tk l s.at_).text=[91]
 ·rw [if_pos h91];exact lM hw' (.inr rfl) he 51 (Ym s) [] [] (hH 7) (by simp) rfl
 rw [if_neg h91];have hE:=hw' (Ym s) (by show 0≤s.at_+1;omega) (by show s.at_+1≤_;omega)
 obtain ⟨r,hrr⟩:=exq (w l (Ym s));rw [hrr] at hE ⊢;have e1:(Ym s).at_=s.at_+1:=rfl;have e2:(Ym s).sites=s.sites:=rfl;have e3:(Ym s).site=s.site:=rfl;have hlen:=hE.len;rw [e1] at hlen;rcases Mm l r.2 [41] with ⟨q1,q2⟩|⟨q1,q2⟩|⟨q1,q2,q3⟩
 ·rw [q2];exact ⟨hE.lo,hE.hi,fun h=>absurd he h,by show (r.1.length:Int)≤_;omega,fun h=>absurd h q1,fun h=>absurd h q1,fun h=>absurd h q1⟩
 ·rw [q2];exact ⟨hE.lo,hE.hi,fun h=>absurd he h,by show (r.1.length:Int)≤_;omega,fun h=>absurd h (by show (2:Int)≠0;decide),fun h=>absurd h (by show (2:Int)≠0;decide),fun h=>absurd h (by show (2:Int)≠0;decide)⟩
 ·rw [q3];have q4:=Cx q2;obtain ⟨k1,k2,k3⟩:=hE.ok q1;obtain ⟨g1,g2,g3⟩:=hE.sites q1;have g4:=hE.cnt q1;rw [e1] at k1 g2;rw [e2] at g1 g2 g3;rw [e3] at g3 g4;exact ⟨by show 0≤r.2.at_+1;have:=hE.lo;omega,by show r.2.at_+1≤(l.length:Int);omega,fun h=>absurd he h,by show (r.1.length:Int)≤_;omega,fun _=>⟨by show (r.1.length:Int)≤r.2.at_+1-s.at_;omega,by show r.2.at_+1≤_;omega,k3⟩,fun _=>⟨g1,by show (r.2.sites.length:Int)≤_+(r.2.at_+1-s.at_);omega,g3⟩,fun _=>g4⟩
end
theorem Zv2 (g:Node→Nat) (a b:List Node):Xl g (E1 a b)=g ⟨5,[],0⟩+Xl g a+Xl g b:=by
 unfold E1 Xl;rw [List.map_cons,List.sum_cons,List.map_append,List.sum_append];omega
theorem Mc {l:List Tok}:∀ (d:Nat) (s:St4),d≠0→0≤s.at_→s.at_≤l.length→Eats l s (Xw d l s)
 | 0,s,h,_,_=>absurd rfl h
 | d+1,s,_,h0,hL=>by
  have hA:=Zh4 (w:=Xw d) (d:=d) (fun hd s' h1 h2=>Mc d s' hd h1 h2) h0 hL;rw [Xw];obtain ⟨r,hr⟩:=exq (Bz (Xw d) d l s);rw [hr] at hA ⊢;by_cases h1:r.2.e≠0∨S6 l r.2.at_ [45,62]=false
  ·rw [if_pos h1];exact hA
  rw [if_neg h1];have hre:r.2.e=0:=Classical.byContradiction fun e=>h1 (.inl e);have his:S6 l r.2.at_ [45,62]=true:=by
   cases hb:S6 l r.2.at_ [45,62] with
   | true=>rfl
   | false=>exact absurd (.inr hb) h1
  have hlt:=Cx his;obtain ⟨k1,k2,k3⟩:=hA.ok hre;obtain ⟨g1,g2,g3⟩:=hA.sites hre;have g4:=hA.cnt hre;have hse:s.e=0:=Classical.byContradiction fun e=>hA.err e hre;have hlo:=hA.lo;by_cases hd:d=0
  ·rw [if_pos hd];exact Eats.bad (e:=4) hL hlo (by decide) rfl rfl hA.hi
  rw [if_neg hd];have hB:=Mc d (Ym r.2) hd (by show 0≤r.2.at_+1;omega) (by show r.2.at_+1≤(l.length:Int);omega)
  obtain ⟨q,hq⟩:=exq (Xw d l (Ym r.2));rw [hq] at hB ⊢;have hlen:=hB.len;have e1:(Ym r.2).at_=r.2.at_+1:=rfl;have e2:(Ym r.2).sites=r.2.sites:=rfl;have e3:(Ym r.2).site=r.2.site:=rfl;rw [e1] at hlen;have hal:((E1 r.1 q.1).length:Int)=r.1.length+q.1.length+1:=by unfold E1;simp
  refine ⟨hB.lo,hB.hi,fun h=>absurd hse h,by show ((E1 r.1 q.1).length:Int)≤l.length-s.at_;omega,fun hqe=>?_,fun hqe=>?_,fun hqe z=>?_⟩
  ·obtain ⟨j1,j2,j3⟩:=hB.ok hqe;rw [e1] at j1;exact ⟨by show ((E1 r.1 q.1).length:Int)≤q.2.at_-s.at_;omega,j2,by unfold E1;simp⟩
  ·obtain ⟨j1,j2,j3⟩:=hB.sites hqe;rw [e2] at j1 j2 j3;rw [e1] at j2;rw [e3] at j3;have j5:=(hB.ok hqe).2.1;exact ⟨by show s.sites.length≤q.2.sites.length;omega,by show (q.2.sites.length:Int)≤s.sites.length+(q.2.at_-s.at_);omega,by show q.2.site=s.site+((q.2.sites.length:Int)-s.sites.length);omega⟩
  ·obtain ⟨j1,j2,j3⟩:=hB.sites hqe;have j4:=hB.cnt hqe;rw [e3] at j4 j3;rw [e2] at j1 j3;show Xl (Ms z) (E1 r.1 q.1)=_;rw [Zv2,g4,j4];have:Ms z ⟨5,[],0⟩=0:=by unfold Ms;rw [if_neg (fun h=>absurd h.1 (by decide))]
   rw [this,Nat.zero_add];exact aX (by omega) (by omega)
theorem Zuk {a b:UInt8}:Yi (a.toNat:Int) (b.toNat:Int)=decide (a<b):=by
 unfold Yi
 congr 1
 rw [UInt8.lt_iff_toNat_lt];exact propext (by omega)
theorem Zvz:D.int .u8 128=enc (128:UInt8):=rfl
theorem Zvu:D.int .u8 191=enc (191:UInt8):=rfl
theorem Zvv:D.int .u8 160=enc (160:UInt8):=rfl
theorem Zvw:D.int .u8 159=enc (159:UInt8):=rfl
theorem Zvx:D.int .u8 144=enc (144:UInt8):=rfl
theorem Zvy:D.int .u8 143=enc (143:UInt8):=rfl
theorem Zvt:D.int .u8 194=enc (194:UInt8):=rfl
theorem Zvs:D.int .u8 223=enc (223:UInt8):=rfl
theorem Zvr:D.int .u8 224=enc (224:UInt8):=rfl
theorem Zvq:D.int .u8 239=enc (239:UInt8):=rfl
theorem Zvp:D.int .u8 240=enc (240:UInt8):=rfl
theorem Qbk:D.int .u8 102=enc (102:UInt8):=rfl
theorem Zm9:D.int .u8 244=enc (244:UInt8):=rfl
def cQ:Con:=Wr (fun (s:List UInt8) (i:Int)=>s.length≤1000000∧0≤i∧i<s.length) (fun s i=>(gC s i.toNat:Int))
structure Kch:Prop
theorem Kch.k (_:Kch) (h:p:=by
 repeat' first|exact Z1|with_reducible apply Zb|intro _
 all_goals first|with_reducible exact Qo|omega|(rw [Xy];omega)|(symm;rw [←hR2];clear hR2 Qc K;simp_all;done)|(rw [←hR2];clear hR2 Qc K;simp_all;done)|skip):p:=h
structure Kci:Prop
theorem Kci.k (_:Kci) (h:p:=by
 repeat' first|exact Z1|with_reducible apply Zb|intro _
 all_goals first|with_reducible exact Qo|omega|(rw [Xy];omega)|(symm;rw [←hR2];clear hR2 Qc K;simp_all;done)|(rw [←hR2];clear hR2 Qc K;simp_all;done)|skip):p:=h
structure Kcj:Prop
theorem Kcj.k (_:Kcj) (h:p:=by
 repeat' first|exact Z1|with_reducible apply Zb|intro _
 all_goals first|with_reducible exact Qo|omega|(rw [Xy];omega)|(symm;rw [←hR2];clear hR2 Qc K;simp_all;done)|(rw [←hR2];clear hR2 Qc K;simp_all;done)|skip):p:=h
structure Kck:Prop
theorem Kck.k (_:Kck) (h:p:=by
 repeat' first|exact Z1|with_reducible apply Zb|intro _
 all_goals first|with_reducible exact Qo|omega|(rw [Xy];omega)|(symm;rw [←hR2];clear hR2 Qc K;simp_all;done)|(rw [←hR2];clear hR2 Qc K;simp_all;done)|skip):p:=h
structure Kcl:Prop
theorem Kcl.k (_:Kcl) (h:p:=by
 repeat' first|exact Z1|with_reducible apply Zb|intro _
 all_goals first|with_reducible exact Qo|omega|(rw [Xy];omega)|(symm;rw [←hR2];clear hR2 Qc K;simp_all;done)|(rw [←hR2];clear hR2 Qc K;simp_all;done)|skip):p:=h
theorem good_Long1:Qq Tryz.prog (218,cQ):=by
 obtain ⟨Kx,Kt,Kc,Kd,Kb,Ku,Kw,K,W4,Gd,_⟩:=X2 Z4 Zq [] false (Jh good_within Zcd (Jh Zo5 bP.eq_def X1));have Ko:=cQ.eq_def;refine Wh K Tryz.func218 [.tmp 4] rfl 67 rfl (fun c hc cvs hpre=>?_);unfold cQ at hpre;obtain ⟨s,i,rfl,hs,hi0,hi1⟩:=Jv hpre;obtain ⟨i,rfl⟩:∃ n:Nat,i=n:=⟨i.toNat,by omega⟩
 have Qd:Yi (i:Int) (s.length:Int)=true:=by rw [Xa];exact hi1
 clear hpre;obtain ⟨R,Qc⟩:=exq (gC s i);have hR2:=Qc;unfold gC Zoq at hR2;obtain ⟨c,Qe⟩:=exq (s.getD i 0);rw [Qe] at hR2;have Z6:Yi (c.toNat:Int) 128=decide (c<128):=Zuk (b:=128);have Qh:((c.toNat:Int)==224)=(c==224):=Mb (b:=224);have Qp:((c.toNat:Int)==237)=(c==237):=Mb (b:=237);have Qz:((c.toNat:Int)==240)=(c==240):=Mb (b:=240);have Qv:((c.toNat:Int)==244)=(c==244):=Mb (b:=244);have Q4:Yi (c.toNat:Int) ((128:UInt8).toNat:Int)=decide (c<128):=Zuk;have Z0:((c.toNat:Int)==((224:UInt8).toNat:Int))=(c==224):=Mb;have Z3:((c.toNat:Int)==((240:UInt8).toNat:Int))=(c==240):=Mb;by_cases h128:c<128
 ·rw [if_pos h128] at hR2;subst hR2;have Qa:decide (c<128)=true:=decide_eq_true h128;cases hc;refine Yv 4 ?_;exact Lp
 rw [if_neg h128] at hR2;have Qa:decide (c<128)=false:=decide_eq_false h128;obtain ⟨p2,Zv⟩:=exq (Wv c 194 223);obtain ⟨q2,Zw⟩:=exq (Bx s ((i:Int)+1) 128 191);obtain ⟨p3,Qn⟩:=exq (Wv c 224 239);obtain ⟨r3,Q6⟩:=exq (Bx s ((i:Int)+2) 128 191);obtain ⟨p4,Q5⟩:=exq (Wv c 240 244);obtain ⟨t4,Ja⟩:=exq (Bx s ((i:Int)+3) 128 191);rw [Zv,Zw,Qn,Q6,Q5,Ja] at hR2;by_cases h224:c=224
 ·have Zz:(c==224)=true:=Zm.2 h224;have Z7:(c==237)=false:=Za.2 (by rw [h224];decide)
  have Z9:(c==240)=false:=Za.2 (by rw [h224];decide)
  have Qg:(c==244)=false:=Za.2 (by rw [h224];decide)
  rw [if_pos h224] at hR2;rw [if_neg (show ¬ c=237 by rw [h224];decide)] at hR2
  rw [if_neg (show ¬ c=240 by rw [h224];decide)] at hR2
  rw [if_neg (show ¬ c=244 by rw [h224];decide)] at hR2
  obtain ⟨q3,Q7⟩:=exq (Bx s ((i:Int)+1) 160 191);rw [Q7] at hR2;try rw [Zw] at hR2
  cases hc;refine Yv 4 ?_;have Jo:=@Zfe.eq_def;have Jj:=@Zvz;have Wx:=@Zvu;have X9:=@Zvv;have Wq:=@Zvw;have Wp:=@Zvx;have Wo:=@Zvy;have Ur:=@Zvt;have Uq:=@Zvs;have Up:=@Zvr;have Kj:=@Zvq;have Ki:=@Zvp;have Kh:=@Zm9;have Kq:Kch:=⟨⟩;exact K7
 by_cases h237:c=237
 ·have Zz:(c==224)=false:=Za.2 (by rw [h237];decide)
  have Z7:(c==237)=true:=Zm.2 h237;have Z9:(c==240)=false:=Za.2 (by rw [h237];decide)
  have Qg:(c==244)=false:=Za.2 (by rw [h237];decide)
  rw [if_neg (show ¬ c=224 by rw [h237];decide)] at hR2
  rw [if_pos h237] at hR2;rw [if_neg (show ¬ c=240 by rw [h237];decide)] at hR2
  rw [if_neg (show ¬ c=244 by rw [h237];decide)] at hR2
  obtain ⟨q3,Q7⟩:=exq (Bx s ((i:Int)+1) 128 159);rw [Q7] at hR2;try rw [Zw] at hR2
  cases hc;refine Yv 4 ?_;have Jo:=@Zfe.eq_def;have Jj:=@Zvz;have Wx:=@Zvu;have X9:=@Zvv;have Wq:=@Zvw;have Wp:=@Zvx;have Wo:=@Zvy;have Ur:=@Zvt;have Uq:=@Zvs;have Up:=@Zvr;have Kj:=@Zvq;have Ki:=@Zvp;have Kh:=@Zm9;have Kq:Kci:=⟨⟩;exact K7
 by_cases h240:c=240
 ·have Zz:(c==224)=false:=Za.2 (by rw [h240];decide)
  have Z7:(c==237)=false:=Za.2 (by rw [h240];decide)
  have Z9:(c==240)=true:=Zm.2 h240;have Qg:(c==244)=false:=Za.2 (by rw [h240];decide)
  rw [if_neg (show ¬ c=224 by rw [h240];decide)] at hR2
  rw [if_neg (show ¬ c=237 by rw [h240];decide)] at hR2
  rw [if_pos h240] at hR2;rw [if_neg (show ¬ c=244 by rw [h240];decide)] at hR2
  obtain ⟨q4,Q0⟩:=exq (Bx s ((i:Int)+1) 144 191);rw [Q0] at hR2;try rw [Zw] at hR2
  cases hc;refine Yv 4 ?_;have Jo:=@Zfe.eq_def;have Jj:=@Zvz;have Wx:=@Zvu;have X9:=@Zvv;have Wq:=@Zvw;have Wp:=@Zvx;have Wo:=@Zvy;have Ur:=@Zvt;have Uq:=@Zvs;have Up:=@Zvr;have Kj:=@Zvq;have Ki:=@Zvp;have Kh:=@Zm9;have Kq:Kcj:=⟨⟩;exact K7
 by_cases h244:c=244
 ·have Zz:(c==224)=false:=Za.2 (by rw [h244];decide)
  have Z7:(c==237)=false:=Za.2 (by rw [h244];decide)
  have Z9:(c==240)=false:=Za.2 (by rw [h244];decide)
  have Qg:(c==244)=true:=Zm.2 h244;rw [if_neg (show ¬ c=224 by rw [h244];decide)] at hR2
  rw [if_neg (show ¬ c=237 by rw [h244];decide)] at hR2
  rw [if_neg (show ¬ c=240 by rw [h244];decide)] at hR2
  rw [if_pos h244] at hR2;obtain ⟨q4,Q0⟩:=exq (Bx s ((i:Int)+1) 128 143);rw [Q0] at hR2;try rw [Zw] at hR2
  cases hc;refine Yv 4 ?_;have Jo:=@Zfe.eq_def;have Jj:=@Zvz;have Wx:=@Zvu;have X9:=@Zvv;have Wq:=@Zvw;have Wp:=@Zvx;have Wo:=@Zvy;have Ur:=@Zvt;have Uq:=@Zvs;have Up:=@Zvr;have Kj:=@Zvq;have Ki:=@Zvp;have Kh:=@Zm9;have Kq:Kck:=⟨⟩;exact K7
 have Zz:(c==224)=false:=Za.2 h224;have Z7:(c==237)=false:=Za.2 h237;have Z9:(c==240)=false:=Za.2 h240;have Qg:(c==244)=false:=Za.2 h244;rw [if_neg h224] at hR2;rw [if_neg h237] at hR2;rw [if_neg h240] at hR2;rw [if_neg h244] at hR2;try rw [Zw] at hR2
 cases hc;refine Yv 4 ?_;have Jo:=@Zfe.eq_def;have Jj:=@Zvz;have Wx:=@Zvu;have X9:=@Zvv;have Wq:=@Zvw;have Wp:=@Zvx;have Wo:=@Zvy;have Ur:=@Zvt;have Uq:=@Zvs;have Up:=@Zvr;have Kj:=@Zvq;have Ki:=@Zvp;have Kh:=@Zm9;have Kq:Kcl:=⟨⟩;exact K7
theorem Zjl {n:Int}:Zhp .u8 n↔0≤n∧n≤255:=by
 unfold Zhp;have h1:IntKind.min .u8=0:=by decide
 have h2:IntKind.max .u8=255:=by decide
 rw [h1,h2]
def To:Con:=Xj (fun (_:UInt8)=>True) (fun c=>nP c)
structure Kcm:Prop
theorem Kcm.k (_:Kcm) (h:p:=by
 repeat' first|exact Z1|with_reducible apply Zb|intro _
 all_goals first|omega|(rw [Zjl];omega)|skip):p:=h
structure Kcn:Prop
theorem Kcn.k (_:Kcn) (h:p:=by
 repeat' first|exact Z1|with_reducible apply Zb|intro _
 all_goals first|omega|(rw [Zjl];omega)|skip):p:=h
theorem good_sixteen1:Qq Tryz.prog (247,To):=by
 obtain ⟨Kx,Kt,Kc,Kd,Kb,Ku,Kw,K,W4,_⟩:=X2 Z4 Zq [] false (Jh good_within Zcd X1);have Ko:=To.eq_def;refine Wh K Tryz.func247 [.tmp 2] rfl 14 rfl (fun c hc cvs hpre=>?_);unfold To at hpre;obtain ⟨c,rfl,-⟩:=Jr hpre;clear hpre;obtain ⟨R,Z6⟩:=exq (nP c);have hR2:=Z6;unfold nP at hR2;have Qe:((48:UInt8).toNat:Int)=48:=rfl;have Qc:((97:UInt8).toNat:Int)=97:=rfl;have w1:Wv c 48 57=true→48≤c.toNat∧c.toNat≤57:=fun h=>by
  unfold Wv at h;simp only [Zk,decide_eq_true_eq,UInt8.le_iff_toNat_le] at h;exact h
 have w2:Wv c 97 102=true→97≤c.toNat∧c.toNat≤102:=fun h=>by
  unfold Wv at h;simp only [Zk,decide_eq_true_eq,UInt8.le_iff_toNat_le] at h;exact h
 cases Qd:Wv c 48 57 with
 | true =>
  have w3:=w1 Qd;rw [if_pos Qd] at hR2;cases hc;have Qh:=@Qb7;have Qp:=@Qb6;have Kq:Kcm:=⟨⟩;exact K7
 | false =>
  rw [if_neg (by rw [Qd];simp)] at hR2
  cases Qa:Wv c 97 102 with
  | true =>
   have w3:=w2 Qa;rw [if_pos Qa] at hR2;cases hc;have Qh:=@Qb7;have Qp:=@Qb6;have Qz:=@Qb5;have Qv:=@Qbk;have Kq:Kcn:=⟨⟩;exact K7
  | false =>
   rw [if_neg (by rw [Qa];simp)] at hR2
   subst hR2;cases hc;have Qh:=@Qb7;have Qp:=@Qb6;have Qz:=@Qb5;have Qv:=@Qbk;exact Zrv
def Tw:Con:=Zeq (fun (s:List UInt8) (i:Int)=>s.length≤1000000∧0≤i∧i<s.length) (fun s i=>oJ s i.toNat)
structure Kco:Prop
theorem Kco.k (_:Kco) (h:p:=by
 repeat' first|exact Z1|with_reducible apply Zb|intro _
 all_goals first|with_reducible exact Qo|omega|(rw [Xy];omega)|(rw [Zjl];omega)|rfl|skip):p:=h
theorem good_escaped1:Qq Tryz.prog (219,Tw):=by
 obtain ⟨Kx,Kt,Kc,Kd,Kb,Ku,Kw,K,W4,_⟩:=X2 Z4 Zq [] false (Jh good_sixteen1 To.eq_def X1);have Ko:=Tw.eq_def;refine Wh K Tryz.func219 [.tmp 4,.tmp 5] rfl 66 rfl (fun c hc cvs hpre=>?_);unfold Tw at hpre;obtain ⟨s,i,rfl,hs,hi0,hi1⟩:=lS hpre;obtain ⟨i,rfl⟩:∃ n:Nat,i=n:=⟨i.toNat,by omega⟩
 clear hpre;obtain ⟨R,Z6⟩:=exq (oJ s i);have hR2:=Z6;unfold oJ at hR2;have Qd:(i:Int)+1=((i+1:Nat):Int):=rfl;have Qa:(i:Int)+2=((i+2:Nat):Int):=rfl;have Qg:(i:Int)+3=((i+3:Nat):Int):=rfl;by_cases h1:s.length≤i+1
 ·rw [if_pos h1] at hR2;have Qe:Wf (s.length:Int) ((i+1:Nat):Int)=true:=by rw [Qx];omega
  subst hR2;cases hc;refine Yv 4 ?_;exact Lp
 rw [if_neg h1] at hR2;have Qe:Wf (s.length:Int) ((i+1:Nat):Int)=false:=by rw [←Bool.not_eq_true,Qx];omega
 unfold Zyp at hR2;obtain ⟨c,Qc⟩:=exq (s.getD (i+1) 0);rw [Qc] at hR2;have Qh:((c.toNat:Int)==92)=(c==92):=Mb (b:=92);have Qz:((c.toNat:Int)==34)=(c==34):=Mb (b:=34);have Q4:((c.toNat:Int)==110)=(c==110):=Mb (b:=110);have Z3:((c.toNat:Int)==116)=(c==116):=Mb (b:=116);have Z7:((c.toNat:Int)==120)=(c==120):=Mb (b:=120);have hlt1:i+1<s.length:=by omega
 by_cases h92:c=92
 ·rw [if_pos (.inl h92)] at hR2;have Qp:(c==92)=true:=Zm.2 h92;subst hR2;cases hc;refine Yv 4 ?_;exact Lp
 have Qp:(c==92)=false:=Za.2 h92;by_cases h34:c=34
 ·rw [if_pos (.inr h34)] at hR2;have Qv:(c==34)=true:=Zm.2 h34;subst hR2;cases hc;refine Yv 4 ?_;exact Lp
 have Qv:(c==34)=false:=Za.2 h34;rw [if_neg (by simp [h92,h34])] at hR2
 by_cases h110:c=110
 ·rw [if_pos h110] at hR2;have Z0:(c==110)=true:=Zm.2 h110;subst hR2;cases hc;refine Yv 4 ?_;exact Lp
 have Z0:(c==110)=false:=Za.2 h110;rw [if_neg h110] at hR2;by_cases h116:c=116
 ·rw [if_pos h116] at hR2;have Zz:(c==116)=true:=Zm.2 h116;subst hR2;cases hc;refine Yv 4 ?_;exact Lp
 have Zz:(c==116)=false:=Za.2 h116;rw [if_neg h116] at hR2;by_cases h120:c=120
 case neg =>
  have Z9:(c==120)=false:=Za.2 h120;rw [if_neg (fun h=>h120 h.1)] at hR2;subst hR2;cases hc;refine Yv 4 ?_;exact Lp
 have Z9:(c==120)=true:=Zm.2 h120;by_cases h3:i+3<s.length
 case neg =>
  have Zv:Yi ((i+3:Nat):Int) (s.length:Int)=false:=by rw [Q9];omega
  rw [if_neg (fun h=>h3 h.2.1)] at hR2;subst hR2;cases hc;refine Yv 4 ?_;exact Lp
 have Zv:Yi ((i+3:Nat):Int) (s.length:Int)=true:=by rw [Xa];omega
 obtain ⟨a,Zw⟩:=exq (s.getD (i+2) 0);obtain ⟨b,Qn⟩:=exq (s.getD (i+3) 0);rw [Zw,Qn] at hR2;have ga:=Zpz (c:=a);have gb:=Zpz (c:=b);obtain ⟨x,Q6⟩:=exq (nP a);obtain ⟨y,Ja⟩:=exq (nP b);rw [Q6] at ga;rw [Ja] at gb;rw [Q6,Ja] at hR2;by_cases hx0:0≤x
 case neg =>
  have Q5:Wf 0 x=false:=by rw [←Bool.not_eq_true,Qx];exact hx0
  rw [if_neg (fun h=>hx0 h.2.2.1)] at hR2;subst hR2;cases hc;refine Yv 4 ?_;exact Lp
 have Q5:Wf 0 x=true:=by rw [Qx];exact hx0
 by_cases hy0:0≤y
 case neg =>
  have Q7:Wf 0 y=false:=by rw [←Bool.not_eq_true,Qx];exact hy0
  rw [if_neg (fun h=>hy0 h.2.2.2)] at hR2;subst hR2;cases hc;refine Yv 4 ?_;exact Lp
 have Q7:Wf 0 y=true:=by rw [Qx];exact hy0
 rw [if_pos ⟨h120,h3,hx0,hy0⟩] at hR2;subst hR2;cases hc;refine Yv 4 ?_;have Kq:Kco:=⟨⟩;exact K7
def Tz:Con:=Uk (fun (s:List UInt8)=>s.length≤1000000) (fun s=>Ik s)
structure Kcq:Prop
theorem Kcq.k (_:Kcq) (h:p:=by
 repeat' first|exact Z1|with_reducible apply Zb|intro _
 all_goals first|omega|(rw [Xy];omega)|(simp only [Zh];omega)|exact ⟨(f,i+en,out++et),by exact Qk,by simp only;omega,by simp only;omega,by simp only;omega,by simp only [Zh];omega,h5,by simp only;omega⟩|skip):p:=h
structure Kcr:Prop
theorem Kcr.k (_:Kcr) (h:p:=by
 repeat' first|exact Z1|with_reducible apply Zb|intro _
 all_goals first|omega|(rw [Xy];omega)|(rw [Zh,hpl];omega)|exact ⟨(f,i+n,out++(s.take (i+n)).drop i),by exact Qk,by simp only;omega,by simp only;omega,by simp only;omega,by simp only [Zh,hpl];omega,h5,by simp only;omega⟩|skip):p:=h
structure Kcp:Prop
theorem Kcp.k (_:Kcp) (h:p:=by
 repeat' first|exact Z1|with_reducible apply Zb|intro _
 all_goals try omega
 refine Zi [2,3,4,7,8,9,10,19,20,21,22,23,24,25,26,27,28,29,30,31,32,33,34,35,36,37,38,39,40,41,42,43,44,45,46,47,48,49,50,51,52,53,54,55,56,57,58,59,60,61,62,63,64,65,66,67,68,69,70,71,72] (fun p:Nat×Nat×List UInt8=>[(5,.d (.str p.2.2)),(6,.d (.int .i64 p.2.1))]) (fun p:Nat×Nat×List UInt8=>[]) (fun p:Nat×Nat×List UInt8=>s.length≤p.1+p.2.1∧1≤p.2.1∧p.2.1≤s.length∧p.2.2.length≤p.2.1∧dM p.1 s p.2.1 p.2.2=R) (fun p:Nat×Nat×List UInt8=>s.length-p.2.1) (s.length,1,[]) ?_ ?_ ?_
 ·exact ⟨by simp,by simp,by simp only;omega,by simp,hR2⟩
 ·exact Qk
 rintro ⟨f,i,out⟩ ⟨h1,h2,h3,h4,h5⟩;simp only at h1 h2 h3 h4 h5;rcases Zn i s.length with ⟨hlt,Qh⟩|⟨hlt,Qh⟩
 ·obtain ⟨f,rfl⟩:∃ g,f=g+1:=⟨f-1,by omega⟩
  rw [dM,if_neg (by omega)] at h5
  have hlo:=Zl0 hlt;have hes:=Zq1 (s:=s) hlt;obtain ⟨x,Qp⟩:=exq (s.getD i 0);rw [Qp] at h5;have Qz:((x.toNat:Int)==34)=(x==34):=Mb (b:=34);have Z3:Yi (x.toNat:Int) 32=decide (x<32):=Zuk (b:=32);have Z7:((x.toNat:Int)==127)=(x==127):=Mb (b:=127);have Qg:((x.toNat:Int)==92)=(x==92):=Mb (b:=92);by_cases hq:x=34
  ·rw [if_pos hq] at h5;have Qv:(x==34)=true:=Zm.2 hq;subst h5;exact Lp
  rw [if_neg hq] at h5;have Qv:(x==34)=false:=Za.2 hq;obtain ⟨n,Q4⟩:=exq (gC s i);rw [Q4] at h5 hlo;by_cases hbad:n=0∨x<32∨x=127
  ·rw [if_pos hbad] at h5;subst h5;by_cases b1:n=0
   ·have Z0:((n:Int)==0)=true:=by rw [Zm];omega
    exact Lp
   have Z0:((n:Int)==0)=false:=by rw [Za];omega
   by_cases b2:x<32
   ·have Zz:decide (x<32)=true:=decide_eq_true b2;exact Lp
   have Zz:decide (x<32)=false:=decide_eq_false b2;have b3:x=127:=by rcases hbad with h|h|h<;>first|exact h|contradiction
   have Z9:(x==127)=true:=Zm.2 b3;exact Lp
  ·rw [if_neg hbad] at h5;have Z0:((n:Int)==0)=false:=by rw [Za];intro e;exact hbad (.inl (by omega))
   have Zz:decide (x<32)=false:=decide_eq_false fun h=>hbad (.inr (.inl h));have Z9:(x==127)=false:=Za.2 fun h=>hbad (.inr (.inr h));have hn1:1≤n:=by have:n≠0:=fun e=>hbad (.inl e);omega
   have Q6:(i:Int)+(n:Int)=((i+n:Nat):Int):=rfl;by_cases he:x=92
   ·rw [if_pos he] at h5;have Zv:(x==92)=true:=Zm.2 he;obtain ⟨⟨et,en⟩,Zw⟩:=exq (oJ s i);rw [Zw] at h5 hes;simp only at h5 hes;by_cases hz0:en=0
    ·rw [if_pos hz0] at h5;have Qn:(en==0)=true:=Zm.2 hz0;subst h5;exact Lp
    rw [if_neg hz0] at h5;have Qn:(en==0)=false:=Za.2 hz0;obtain ⟨en,rfl⟩:∃ m:Nat,en=m:=⟨en.toNat,by omega⟩
    rw [Zf] at h5 hes;have Kq:Kcq:=⟨⟩;exact K7
   ·rw [if_neg he] at h5;have Zv:(x==92)=false:=Za.2 he;have hpl:((s.take (i+n)).drop i).length=n:=by rw [List.length_drop,List.length_take];omega
    have Kq:Kcr:=⟨⟩;exact K7
 ·have hil:i=s.length:=by omega
  have hr:R=([],0,2):=by
   rw [←h5];cases f with
   | zero=>rfl
   | succ f=>rw [dM,if_pos (by omega)]
  subst hr;exact Zrv):p:=h
theorem good_Unquote1:Qq Tryz.prog (177,Tz):=by
 obtain ⟨Kx,Kt,Kc,Kd,Kb,Ku,Kw,K,W4,Gd,_⟩:=X2 Z4 Zq [] false (Jh good_Long1 cQ.eq_def (Jh good_escaped1 Tw.eq_def X1));have Ko:=Tz.eq_def;refine Wh K Tryz.func177 [.tmp 2,.tmp 3,.tmp 4] rfl 73 rfl (fun c hc cvs hpre=>?_);unfold Tz at hpre;obtain ⟨s,rfl,hs⟩:=Zer hpre;clear hpre;obtain ⟨R,Qe⟩:=exq (Ik s);have hR2:=Qe;unfold Ik at hR2;by_cases h0:s.length=0
 ·rw [if_pos (.inl h0)] at hR2;have Qd:((s.length:Int)==0)=true:=by rw [Zm];omega
  subst hR2;cases hc;refine Yv 4 ?_;exact Zrv
 have Qd:((s.length:Int)==0)=false:=by rw [Za];omega
 obtain ⟨c,Z6⟩:=exq (s.getD 0 0);rw [Z6] at hR2;have Qa:((c.toNat:Int) != 34)=(c != 34):=by rw [bne,bne];exact congrArg _ (Mb (b:=34))
 by_cases h34:c=34
 case neg =>
  rw [if_pos (.inr h34)] at hR2;have Qc:(c != 34)=true:=bne_iff_ne.2 h34;subst hR2;cases hc;refine Yv 4 ?_;have Q5:=@Int.toNat_zero;exact Lp
 rw [if_neg (by simp [h0,h34])] at hR2
 have Qc:(c != 34)=false:=by rw [h34];rfl
 cases hc;refine Yv 4 ?_;have Q5:=@Int.toNat_zero;have Kq:Kcp:=⟨⟩;exact K7
end Go.Am.Ty
