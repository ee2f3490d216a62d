/- Contracts of functions that the law reaches, and plain laws. Conditions: those that each contract states. -/
import Derived.Test.YtilpfkjhahnfaaaGreatK4
import Derived.Test.YtilpfkjhahnfaaaGreatChecked
import Derived.Sort.Walk0
set_option maxHeartbeats 4000000
set_option linter.unusedVariables false
set_option linter.unusedSimpArgs false
set_option maxRecDepth 100000
namespace Go.Am
open Enc (enc dec)
theorem wU:type_of% @R0.eq_def:=@R0.eq_def
theorem wT:type_of% @bV.eq_def:=@bV.eq_def
theorem wS:type_of% @K2.eq_def:=@K2.eq_def
theorem wR:type_of% @J5.eq_def:=@J5.eq_def
theorem wP:type_of% @AS.put.eq_def:=@AS.put.eq_def
theorem wO:type_of% @Av.eq_def:=@Av.eq_def
theorem wN:type_of% @jW.eq_def:=@jW.eq_def
theorem wM:type_of% @Ctx.one.eq_def:=@Ctx.one.eq_def
theorem wL:type_of% @Po.eq_def:=@Po.eq_def
theorem wI:type_of% @Q8.eq_def:=@Q8.eq_def
theorem wH:type_of% @Za5.eq_def:=@Za5.eq_def
theorem wG:type_of% @Tw.eq_def:=@Tw.eq_def
theorem wF:type_of% @Te.eq_def:=@Te.eq_def
theorem wE:type_of% @Ctx.esize.eq_def:=@Ctx.esize.eq_def
theorem wD:type_of% @Ctx.size.eq_def:=@Ctx.size.eq_def
theorem wC:type_of% @Ctx.ag.eq_def:=@Ctx.ag.eq_def
theorem wB:type_of% @TK.ag.eq_def:=@TK.ag.eq_def
theorem wA:type_of% @Ctx.elemT.eq_def:=@Ctx.elemT.eq_def
theorem wK:type_of% @Ctx.fieldAt.eq_def:=@Ctx.fieldAt.eq_def
theorem wW:type_of% @Zht.eq_def:=@Zht.eq_def
theorem wV:type_of% @C3.eq_def:=@C3.eq_def
theorem wY:type_of% @Aq.eq_def:=@Aq.eq_def
theorem wJ:type_of% @Ij.eq_def:=@Ij.eq_def
theorem wX:type_of% @K9.eq_def:=@K9.eq_def
theorem wZ:type_of% @Ez.eq_def:=@Ez.eq_def
theorem wQ:type_of% @K8.eq_def:=@K8.eq_def
theorem vU:type_of% @Ey.eq_def:=@Ey.eq_def
theorem vT:type_of% @Ik.eq_def:=@Ik.eq_def
theorem vS:type_of% @Ga.eq_def:=@Ga.eq_def
theorem vR:type_of% @Il.eq_def:=@Il.eq_def
theorem vP:type_of% @Nk.eq_def:=@Nk.eq_def
theorem vO:type_of% @Kn.eq_def:=@Kn.eq_def
theorem vN:type_of% @C2.eq_def:=@C2.eq_def
theorem vM:type_of% @Zdz.eq_def:=@Zdz.eq_def
theorem vL:type_of% @Zga.eq_def:=@Zga.eq_def
theorem vI:type_of% @Zgb.eq_def:=@Zgb.eq_def
theorem vH:type_of% @Ar.eq_def:=@Ar.eq_def
theorem vG:type_of% @Pm.eq_def:=@Pm.eq_def
theorem vF:type_of% @Oz.eq_def:=@Oz.eq_def
theorem vE:type_of% @gU.eq_def:=@gU.eq_def
theorem vD:type_of% @cA.eq_def:=@cA.eq_def
theorem vC:type_of% @Zo1.eq_def:=@Zo1.eq_def
theorem vB:type_of% @Wv.eq_def:=@Wv.eq_def
theorem vA:type_of% @Oa.eq_def:=@Oa.eq_def
theorem vK:type_of% @Mn.eq_def:=@Mn.eq_def
theorem vW:type_of% @yI.eq_def:=@yI.eq_def
theorem vV:type_of% @dD.eq_def:=@dD.eq_def
theorem vY:type_of% @Zdk.eq_def:=@Zdk.eq_def
theorem vJ:type_of% @Zhx.eq_def:=@Zhx.eq_def
theorem vX:type_of% @Tb.eq_def:=@Tb.eq_def
theorem vZ:type_of% @AV.fits.eq_def:=@AV.fits.eq_def
theorem vQ:type_of% @Obj.isBox.eq_def:=@Obj.isBox.eq_def
theorem uU:type_of% @Zcv.eq_def:=@Zcv.eq_def
theorem uT:type_of% @yV.eq_def:=@yV.eq_def
theorem uS:type_of% @Znj.eq_def:=@Znj.eq_def
theorem uR:type_of% @Zb1.eq_def:=@Zb1.eq_def
theorem uP:type_of% @D1.eq_def:=@D1.eq_def
theorem uO:type_of% @Zml.eq_def:=@Zml.eq_def
theorem uN:type_of% @eB.eq_def:=@eB.eq_def
theorem uM:type_of% @rk.eq_def:=@rk.eq_def
theorem uL:type_of% @Zh9.eq_def:=@Zh9.eq_def
theorem uI:type_of% @Zkt.eq_def:=@Zkt.eq_def
theorem uH:type_of% @yE.eq_def:=@yE.eq_def
theorem uG:type_of% @fH.eq_def:=@fH.eq_def
theorem uF:type_of% @SK.is.eq_def:=@SK.is.eq_def
theorem uE:type_of% @xN.eq_def:=@xN.eq_def
theorem uD:type_of% @Zei.eq_def:=@Zei.eq_def
theorem uC:type_of% @AS.ev.eq_def:=@AS.ev.eq_def
theorem uB:type_of% @Jb.eq_def:=@Jb.eq_def
theorem uA:type_of% @Zbz.eq_def:=@Zbz.eq_def
theorem uK:type_of% @keysAll.eq_def:=@keysAll.eq_def
theorem uW:type_of% @AV.keys.eq_def:=@AV.keys.eq_def
theorem uV:type_of% @Y7.eq_def:=@Y7.eq_def
theorem uY:type_of% @Ye.eq_def:=@Ye.eq_def
theorem uJ:type_of% @Ni.eq_def:=@Ni.eq_def
theorem uX:type_of% @xM.eq_def:=@xM.eq_def
theorem uZ:type_of% @Kz.eq_def:=@Kz.eq_def
theorem uQ:type_of% @eX.eq_def:=@eX.eq_def
theorem tU:type_of% @Tc.eq_def:=@Tc.eq_def
theorem tT:type_of% @Tl.eq_def:=@Tl.eq_def
theorem tS:type_of% @bB.eq_def:=@bB.eq_def
theorem tR:type_of% @Ww.eq_def:=@Ww.eq_def
theorem tP:type_of% @lk.eq_def:=@lk.eq_def
theorem tO:type_of% @upd.eq_def:=@upd.eq_def
theorem tN:type_of% @Zm3.eq_def:=@Zm3.eq_def
theorem tM:type_of% @Cq.eq_def:=@Cq.eq_def
theorem tL:type_of% @Zm4.eq_def:=@Zm4.eq_def
theorem tI:type_of% @A8.eq_def:=@A8.eq_def
theorem tH:type_of% @rnA.eq_def:=@rnA.eq_def
theorem tG:type_of% @rnAs.eq_def:=@rnAs.eq_def
theorem tF:type_of% @Ya.eq_def:=@Ya.eq_def
theorem tE:type_of% @Mp.eq_def:=@Mp.eq_def
theorem tD:type_of% @Wt.eq_def:=@Wt.eq_def
theorem tC:type_of% @Ef.eq_def:=@Ef.eq_def
theorem tB:type_of% @Zdy.eq_def:=@Zdy.eq_def
theorem tA:type_of% @AV.off.eq_def:=@AV.off.eq_def
theorem tK:type_of% @offAll.eq_def:=@offAll.eq_def
theorem tW:type_of% @V9.eq_def:=@V9.eq_def
theorem tV:type_of% @gM.eq_def:=@gM.eq_def
theorem tY:type_of% @Wl.eq_def:=@Wl.eq_def
theorem tJ:type_of% @Option.toList.eq_def:=@Option.toList.eq_def
theorem tX:type_of% @Nd.eq_def:=@Nd.eq_def
theorem tZ:type_of% @U8.eq_def:=@U8.eq_def
theorem tQ:type_of% @P6.eq_def:=@P6.eq_def
theorem sU:type_of% @K5.eq_1:=@K5.eq_1
theorem sT:type_of% @K5.eq_2:=@K5.eq_2
theorem sS:type_of% @Lq.eq_1:=@Lq.eq_1
theorem sR:type_of% @Lq.eq_2:=@Lq.eq_2
theorem sP:type_of% @Pe.eq_1:=@Pe.eq_1
theorem sO:type_of% @Pe.eq_2:=@Pe.eq_2
theorem sN:type_of% @Pe.eq_3:=@Pe.eq_3
theorem sM:type_of% @Pe.eq_4:=@Pe.eq_4
theorem sL:type_of% @cB.eq_1:=@cB.eq_1
theorem sI:type_of% @cB.eq_2:=@cB.eq_2
theorem sH:type_of% @cB.eq_3:=@cB.eq_3
theorem sG:type_of% @Hb.eq_1:=@Hb.eq_1
theorem sF:type_of% @Hb.eq_2:=@Hb.eq_2
theorem sE:type_of% @Hb.eq_3:=@Hb.eq_3
theorem sD:type_of% @B7.eq_1:=@B7.eq_1
theorem sC:type_of% @B7.eq_2:=@B7.eq_2
theorem sB:type_of% @M0.eq_1:=@M0.eq_1
theorem sA:type_of% @M0.eq_2:=@M0.eq_2
theorem sK:type_of% @pur.eq_1:=@pur.eq_1
theorem sW:type_of% @pur.eq_2:=@pur.eq_2
theorem sV:type_of% @pur.eq_3:=@pur.eq_3
theorem sY:type_of% @pur.eq_4:=@pur.eq_4
theorem sJ:type_of% @pur.eq_5:=@pur.eq_5
theorem sX:type_of% @pur.eq_6:=@pur.eq_6
theorem sZ:type_of% @pur.eq_7:=@pur.eq_7
theorem sQ:type_of% @pur.eq_8:=@pur.eq_8
theorem rU:type_of% @purs.eq_1:=@purs.eq_1
theorem rT:type_of% @purs.eq_2:=@purs.eq_2
theorem rS:type_of% @purs.eq_3:=@purs.eq_3
theorem rR:type_of% @Zj3.eq_1:=@Zj3.eq_1
theorem rP:type_of% @Zj3.eq_2:=@Zj3.eq_2
theorem rO:type_of% @D.asAgg.eq_1:=@D.asAgg.eq_1
theorem rN:type_of% @D.setCell.eq_1:=@D.setCell.eq_1
theorem rM:type_of% @AV.cells.eq_1:=@AV.cells.eq_1
theorem rL:type_of% @AV.cells.eq_2:=@AV.cells.eq_2
theorem rI:type_of% @V8.eq_1:=@V8.eq_1
theorem rH:type_of% @Xy.eq_1:=@Xy.eq_1
theorem rG:type_of% @Wc.eq_1:=@Wc.eq_1
theorem rF:type_of% @Um.eq_1:=@Um.eq_1
theorem rE:type_of% @Zab.eq_1:=@Zab.eq_1
theorem rD:type_of% @Wq.eq_1:=@Wq.eq_1
theorem rC:type_of% @Mb.eq_1:=@Mb.eq_1
theorem rB:type_of% @Mb.eq_2:=@Mb.eq_2
theorem rA:type_of% @D.eqb.eq_1:=@D.eqb.eq_1
theorem rK:type_of% @D.eqb.eq_2:=@D.eqb.eq_2
theorem rW:type_of% @D.eqb.eq_3:=@D.eqb.eq_3
theorem rV:type_of% @Zew:=@Zew
theorem rY:type_of% @jJ:=@jJ
theorem rJ:type_of% @Zez:=@Zez
theorem rX:type_of% @Zh4:=@Zh4
theorem rZ:type_of% @fP:=@fP
theorem rQ:type_of% @fR:=@fR
theorem qU:type_of% @Zah:=@Zah
theorem qT:type_of% @Zex:=@Zex
theorem qS:type_of% @Zey:=@Zey
theorem qR:type_of% @Zh5:=@Zh5
theorem qP:type_of% @Zrm:=@Zrm
theorem qO:type_of% @fO:=@fO
theorem qN:type_of% @dV:=@dV
theorem qM:type_of% @Zrq:=@Zrq
theorem qL:type_of% @Zrp:=@Zrp
theorem qI:type_of% @Zro:=@Zro
theorem qH:type_of% @Zrn:=@Zrn
theorem qG:type_of% @Zrh:=@Zrh
theorem qF:type_of% @Zrg:=@Zrg
theorem qE:type_of% @Zrf:=@Zrf
theorem qD:type_of% @Zre:=@Zre
theorem qC:type_of% @Zrd:=@Zrd
theorem qB:type_of% @Zrc:=@Zrc
theorem qA:type_of% @Zr0:=@Zr0
theorem qK:type_of% @Zrz:=@Zrz
theorem qW:type_of% @Zry:=@Zry
theorem qV:type_of% @Zrx:=@Zrx
theorem qY:type_of% @Zrw:=@Zrw
theorem qJ:type_of% @Zrv:=@Zrv
theorem qX:type_of% @Zr3:=@Zr3
theorem qZ:type_of% @Zr2:=@Zr2
theorem qQ:type_of% @Zrl:=@Zrl
theorem pU:type_of% @Zrk:=@Zrk
theorem pT:type_of% @Zru:=@Zru
theorem pS:type_of% @Zrt:=@Zrt
theorem pR:type_of% @Zrs:=@Zrs
theorem pP:type_of% @Zrr:=@Zrr
theorem pO:type_of% @Zrj:=@Zrj
theorem pN:type_of% @Zkp:=@Zkp
theorem pM:type_of% @Zha:=@Zha
theorem pL:type_of% @Znp:=@Znp
theorem pI:type_of% @Zno:=@Zno
theorem pH:type_of% @Znr:=@Znr
theorem pG:type_of% @Znq:=@Znq
theorem pF:type_of% @Zkq:=@Zkq
theorem pE:type_of% @Zkr:=@Zkr
theorem pD:type_of% @O3:=@O3
theorem pC:type_of% @Lb:=@Lb
theorem pB:type_of% @gL:=@gL
theorem pA:type_of% @G9:=@G9
theorem pK:type_of% @Zhs:=@Zhs
theorem pW:type_of% @Zbu:=@Zbu
theorem pV:type_of% @Zg9:=@Zg9
theorem pY:type_of% @Zbe:=@Zbe
theorem pJ:type_of% @Fw:=@Fw
theorem pX:type_of% @So:=@So
theorem pZ:type_of% @Fv:=@Fv
theorem pQ:type_of% @Sn:=@Sn
theorem oU:type_of% @Bj:=@Bj
theorem oT:type_of% @O9:=@O9
theorem oS:type_of% @F7:=@F7
theorem oR:type_of% @O7:=@O7
theorem oP:type_of% @F5:=@F5
theorem oO:type_of% @aZ:=@aZ
theorem oN:type_of% @O8:=@O8
theorem oM:type_of% @aQ:=@aQ
theorem oL:type_of% @F3:=@F3
theorem oI:type_of% @F4:=@F4
theorem oH:type_of% @aS:=@aS
theorem oG:type_of% @Ry:=@Ry
theorem oF:type_of% @aO:=@aO
theorem oE:type_of% @Rv:=@Rv
theorem oD:type_of% @aT:=@aT
theorem oC:type_of% @aR:=@aR
theorem oB:type_of% @aU:=@aU
theorem oA:type_of% @encI_def:=@encI_def
theorem oK:type_of% @encB_def:=@encB_def
theorem oW:type_of% @encS_def:=@encS_def
theorem oV:type_of% @Zhm:=@Zhm
theorem oY:type_of% @C1:=@C1
theorem oJ:type_of% @F6:=@F6
theorem oX:type_of% @Rw:=@Rw
theorem oZ:type_of% @Zqu:=@Zqu
theorem oQ:type_of% @Zqv:=@Zqv
theorem nU:type_of% @Zqs:=@Zqs
theorem nT:type_of% @Zqt:=@Zqt
theorem nS:type_of% @List.getD_cons_zero:=@List.getD_cons_zero
theorem nR:type_of% @List.getD_cons_succ:=@List.getD_cons_succ
theorem nP:type_of% @List.set_cons_zero:=@List.set_cons_zero
theorem nO:type_of% @List.set_cons_succ:=@List.set_cons_succ
theorem nN:type_of% @List.cons_append:=@List.cons_append
theorem nM:type_of% @List.nil_append:=@List.nil_append
theorem nL:type_of% @List.take_succ_cons:=@List.take_succ_cons
theorem nI:type_of% @List.take_zero:=@List.take_zero
theorem nH:type_of% @List.drop_succ_cons:=@List.drop_succ_cons
theorem nG:type_of% @List.drop_zero:=@List.drop_zero
theorem nF:type_of% @fJ:=@fJ
theorem nE:type_of% @aD:=@aD
theorem nD:type_of% @fX:=@fX
theorem nC:type_of% @aC:=@aC
theorem nB:type_of% @Jg:=@Jg
theorem nA:type_of% @Jz:=@Jz
theorem nK:type_of% @fZ:=@fZ
theorem nW:type_of% @Ov:=@Ov
theorem nV:type_of% @fQ:=@fQ
theorem nY:type_of% @Ou:=@Ou
theorem nJ:type_of% @Bool.not_true:=@Bool.not_true
theorem nX:type_of% @Bool.not_false:=@Bool.not_false
theorem nZ:type_of% @Bool.not_not:=@Bool.not_not
theorem nQ:type_of% @Int.toNat_natCast:=@Int.toNat_natCast
theorem mU:type_of% @Int.toNat_zero:=@Int.toNat_zero
theorem mT:type_of% @Zg6:=@Zg6
theorem mS:type_of% @Zq4:=@Zq4
theorem mR:type_of% @Zri:=@Zri
theorem mP:type_of% @Zpj:=@Zpj
theorem mO:type_of% @Zpi:=@Zpi
theorem mN:type_of% @Zpe:=@Zpe
theorem mM:type_of% @Zpd:=@Zpd
theorem mL:type_of% @Zpc:=@Zpc
theorem mI:type_of% @Zo6:=@Zo6
theorem mH:type_of% @Zo5:=@Zo5
theorem mG:type_of% @Zo4:=@Zo4
theorem mF:type_of% @Zpb:=@Zpb
theorem mE:type_of% @Zpa:=@Zpa
theorem mD:type_of% @Zo9:=@Zo9
theorem mC:type_of% @Zo8:=@Zo8
theorem mB:type_of% @Zo7:=@Zo7
theorem mA:type_of% @Zpg:=@Zpg
theorem mK:type_of% @Zpf:=@Zpf
theorem mW:type_of% @Zpk:=@Zpk
theorem mV:type_of% @Zns:=@Zns
theorem mY:type_of% @Zpr:=@Zpr
theorem mJ:type_of% @Zpq:=@Zpq
theorem mX:type_of% @Zpp:=@Zpp
theorem mZ:type_of% @Zpo:=@Zpo
theorem mQ:type_of% @Zpn:=@Zpn
theorem lU:type_of% @Zpm:=@Zpm
theorem lT:type_of% @Zr1:=@Zr1
theorem lS:type_of% @Bool.and_true:=@Bool.and_true
theorem lR:type_of% @Bool.true_and:=@Bool.true_and
theorem lP:type_of% @Bool.and_false:=@Bool.and_false
theorem lO:type_of% @Bool.false_and:=@Bool.false_and
theorem lN:type_of% @Zqa:=@Zqa
theorem lM:type_of% @Zp9:=@Zp9
theorem lL:type_of% @Zp8:=@Zp8
theorem lI:type_of% @Zp7:=@Zp7
theorem lH:type_of% @Zp6:=@Zp6
theorem lG:type_of% @Zp5:=@Zp5
theorem lF:type_of% @Zp4:=@Zp4
theorem lE:type_of% @Zp3:=@Zp3
theorem lD:type_of% @Zp2:=@Zp2
theorem lC:type_of% @Zp1:=@Zp1
theorem lB:type_of% @Zp0:=@Zp0
theorem lA:type_of% @Zpz:=@Zpz
theorem lK:type_of% @Zpy:=@Zpy
theorem lW:type_of% @Zpx:=@Zpx
theorem lV:type_of% @Zpw:=@Zpw
theorem lY:type_of% @Bool.true_eq_false:=@Bool.true_eq_false
theorem lJ:type_of% @Bool.false_eq_true:=@Bool.false_eq_true
theorem lX:type_of% @true_and:=@true_and
theorem lZ:type_of% @and_true:=@and_true
theorem lQ:type_of% @and_assoc:=@and_assoc
theorem kU:type_of% @List.length_map:=@List.length_map
theorem kT:type_of% @List.append_nil:=@List.append_nil
theorem kS:type_of% @List.getD_nil:=@List.getD_nil
theorem kR:type_of% @aX.eq_def:=@aX.eq_def
theorem kP:type_of% @Zpv:=@Zpv
theorem kO:type_of% @Zdd.eq_def:=@Zdd.eq_def
theorem kN:type_of% @cQ.eq_def:=@cQ.eq_def
theorem kM:type_of% @Sp.eq_def:=@Sp.eq_def
theorem kL:type_of% @Nj.eq_def:=@Nj.eq_def
theorem kI:type_of% @T1.eq_def:=@T1.eq_def
theorem kH:type_of% @Lf.eq_def:=@Lf.eq_def
theorem kG:type_of% @Ka.eq_def:=@Ka.eq_def
theorem kF:type_of% @Ctx.mapE.eq_def:=@Ctx.mapE.eq_def
theorem kE:type_of% @Zpu:=@Zpu
theorem kD:type_of% @Zpt:=@Zpt
theorem kC:type_of% @Zps:=@Zps
theorem kB:type_of% @pur.eq_9:=@pur.eq_9
theorem kA:type_of% @Zd5:=@Zd5
theorem kK:type_of% @zI:=@zI
theorem kW:type_of% @Zep:=@Zep
theorem kV:type_of% @Zb4.eq_def:=@Zb4.eq_def
theorem kY:type_of% @Zcw.eq_def:=@Zcw.eq_def
theorem kJ:type_of% @Zpl:=@Zpl
theorem kX:type_of% @X1.eq_def:=@X1.eq_def
theorem kZ:type_of% @E0.eq_def:=@E0.eq_def
theorem kQ:type_of% @Znm.eq_1:=@Znm.eq_1
theorem jU:type_of% @Znm.eq_2:=@Znm.eq_2
theorem jT:type_of% @Zmm.eq_1:=@Zmm.eq_1
theorem jS:type_of% @Zmm.eq_2:=@Zmm.eq_2
theorem jR:type_of% @iJ.eq_def:=@iJ.eq_def
theorem jP:type_of% @E5.eq_def:=@E5.eq_def
theorem jO:type_of% @D6.eq_def:=@D6.eq_def
theorem jN:type_of% @Lh.eq_def:=@Lh.eq_def
theorem jM:type_of% @Nl.eq_def:=@Nl.eq_def
theorem jL:type_of% @Km.eq_def:=@Km.eq_def
theorem jI:type_of% @Me.eq_def:=@Me.eq_def
theorem Zhf:type_of% @Int.ofNat_eq_natCast:=@Int.ofNat_eq_natCast
theorem Ix:(type_of% @List.length_cons.{0})∧(type_of% @List.length_nil.{0})∧(type_of% @List.cons_append.{0})∧(type_of% @List.nil_append.{0})∧(type_of% @and_assoc)∧(type_of% @true_and)∧(type_of% @and_true)∧(type_of% @List.map_cons.{0,0})∧(type_of% @List.map_nil.{0,0})∧(type_of% @Fw)∧(type_of% @So)∧(type_of% @Fv)∧(type_of% @Sn)∧(type_of% @Bj)∧(type_of% @Zhs)∧(type_of% @Zbu)∧(type_of% @Zg9)∧(type_of% @Zbe)∧(type_of% @O9)∧(type_of% @F7)∧(type_of% @O7)∧(type_of% @F5)∧(type_of% @aZ)∧(type_of% @O8)∧(type_of% @aQ)∧(type_of% @F3)∧(type_of% @F4)∧(type_of% @aS)∧(type_of% @Ry)∧(type_of% @aO)∧(type_of% @Rv)∧(type_of% @aT)∧(type_of% @aR)∧(type_of% @aU)∧(type_of% @encI_def)∧(type_of% @encB_def)∧(type_of% @encS_def)∧(type_of% @Znx)∧(type_of% @Zn0)∧(type_of% @Znn)∧(type_of% @zC)∧(type_of% @gS)∧(type_of% @zB)∧(type_of% @zM)∧(type_of% @Zae)∧(type_of% @zN)∧(type_of% @Zaf)∧(type_of% @zL)∧(type_of% @Zad)∧(type_of% @Ox)∧(type_of% @Zhm)∧(type_of% @C1)∧(type_of% @F6)∧(type_of% @Rw)∧(type_of% @fJ)∧(type_of% @aD)∧(type_of% @fX)∧(type_of% @aC)∧(type_of% @fZ)∧(type_of% @Ov)∧(type_of% @fQ)∧(type_of% @Ou)∧(type_of% @Jg)∧(type_of% @Jj)∧(type_of% @Zho)∧(type_of% @Jz)∧(type_of% @Jw)∧(type_of% @Q3)∧(type_of% @Qp)∧(type_of% @Fu)∧(type_of% @Zqu)∧(type_of% @Zqv)∧(type_of% @Zqs)∧(type_of% @Zqt)∧(type_of% @Znz)∧(type_of% @Zqg)∧(type_of% @Zo2)∧(type_of% @Znv)∧(type_of% @Zqh)∧(type_of% @Zq4)∧(type_of% @List.length_map.{0,0})∧(type_of% @List.length_append.{0})∧(type_of% @List.length_replicate.{0})∧(type_of% @Int.toNat_natCast)∧(type_of% @Bool.not_true)∧(type_of% @Bool.not_false)∧(type_of% @Bool.not_not)∧(type_of% @decide_true)∧(type_of% @decide_false)∧(type_of% @Bool.and_true)∧(type_of% @Bool.true_and)∧(type_of% @Bool.and_false)∧(type_of% @Bool.false_and)∧(type_of% @Bool.or_true)∧(type_of% @Bool.true_or)∧(type_of% @Bool.or_false)∧(type_of% @Bool.false_or)∧(type_of% @List.length_singleton.{0})∧(type_of% @decide_eq_true_eq)∧(type_of% @decide_eq_false_iff_not)∧(type_of% @beq_iff_eq.{0})∧(type_of% @beq_eq_false_iff_ne.{0})∧(type_of% @bne_iff_ne.{0})∧(type_of% @bne_eq_false_iff_eq.{0})∧(type_of% @Bool.not_eq_true')∧(type_of% @Bool.not_eq_false')∧(type_of% @forall_const.{1})∧(type_of% @true_imp_iff)∧(type_of% @false_imp_iff)∧(type_of% @if_true.{1})∧(type_of% @if_false.{1})∧(type_of% @and_self)∧(type_of% @or_self)∧(type_of% @not_true)∧(type_of% @not_false_eq_true)∧(type_of% @List.append_nil.{0})∧(type_of% @D.bool.injEq)∧(type_of% @D.int.injEq)∧(type_of% @D.str.injEq)∧(type_of% @D.list.injEq)∧(type_of% @D.agg.injEq)∧(type_of% @bne_self_eq_false.{0})∧(type_of% @CV.d.injEq)∧(type_of% @CV.own.injEq)∧(type_of% @CV.tup.injEq)∧(type_of% @List.cons.injEq.{0})∧(type_of% @List.toList_toArray.{0})∧(type_of% @Option.some.injEq.{0})∧(type_of% @Prod.mk.injEq.{0,0})∧(type_of% @List.take_succ_cons.{0})∧(type_of% @List.take_zero.{0})∧(type_of% @List.drop_succ_cons.{0})∧(type_of% @List.drop_zero.{0})∧(type_of% @List.getD_nil.{0})∧(type_of% @map_snoc)∧(type_of% @yN)∧(type_of% @yO)∧(type_of% @yM)∧(type_of% @Zhi)∧(type_of% @List.not_mem_nil.{0})∧(type_of% @false_implies)∧(type_of% @implies_true.{1})∧(type_of% @List.mem_cons.{0})∧(type_of% @or_false)∧(type_of% @forall_eq_or_imp.{1})∧(type_of% @forall_eq.{1})∧(type_of% @ne_eq.{1})∧(type_of% @cond_true.{1})∧(type_of% @cond_false.{1})∧(type_of% @Bool.false_eq_true):=⟨@List.length_cons.{0},@List.length_nil.{0},@List.cons_append.{0},@List.nil_append.{0},@and_assoc,@true_and,@and_true,@List.map_cons.{0,0},@List.map_nil.{0,0},@Fw,@So,@Fv,@Sn,@Bj,@Zhs,@Zbu,@Zg9,@Zbe,@O9,@F7,@O7,@F5,@aZ,@O8,@aQ,@F3,@F4,@aS,@Ry,@aO,@Rv,@aT,@aR,@aU,@encI_def,@encB_def,@encS_def,@Znx,@Zn0,@Znn,@zC,@gS,@zB,@zM,@Zae,@zN,@Zaf,@zL,@Zad,@Ox,@Zhm,@C1,@F6,@Rw,@fJ,@aD,@fX,@aC,@fZ,@Ov,@fQ,@Ou,@Jg,@Jj,@Zho,@Jz,@Jw,@Q3,@Qp,@Fu,@Zqu,@Zqv,@Zqs,@Zqt,@Znz,@Zqg,@Zo2,@Znv,@Zqh,@Zq4,@List.length_map.{0,0},@List.length_append.{0},@List.length_replicate.{0},@Int.toNat_natCast,@Bool.not_true,@Bool.not_false,@Bool.not_not,@decide_true,@decide_false,@Bool.and_true,@Bool.true_and,@Bool.and_false,@Bool.false_and,@Bool.or_true,@Bool.true_or,@Bool.or_false,@Bool.false_or,@List.length_singleton.{0},@decide_eq_true_eq,@decide_eq_false_iff_not,@beq_iff_eq.{0},@beq_eq_false_iff_ne.{0},@bne_iff_ne.{0},@bne_eq_false_iff_eq.{0},@Bool.not_eq_true',@Bool.not_eq_false',@forall_const.{1},@true_imp_iff,@false_imp_iff,@if_true.{1},@if_false.{1},@and_self,@or_self,@not_true,@not_false_eq_true,@List.append_nil.{0},@D.bool.injEq,@D.int.injEq,@D.str.injEq,@D.list.injEq,@D.agg.injEq,@bne_self_eq_false.{0},@CV.d.injEq,@CV.own.injEq,@CV.tup.injEq,@List.cons.injEq.{0},@List.toList_toArray.{0},@Option.some.injEq.{0},@Prod.mk.injEq.{0,0},@List.take_succ_cons.{0},@List.take_zero.{0},@List.drop_succ_cons.{0},@List.drop_zero.{0},@List.getD_nil.{0},@map_snoc,@yN,@yO,@yM,@Zhi,@List.not_mem_nil.{0},@false_implies,@implies_true.{1},@List.mem_cons.{0},@or_false,@forall_eq_or_imp.{1},@forall_eq.{1},@ne_eq.{1},@cond_true.{1},@cond_false.{1},@Bool.false_eq_true⟩
def N4 (n:Nat):Nat:=n
theorem Kt:N4 0=0:=rfl
theorem Kc:N4 0=0:=rfl
theorem Kd:N4 0=0:=rfl
theorem Kb:N4 0=0:=rfl
theorem Ku:N4 0=0:=rfl
theorem Kw:N4 0=0:=rfl
theorem Ko:N4 0=0:=rfl
theorem Yj:N4 0=0:=rfl
theorem Kv:N4 0=0:=rfl
theorem P4:N4 0=0:=rfl
theorem B6:N4 0=0:=rfl
theorem D2:N4 0=0:=rfl
theorem It:N4 0=0:=rfl
theorem bD:N4 0=0:=rfl
theorem jC:N4 0=0:=rfl
theorem jH:N4 0=0:=rfl
theorem jG:N4 0=0:=rfl
theorem Qh:N4 0=0:=rfl
theorem Qi:N4 0=0:=rfl
theorem Z2:N4 0=0:=rfl
theorem Qd:N4 0=0:=rfl
theorem Z5:N4 0=0:=rfl
theorem Z9:N4 0=0:=rfl
theorem Qu:N4 0=0:=rfl
theorem Q0:N4 0=0:=rfl
theorem Q2:N4 0=0:=rfl
theorem Qz:N4 0=0:=rfl
theorem Zv:N4 0=0:=rfl
theorem Zx:N4 0=0:=rfl
theorem Zu:N4 0=0:=rfl
theorem Zy:N4 0=0:=rfl
theorem Zz:N4 0=0:=rfl
theorem Z4:N4 0=0:=rfl
theorem Zs:N4 0=0:=rfl
theorem Zt:N4 0=0:=rfl
theorem Z8:N4 0=0:=rfl
theorem Qt:N4 0=0:=rfl
theorem Qw:N4 0=0:=rfl
theorem Qv:N4 0=0:=rfl
theorem Qj:N4 0=0:=rfl
theorem Qq:N4 0=0:=rfl
theorem Q6:N4 0=0:=rfl
theorem Q9:N4 0=0:=rfl
theorem Wb:N4 0=0:=rfl
theorem Xp:N4 0=0:=rfl
theorem X8:N4 0=0:=rfl
theorem X7:N4 0=0:=rfl
theorem X6:N4 0=0:=rfl
theorem V7:N4 0=0:=rfl
theorem V6:N4 0=0:=rfl
theorem V5:N4 0=0:=rfl
theorem Ul:N4 0=0:=rfl
theorem Uk:N4 0=0:=rfl
theorem Uj:N4 0=0:=rfl
theorem Ks:N4 0=0:=rfl
theorem Iv:N4 0=0:=rfl
theorem Zn5:N4 0=0:=rfl
theorem Zo0:N4 0=0:=rfl
theorem Zoz:N4 0=0:=rfl
theorem Zoy:N4 0=0:=rfl
theorem Qg {p:Prop} (h:p:=by first|with_reducible assumption|omega|(rw [Xb];omega)):p:=h
theorem Qy {p:Prop} (h:p:=by (try simp only [G9,Nd,U8,P6,upd,Lb,Hb,Pe,Nat.reduceDiv,Nat.reduceMod,Nat.reduceMul,Nat.reduceAdd,Nat.reduceEqDiff,Jx,J6,if_true,if_false,reduceIte]);(first|refine Wk.of_fl ?_|skip);simp only [Wk,Zfd,Zb9,cU,Zb5,AV.kept,keptAll,Zb8,lk,Yt,and_true,true_and,and_self,Nat.reduceEqDiff,Nat.reduceLeDiff,if_true,if_false,reduceIte,reduceCtorEq,Option.isSome,false_implies];try simp [Wk,Zfd,cU,Zb5,AV.kept,keptAll,Zb8,lk,Yt,List.map_append,Zj,List.map_replicate,Nat.pow_zero,Nat.div_one,Ks,Iv,Zn5,Zo0,Zoz,Zoy]<;>rfl):p:=h
theorem Zr8 {p q:Prop} (hq:q) (h:q→p:=by
 intro Kq
 (try simp only [G9,Nd,U8,P6,upd,Lb,Hb,Pe,Nat.reduceDiv,Nat.reduceMod,Nat.reduceMul,Nat.reduceAdd,Nat.reduceEqDiff,Jx,J6,if_true,if_false,reduceIte]);(first|refine Wk.of_fl ?_|skip);simp only [Wk,Zfd,Zb9,cU,Zb5,AV.kept,keptAll,Zb8,lk,Yt,and_true,true_and,and_self,Nat.reduceEqDiff,Nat.reduceLeDiff,if_true,if_false,reduceIte,reduceCtorEq,Option.isSome,false_implies];try simp [Wk,Zfd,cU,Zb5,AV.kept,keptAll,Zb8,lk,Yt,List.map_append,Zj,List.map_replicate,Nat.pow_zero,Nat.div_one,Ks,Iv,Zn5,Zo0,Zoz,Zoy]
 exact Kq):p:=h hq
theorem Zrb {p:Prop} (h:p:=by (simp only [Zoo,O3,cB,Lb,Hb,Pe,pur,lk,upd,List.getD_cons_zero,List.getD_cons_succ,Jx,J6,Nat.reduceDiv,Nat.reduceMod,Nat.reduceMul,Nat.reduceAdd,Nat.reduceEqDiff,if_true,if_false,reduceIte]);refine And.intro (by simp) ?_;(try simp only [G9,Nd,U8,P6,upd,Lb,Hb,Pe,Nat.reduceDiv,Nat.reduceMod,Nat.reduceMul,Nat.reduceAdd,Nat.reduceEqDiff,Jx,J6,if_true,if_false,reduceIte]);(first|refine Wk.of_fl ?_|skip);simp only [Wk,Zfd,Zb9,cU,Zb5,AV.kept,keptAll,Zb8,lk,Yt,and_true,true_and,and_self,Nat.reduceEqDiff,Nat.reduceLeDiff,if_true,if_false,reduceIte,reduceCtorEq,Option.isSome,false_implies];try simp [Wk,Zfd,cU,Zb5,AV.kept,keptAll,Zb8,lk,Yt,List.map_append,Zj,List.map_replicate,Nat.pow_zero,Nat.div_one,Ks,Iv,Zn5,Zo0,Zoz,Zoy]<;>rfl):p:=h
theorem Zr9 {p:Prop} (h:p:=by (try simp only [G9,Nd,U8,P6,upd,Lb,Hb,Pe,Nat.reduceDiv,Nat.reduceMod,Nat.reduceMul,Nat.reduceAdd,Nat.reduceEqDiff,Jx,J6,if_true,if_false,reduceIte]);simp only [Zqm,pur,lk,upd,D.setCell,Zoj,List.set_set,Jx,J6,Nat.reduceDiv,Nat.reduceMod,Nat.reduceMul,Nat.reduceAdd,Nat.reduceEqDiff,if_true,if_false,reduceIte,Ks,Iv,Zn5,Zo0,Zoz,Zoy];refine And.intro (by first|trivial|(simp;done)|omega) (And.intro (by first|trivial|(simp;done)) (And.intro (by first|trivial|omega|(simp;done)) (And.intro (by first|trivial|omega|(simp;omega)) (And.intro (by first|trivial|omega) ?_))));(try simp only [G9,Nd,U8,P6,upd,Lb,Hb,Pe,Nat.reduceDiv,Nat.reduceMod,Nat.reduceMul,Nat.reduceAdd,Nat.reduceEqDiff,Jx,J6,if_true,if_false,reduceIte]);(first|refine Wk.of_fl ?_|skip);simp only [Wk,Zfd,Zb9,cU,Zb5,AV.kept,keptAll,Zb8,lk,Yt,and_true,true_and,and_self,Nat.reduceEqDiff,Nat.reduceLeDiff,if_true,if_false,reduceIte,reduceCtorEq,Option.isSome,false_implies];try simp [Wk,Zfd,cU,Zb5,AV.kept,keptAll,Zb8,lk,Yt,List.map_append,Zj,List.map_replicate,Nat.pow_zero,Nat.div_one,Ks,Iv,Zn5,Zo0,Zoz,Zoy]):p:=h
theorem Zq5 {p:Prop} (h:p:=by (try simp only [G9,Nd,U8,P6,upd,Lb,Hb,Pe,Nat.reduceDiv,Nat.reduceMod,Nat.reduceMul,Nat.reduceAdd,Nat.reduceEqDiff,Jx,J6,if_true,if_false,reduceIte]);simp only [Zql,ren,O3,cB,Lb,Hb,Pe,lk,upd,List.getD_cons_zero,List.getD_cons_succ,Jx,J6,Nat.reduceDiv,Nat.reduceMod,Nat.reduceMul,Nat.reduceAdd,Nat.reduceEqDiff,if_true,if_false,reduceIte];refine And.intro (by first|trivial|rfl) (And.intro ?_ (And.intro (by first|trivial|rfl|simp) (And.intro (by first|trivial|simp [Zdv]) (And.intro (by first|decide|omega) (And.intro (by first|decide|omega) (And.intro (by (first|refine gP ?_|skip);simp [keptAll,Zf8,AV.kept,lk]) (by simp [N9,keptAll,AV.kept,lk])))))));(try simp only [G9,Nd,U8,P6,upd,Lb,Hb,Pe,Nat.reduceDiv,Nat.reduceMod,Nat.reduceMul,Nat.reduceAdd,Nat.reduceEqDiff,Jx,J6,if_true,if_false,reduceIte]);(first|refine Wk.of_fl ?_|skip);simp only [Wk,Zfd,Zb9,cU,Zb5,AV.kept,keptAll,Zb8,lk,Yt,and_true,true_and,and_self,Nat.reduceEqDiff,Nat.reduceLeDiff,if_true,if_false,reduceIte,reduceCtorEq,Option.isSome,false_implies];try simp [Wk,Zfd,cU,Zb5,AV.kept,keptAll,Zb8,lk,Yt,List.map_append,Zj,List.map_replicate,Nat.pow_zero,Nat.div_one,Ks,Iv,Zn5,Zo0,Zoz,Zoy]):p:=h
theorem Jf {ops:List Oper} {acc:List (Nat×List Nat×Bool)} (h:Zob ops acc=true:=by kernel_rfl):Zob ops acc=true:=h
def Gs (P:Program) (l:List (Nat×Con)) (m:List (Nat×BCon)) (E:Prop):Prop:=(∀ p∈l,Qr P p)∧(∀ p∈m,Zfa P p)∧E
theorem Wg {P:Program}:Gs P [] [] True:=⟨by simp,by simp,trivial⟩
theorem Ja {P:Program} {n:Nat} {c d:Con} {l:List (Nat×Con)} {m:List (Nat×BCon)} {E:Prop} (h:Qr P (n,c)) (e:c=d) (r:Gs P l m E):Gs P ((n,c)::l) m (c=d∧E):=by
 refine ⟨fun p hp=>?_,r.2.1,e,r.2.2⟩;rcases List.mem_cons.1 hp with h1|h1
 ·rw [h1];exact h
 ·exact r.1 p h1
theorem Zsh {P:Program} {n:Nat} {c d:BCon} {l:List (Nat×Con)} {m:List (Nat×BCon)} {E:Prop} (h:Zfa P (n,c)) (e:c=d) (r:Gs P l m E):Gs P l ((n,c)::m) (c=d∧E):=by
 refine ⟨r.1,fun p hp=>?_,e,r.2.2⟩;rcases List.mem_cons.1 hp with h1|h1
 ·rw [h1];exact h
 ·exact r.2.1 p h1
theorem Wi {P:Program} {τ:Nat→TI} (hT:Xx P τ) (hm:P.follows .mixedOrders=true) (cu:List Nat) (wr:Bool) {l:List (Nat×Con)} {m:List (Nat×BCon)} {E:Prop} (h:Gs P l m E):∃ C:Ctx,C.τ=τ∧C.Γ=Zm3 l∧C.dp=60∧C.Δ=Zm4 m∧C.cuts=cu∧C.wr=wr∧Mg P C∧E :=
 ⟨⟨τ,Zm3 l,60,Zm4 m,cu,wr⟩,rfl,rfl,rfl,rfl,rfl,rfl,Zls hT hm h.1 h.2.1,h.2.2⟩
theorem Ys {C:Ctx} {c:Code} {Q:AExit→AS→Prop} {t:List AV} {o:Zw} (n:Nat) (h:Shut (Pz C c Q ⟨fl (Zj3 n t).1 (Zj3 n t).2,o⟩)) (hn:decide (16*n≤t.length)=true:=by kernel_rfl):Pz C c Q ⟨t,o⟩:=Zne n (of_decide_eq_true hn) h
theorem Zom {F:Func} (h:F.body.isNone=false):∃ c,F.body=some c:=by
 cases hb:F.body with
 | none=>rw [hb] at h;cases h
 | some c=>exact ⟨c,rfl⟩
theorem Wh {P : Program} {C : Ctx} {f : FuncId} {fn : Func} {con : Con} (K : Mg P C) (hf : P.funcs[f]? = some fn) (rs : List ResultVar) (hrs : fn.results.toList = rs) (nt : Nat) (hnt : fn.ntmps = nt)
    (h : ∀ c, fn.body = some c → ∀ cvs, con.pre cvs → Pz C c (Znj C rs con.outs (con.fn cvs)) (R0 nt cvs)) (h1 : (fn.name == "runtime.NumGoroutine") = false := by kernel_rfl) (h2 : fn.body.isNone = false := by rfl) : Qr P (f, con) := by
  obtain ⟨c, hc⟩ := Zom h2
  exact ⟨Xk hf h1 h2, Zlf K hf hc rs hrs nt hnt (h c hc)⟩
theorem Zsd {P : Program} {C : Ctx} {f : FuncId} {fn : Func} {bc : BCon} (K : Mg P C) (hf : P.funcs[f]? = some fn) (rs : List ResultVar) (hrs : fn.results.toList = rs) (nt : Nat) (hnt : fn.ntmps = nt)
    (h : ∀ c, fn.body = some c → ∀ x, bc.ok x → xO (bc.args x) (bc.objs x) ∧ Yz (bc.objs x) ∧ xO [] (bc.post x) ∧ (bc.objs x).length ≤ (bc.post x).length ∧
      Pz C c (Zh9 C rs (bc.objs x).length (bc.res x) (bc.post x)) ⟨bc.args x ++ Lq (nt - (bc.args x).length), Jb (bc.objs x)⟩) (hout : ∀ x, bc.out x = none := by intro _; rfl) (h1 : (fn.name == "runtime.NumGoroutine") = false := by kernel_rfl) (h2 : fn.body.isNone = false := by rfl) : Zfa P (f, bc) := by
  obtain ⟨c, hc⟩ := Zom h2
  exact ⟨Xk hf h1 h2, Zjp K hf hc rs hrs nt hnt (h c hc) hout⟩
theorem Zsc {P : Program} {C : Ctx} {f : FuncId} {fn : Func} {bc : BCon} {oj : bc.X → Nat} (K : Mg P C) (hf : P.funcs[f]? = some fn) (rs : List ResultVar) (hrs : fn.results.toList = rs) (nt : Nat) (hnt : fn.ntmps = nt)
    (h : ∀ c, fn.body = some c → ∀ x, bc.ok x → xO (bc.args x) (bc.objs x) ∧ Yz (bc.objs x) ∧ xO [] (bc.post x) ∧ (bc.objs x).length ≤ (bc.post x).length ∧
      Pz C c (Zb4 C rs (bc.objs x).length (oj x) (bc.post x)) ⟨bc.args x ++ Lq (nt - (bc.args x).length), Jb (bc.objs x)⟩) (hout : ∀ x, bc.out x = some (oj x)) (h1 : (fn.name == "runtime.NumGoroutine") = false := by kernel_rfl) (h2 : fn.body.isNone = false := by rfl) : Zfa P (f, bc) := by
  obtain ⟨c, hc⟩ := Zom h2
  exact ⟨Xk hf h1 h2, Zgf K hf hc rs hrs nt hnt (h c hc) hout⟩
end Go.Am
namespace Go.Am.Ty
open Go.Proofs
open Enc (enc dec)
def tt:List (Nat×TI):=[(1,⟨.func,1,8,.d .nilf,.nilf,[]⟩),(2,⟨.int .i64,1,8,.d (.int .i64 0),.int .i64 0,[]⟩),(3,⟨.int .i64,1,8,.d (.int .i64 0),.int .i64 0,[]⟩),(4,⟨.bool,1,1,.d (.bool false),.bool false,[]⟩),(5,⟨.int .u8,1,1,.d (.int .u8 0),.int .u8 0,[]⟩),(9,⟨.str,1,16,.d (.str []),.str [],[]⟩),(21,⟨.int .i32,1,4,.d (.int .i32 0),.int .i32 0,[]⟩),(22,⟨.slice 9,1,24,.nils 1,.list 1 [],[]⟩),(24,⟨.struct [(0,1),(1,1)],2,48,.agg [.nils 1,.nils 1],.agg [.list 1 [],.list 1 []],[]⟩),(25,⟨.array 2 3,2,16,.d (.agg [.int .i64 0,.int .i64 0]),.agg [.int .i64 0,.int .i64 0],[]⟩),(26,⟨.slice 43,1,24,.nils 4,.list 4 [],[]⟩),(30,⟨.int .i64,1,8,.d (.int .i64 0),.int .i64 0,[]⟩),(37,⟨.slice 51,1,24,.nils 2,.list 2 [],[]⟩),(40,⟨.slice 49,1,24,.nils 3,.list 3 [],[]⟩),(41,⟨.slice 166,1,24,.nils 3,.list 3 [],[]⟩),(43,⟨.struct [(0,1),(1,1),(2,1),(3,1)],4,88,.agg [.d (.str []),.nils 1,.nils 3,.nils 3],.agg [.str [],.list 1 [],.list 3 [],.list 3 []],[]⟩),(45,⟨.slice 82,1,24,.nils 3,.list 3 [],[]⟩),(47,⟨.slice 75,1,24,.nils 8,.list 8 [],[]⟩),(49,⟨.struct [(0,1),(1,1),(2,1)],3,64,.agg [.d (.str []),.nils 3,.nils 8],.agg [.str [],.list 3 [],.list 8 []],[]⟩),(51,⟨.struct [(0,1),(1,1)],2,40,.agg [.d (.str []),.nils 3],.agg [.str [],.list 3 []],[]⟩),(59,⟨.slice 72,1,24,.nils 2,.list 2 [],[]⟩),(65,⟨.slice 3,1,24,.nils 1,.list 1 [],[]⟩),(69,⟨.slice 45,1,24,.nils 1,.list 1 [],[]⟩),(70,⟨.slice 4,1,24,.nils 1,.list 1 [],[]⟩),(72,⟨.struct [(0,1),(1,1)],2,32,.agg [.d (.int .i64 0),.nils 3],.agg [.int .i64 0,.list 3 []],[]⟩),(75,⟨.struct [(0,1),(1,1),(2,1),(3,1),(4,1),(5,1),(6,1),(7,1)],8,120,.agg [.d (.int .i64 0),.d (.str []),.d (.str []),.d (.str []),.d (.int .i64 0),.d (.int .i64 0),.nils 3,.nils 3],.agg [.int .i64 0,.str [],.str [],.str [],.int .i64 0,.int .i64 0,.list 3 [],.list 3 []],[]⟩),(80,⟨.func,1,8,.d .nilf,.nilf,[]⟩),(82,⟨.struct [(0,1),(1,1),(2,1)],3,32,.d (.agg [.int .i64 0,.str [],.int .i64 0]),.agg [.int .i64 0,.str [],.int .i64 0],[.int .i64,.str,.int .i64]⟩),(86,⟨.func,1,8,.d .nilf,.nilf,[]⟩),(87,⟨.func,1,8,.d .nilf,.nilf,[]⟩),(88,⟨.map 9 43,1,8,.d .nilm,.nilm,[]⟩),(91,⟨.func,1,8,.d .nilf,.nilf,[]⟩),(92,⟨.func,1,8,.d .nilf,.nilf,[]⟩),(105,⟨.map 3 4,1,8,.d .nilm,.nilm,[]⟩),(109,⟨.func,1,8,.d .nilf,.nilf,[]⟩),(115,⟨.func,1,8,.d .nilf,.nilf,[]⟩),(124,⟨.map 9 4,1,8,.d .nilm,.nilm,[]⟩),(125,⟨.func,1,8,.d .nilf,.nilf,[]⟩),(130,⟨.func,1,8,.d .nilf,.nilf,[]⟩),(133,⟨.slice 141,1,24,.nils 4,.list 4 [],[]⟩),(137,⟨.struct [(0,1),(1,1),(2,1)],3,40,.agg [.d (.int .i64 0),.nils 3,.d (.int .i64 0)],.agg [.int .i64 0,.list 3 [],.int .i64 0],[]⟩),(141,⟨.struct [(0,1),(1,1),(2,1),(3,1)],4,40,.d (.agg [.int .i64 0,.str [],.int .i64 0,.int .i64 0]),.agg [.int .i64 0,.str [],.int .i64 0,.int .i64 0],[.int .i64,.str,.int .i64,.int .i64]⟩),(143,⟨.map 9 3,1,8,.d .nilm,.nilm,[]⟩),(152,⟨.map 3 45,1,8,.d .nilm,.nilm,[]⟩),(155,⟨.func,1,8,.d .nilf,.nilf,[]⟩),(157,⟨.func,1,8,.d .nilf,.nilf,[]⟩),(158,⟨.func,1,8,.d .nilf,.nilf,[]⟩),(160,⟨.struct [(0,1),(1,1),(2,1)],3,56,.agg [.nils 3,.nils 3,.d .nilf],.agg [.list 3 [],.list 3 [],.nilf],[]⟩),(166,⟨.struct [(0,1),(1,1),(2,1)],3,24,.d (.agg [.int .i64 0,.int .i64 0,.bool false]),.agg [.int .i64 0,.int .i64 0,.bool false],[.int .i64,.int .i64,.bool]⟩),(168,⟨.array 15 3,15,120,.d (.agg [.int .i64 0,.int .i64 0,.int .i64 0,.int .i64 0,.int .i64 0,.int .i64 0,.int .i64 0,.int .i64 0,.int .i64 0,.int .i64 0,.int .i64 0,.int .i64 0,.int .i64 0,.int .i64 0,.int .i64 0]),.agg [.int .i64 0,.int .i64 0,.int .i64 0,.int .i64 0,.int .i64 0,.int .i64 0,.int .i64 0,.int .i64 0,.int .i64 0,.int .i64 0,.int .i64 0,.int .i64 0,.int .i64 0,.int .i64 0,.int .i64 0],[]⟩),(185,⟨.func,1,8,.d .nilf,.nilf,[]⟩),(186,⟨.func,1,8,.d .nilf,.nilf,[]⟩),(196,⟨.int .u64,1,8,.d (.int .u64 0),.int .u64 0,[]⟩),(198,⟨.func,1,8,.d .nilf,.nilf,[]⟩),(213,⟨.int .i64,1,8,.d (.int .i64 0),.int .i64 0,[]⟩),(220,⟨.int .u32,1,4,.d (.int .u32 0),.int .u32 0,[]⟩),(222,⟨.int .u64,1,8,.d (.int .u64 0),.int .u64 0,[]⟩),(234,⟨.slice 5,1,24,.nils 1,.list 1 [],[]⟩),(236,⟨.func,1,8,.d .nilf,.nilf,[]⟩),(239,⟨.int .u64,1,8,.d (.int .u64 0),.int .u64 0,[]⟩),(243,⟨.ptr 3,1,8,.d .nilp,.nilp,[]⟩),(256,⟨.ptr 239,1,8,.d .nilp,.nilp,[]⟩),(261,⟨.struct [(0,1),(1,1),(2,1),(3,1)],4,48,.agg [.d (.int .i64 0),.d (.int .i64 0),.nils 3,.d (.int .i64 0)],.agg [.int .i64 0,.int .i64 0,.list 3 [],.int .i64 0],[]⟩),(264,⟨.slice 47,1,24,.nils 1,.list 1 [],[]⟩)]
def H7:Nat→TI:=Znu tt
theorem S9:H7 1=⟨.func,1,8,.d .nilf,.nilf,[]⟩:=rfl
theorem S8:H7 2=⟨.int .i64,1,8,.d (.int .i64 0),.int .i64 0,[]⟩:=rfl
theorem S7:H7 3=⟨.int .i64,1,8,.d (.int .i64 0),.int .i64 0,[]⟩:=rfl
theorem S6:H7 4=⟨.bool,1,1,.d (.bool false),.bool false,[]⟩:=rfl
theorem S5:H7 5=⟨.int .u8,1,1,.d (.int .u8 0),.int .u8 0,[]⟩:=rfl
theorem S4:H7 9=⟨.str,1,16,.d (.str []),.str [],[]⟩:=rfl
theorem H6:H7 21=⟨.int .i32,1,4,.d (.int .i32 0),.int .i32 0,[]⟩:=rfl
theorem H5:H7 22=⟨.slice 9,1,24,.nils 1,.list 1 [],[]⟩:=rfl
theorem H4:H7 24=⟨.struct [(0,1),(1,1)],2,48,.agg [.nils 1,.nils 1],.agg [.list 1 [],.list 1 []],[]⟩:=rfl
theorem H3:H7 25=⟨.array 2 3,2,16,.d (.agg [.int .i64 0,.int .i64 0]),.agg [.int .i64 0,.int .i64 0],[]⟩:=rfl
theorem H2:H7 26=⟨.slice 43,1,24,.nils 4,.list 4 [],[]⟩:=rfl
theorem H1:H7 30=⟨.int .i64,1,8,.d (.int .i64 0),.int .i64 0,[]⟩:=rfl
theorem H0:H7 37=⟨.slice 51,1,24,.nils 2,.list 2 [],[]⟩:=rfl
theorem Hz:H7 40=⟨.slice 49,1,24,.nils 3,.list 3 [],[]⟩:=rfl
theorem Hy:H7 41=⟨.slice 166,1,24,.nils 3,.list 3 [],[]⟩:=rfl
theorem Hx:H7 43=⟨.struct [(0,1),(1,1),(2,1),(3,1)],4,88,.agg [.d (.str []),.nils 1,.nils 3,.nils 3],.agg [.str [],.list 1 [],.list 3 [],.list 3 []],[]⟩:=rfl
theorem Hw:H7 45=⟨.slice 82,1,24,.nils 3,.list 3 [],[]⟩:=rfl
theorem Hv:H7 47=⟨.slice 75,1,24,.nils 8,.list 8 [],[]⟩:=rfl
theorem Hu:H7 49=⟨.struct [(0,1),(1,1),(2,1)],3,64,.agg [.d (.str []),.nils 3,.nils 8],.agg [.str [],.list 3 [],.list 8 []],[]⟩:=rfl
theorem Ht:H7 51=⟨.struct [(0,1),(1,1)],2,40,.agg [.d (.str []),.nils 3],.agg [.str [],.list 3 []],[]⟩:=rfl
theorem Hs:H7 59=⟨.slice 72,1,24,.nils 2,.list 2 [],[]⟩:=rfl
theorem Hr:H7 65=⟨.slice 3,1,24,.nils 1,.list 1 [],[]⟩:=rfl
theorem Hq:H7 69=⟨.slice 45,1,24,.nils 1,.list 1 [],[]⟩:=rfl
theorem Hp:H7 70=⟨.slice 4,1,24,.nils 1,.list 1 [],[]⟩:=rfl
theorem Ho:H7 72=⟨.struct [(0,1),(1,1)],2,32,.agg [.d (.int .i64 0),.nils 3],.agg [.int .i64 0,.list 3 []],[]⟩:=rfl
theorem Hn:H7 75=⟨.struct [(0,1),(1,1),(2,1),(3,1),(4,1),(5,1),(6,1),(7,1)],8,120,.agg [.d (.int .i64 0),.d (.str []),.d (.str []),.d (.str []),.d (.int .i64 0),.d (.int .i64 0),.nils 3,.nils 3],.agg [.int .i64 0,.str [],.str [],.str [],.int .i64 0,.int .i64 0,.list 3 [],.list 3 []],[]⟩:=rfl
theorem Hm:H7 80=⟨.func,1,8,.d .nilf,.nilf,[]⟩:=rfl
theorem Hl:H7 82=⟨.struct [(0,1),(1,1),(2,1)],3,32,.d (.agg [.int .i64 0,.str [],.int .i64 0]),.agg [.int .i64 0,.str [],.int .i64 0],[.int .i64,.str,.int .i64]⟩:=rfl
theorem Hk:H7 86=⟨.func,1,8,.d .nilf,.nilf,[]⟩:=rfl
theorem Hj:H7 87=⟨.func,1,8,.d .nilf,.nilf,[]⟩:=rfl
theorem Hi:H7 88=⟨.map 9 43,1,8,.d .nilm,.nilm,[]⟩:=rfl
theorem Hh:H7 91=⟨.func,1,8,.d .nilf,.nilf,[]⟩:=rfl
theorem Hg:H7 92=⟨.func,1,8,.d .nilf,.nilf,[]⟩:=rfl
theorem V2:H7 105=⟨.map 3 4,1,8,.d .nilm,.nilm,[]⟩:=rfl
theorem V1:H7 109=⟨.func,1,8,.d .nilf,.nilf,[]⟩:=rfl
theorem V0:H7 115=⟨.func,1,8,.d .nilf,.nilf,[]⟩:=rfl
theorem Vz:H7 124=⟨.map 9 4,1,8,.d .nilm,.nilm,[]⟩:=rfl
theorem Vy:H7 125=⟨.func,1,8,.d .nilf,.nilf,[]⟩:=rfl
theorem Vx:H7 130=⟨.func,1,8,.d .nilf,.nilf,[]⟩:=rfl
theorem Vw:H7 133=⟨.slice 141,1,24,.nils 4,.list 4 [],[]⟩:=rfl
theorem Vv:H7 137=⟨.struct [(0,1),(1,1),(2,1)],3,40,.agg [.d (.int .i64 0),.nils 3,.d (.int .i64 0)],.agg [.int .i64 0,.list 3 [],.int .i64 0],[]⟩:=rfl
theorem Vu:H7 141=⟨.struct [(0,1),(1,1),(2,1),(3,1)],4,40,.d (.agg [.int .i64 0,.str [],.int .i64 0,.int .i64 0]),.agg [.int .i64 0,.str [],.int .i64 0,.int .i64 0],[.int .i64,.str,.int .i64,.int .i64]⟩:=rfl
theorem Vt:H7 143=⟨.map 9 3,1,8,.d .nilm,.nilm,[]⟩:=rfl
theorem Vs:H7 152=⟨.map 3 45,1,8,.d .nilm,.nilm,[]⟩:=rfl
theorem Vr:H7 155=⟨.func,1,8,.d .nilf,.nilf,[]⟩:=rfl
theorem Vq:H7 157=⟨.func,1,8,.d .nilf,.nilf,[]⟩:=rfl
theorem Vp:H7 158=⟨.func,1,8,.d .nilf,.nilf,[]⟩:=rfl
theorem Vo:H7 160=⟨.struct [(0,1),(1,1),(2,1)],3,56,.agg [.nils 3,.nils 3,.d .nilf],.agg [.list 3 [],.list 3 [],.nilf],[]⟩:=rfl
theorem Vn:H7 166=⟨.struct [(0,1),(1,1),(2,1)],3,24,.d (.agg [.int .i64 0,.int .i64 0,.bool false]),.agg [.int .i64 0,.int .i64 0,.bool false],[.int .i64,.int .i64,.bool]⟩:=rfl
theorem Vm:H7 168=⟨.array 15 3,15,120,.d (.agg [.int .i64 0,.int .i64 0,.int .i64 0,.int .i64 0,.int .i64 0,.int .i64 0,.int .i64 0,.int .i64 0,.int .i64 0,.int .i64 0,.int .i64 0,.int .i64 0,.int .i64 0,.int .i64 0,.int .i64 0]),.agg [.int .i64 0,.int .i64 0,.int .i64 0,.int .i64 0,.int .i64 0,.int .i64 0,.int .i64 0,.int .i64 0,.int .i64 0,.int .i64 0,.int .i64 0,.int .i64 0,.int .i64 0,.int .i64 0,.int .i64 0],[]⟩:=rfl
theorem Vl:H7 185=⟨.func,1,8,.d .nilf,.nilf,[]⟩:=rfl
theorem Vk:H7 186=⟨.func,1,8,.d .nilf,.nilf,[]⟩:=rfl
theorem Vj:H7 196=⟨.int .u64,1,8,.d (.int .u64 0),.int .u64 0,[]⟩:=rfl
theorem Vi:H7 198=⟨.func,1,8,.d .nilf,.nilf,[]⟩:=rfl
theorem Vh:H7 213=⟨.int .i64,1,8,.d (.int .i64 0),.int .i64 0,[]⟩:=rfl
theorem Vg:H7 220=⟨.int .u32,1,4,.d (.int .u32 0),.int .u32 0,[]⟩:=rfl
theorem Vf:H7 222=⟨.int .u64,1,8,.d (.int .u64 0),.int .u64 0,[]⟩:=rfl
theorem Ve:H7 234=⟨.slice 5,1,24,.nils 1,.list 1 [],[]⟩:=rfl
theorem Vd:H7 236=⟨.func,1,8,.d .nilf,.nilf,[]⟩:=rfl
theorem Vc:H7 239=⟨.int .u64,1,8,.d (.int .u64 0),.int .u64 0,[]⟩:=rfl
theorem Vb:H7 243=⟨.ptr 3,1,8,.d .nilp,.nilp,[]⟩:=rfl
theorem Va:H7 256=⟨.ptr 239,1,8,.d .nilp,.nilp,[]⟩:=rfl
theorem Y9:H7 261=⟨.struct [(0,1),(1,1),(2,1),(3,1)],4,48,.agg [.d (.int .i64 0),.d (.int .i64 0),.nils 3,.d (.int .i64 0)],.agg [.int .i64 0,.int .i64 0,.list 3 [],.int .i64 0],[]⟩:=rfl
theorem Y8:H7 264=⟨.slice 47,1,24,.nils 1,.list 1 [],[]⟩:=rfl
theorem Z3:Xx Tryz.prog H7:=Zkm (by kernel_rfl)
theorem Zn:Tryz.prog.follows .mixedOrders=true:=by kernel_rfl
instance encU8:Enc UInt8:=⟨fun b=>.int .u8 b.toNat,fun x=>UInt8.ofNat x.i.toNat,fun b=>by simp [D.i]⟩
instance szU8:Sz UInt8:=⟨1⟩
theorem Zgj {b:UInt8}:(enc b:D)=.int .u8 b.toNat:=rfl
theorem Zf9 {b:UInt8}:Up UInt8 (.int .u8 b.toNat)=True:=eq_true (Yc b)
theorem Zgl {b:UInt8}:(dec (.int .u8 b.toNat):UInt8)=b:=Enc.dec_enc b
def Xs (c a b:UInt8):Bool:=decide (a≤c)&&decide (c≤b)
theorem X3 {a b:UInt8}:Xu (a.toNat:Int) (b.toNat:Int)=decide (a≤b):=by
 unfold Xu
 congr 1
 rw [UInt8.le_iff_toNat_le];exact propext (by omega)
def U3:Con:=Um (fun (_ _ _:UInt8)=>True) (fun c a b=>Xs c a b)
theorem fV:type_of% @U3.eq_def:=@U3.eq_def
theorem Zsf {p:Prop} (h:p:=by (sym=>simp [Kt,Kc,Kd,Kb,Ku,Kw,Ko,Yj,Kv,P4,B6,D2,It,bD,jC,jH,jG,Qh,Qi,Z2,Qd,Z5,Z9,Qu,Q0,Q2,Qz,Zv,Zx,Zu,Zy,Zz,Z4,Zs,Zt,Z8,Qt,Qw,Qv,Qj,Qq,Q6,Q9,Wb,Xp,X8,X7,X6,V7,V6,V5,Ul,Uk,Uj,D.setCell.eq_1,Ze,Q1,Jh,J8,J7,Js,Jg,Jj,X3,wU,wT,wS,wR,wP,wO,wN,wM,wL,wI,wH,wG,wF,wE,wD,wC,wB,wA,wK,wW,wV,wY,wJ,wX,wZ,wQ,vU,vT,vS,vR,vP,vO,vN,vM,vL,vI,vH,vG,vF,vE,vD,vC,vB,vA,vK,vW,vV,vY,vJ,vX,vZ,vQ,uU,uT,uS,uR,uP,uO,uN,uM,uL,uI,uH,uG,uF,uE,uD,uC,uB,uA,uK,uW,uV,uY,uJ,uX,uZ,uQ,tU,tT,tS,tR,tP,tO,tN,tM,tL,tI,tH,tG,tF,tE,tD,tC,tB,tA,tK,tW,tV,tY,tJ,tX,tZ,tQ,sU,sT,sS,sR,sP,sO,sN,sM,sL,sI,sH,sG,sF,sE,sD,sC,sB,sA,sK,sW,sV,sY,sJ,sX,sZ,sQ,rU,rT,rS,rR,rP,rO,rN,rM,rL,rI,rH,rG,rF,rE,rD,rC,rB,rA,rK,rW,rV,rY,rJ,rX,rZ,rQ,qU,qT,qS,qR,qP,qO,qN,qM,qL,qI,qH,qG,qF,qE,qD,qC,qB,qA,qK,qW,qV,qY,qJ,qX,qZ,qQ,pU,pT,pS,pR,pP,pO,pN,pM,pL,pI,pH,pG,pF,pE,pD,pC,pB,pA,pK,pW,pV,pY,pJ,pX,pZ,pQ,oU,oT,oS,oR,oP,oO,oN,oM,oL,oI,oH,oG,oF,oE,oD,oC,oB,oA,oK,oW,oV,oY,oJ,oX,oZ,oQ,nU,nT,nS,nR,nP,nO,nN,nM,nL,nI,nH,nG,nF,nE,nD,nC,nB,nA,nK,nW,nV,nY,nJ,nX,nZ,nQ,mU,mT,mS,mR,mP,mO,mN,mM,mL,mI,mH,mG,mF,mE,mD,mC,mB,mA,mK,mW,mV,mY,mJ,mX,mZ,mQ,lU,lT,lS,lR,lP,lO,lN,lM,lL,lI,lH,lG,lF,lE,lD,lC,lB,lA,lK,lW,lV,lY,lJ,lX,lZ,lQ,kU,kT,kS,kR,kP,kO,kN,kM,kL,kI,kH,kG,kF,kE,kD,kC,kB,kA,kK,kW,kV,kY,kJ,kX,kZ,kQ,jU,jT,jS,jR,jP,jO,jN,jM,jL,jI,S9,S8,S7,S6,S5,S4,H6,H5,H4,H3,H2,H1,H0,Hz,Hy,Hx,Hw,Hv,Hu,Ht,Hs,Hr,Hq,Hp,Ho,Hn,Hm,Hl,Hk,Hj,Hi,Hh,Hg,V2,V1,V0,Vz,Vy,Vx,Vw,Vv,Vu,Vt,Vs,Vr,Vq,Vp,Vo,Vn,Vm,Vl,Vk,Vj,Vi,Vh,Vg,Vf,Ve,Vd,Vc,Vb,Va,Y9,Y8])):p:=h
theorem dX {p:Prop} (h:p:=by
 (sym=>simp [Kt,Kc,Kd,Kb,Ku,Kw,Ko,Yj,Kv,P4,B6,D2,It,bD,jC,jH,jG,Qh,Qi,Z2,Qd,Z5,Z9,Qu,Q0,Q2,Qz,Zv,Zx,Zu,Zy,Zz,Z4,Zs,Zt,Z8,Qt,Qw,Qv,Qj,Qq,Q6,Q9,Wb,Xp,X8,X7,X6,V7,V6,V5,Ul,Uk,Uj,D.setCell.eq_1,Ze,Q1,Jh,J8,J7,Js,Jg,Jj,X3,wU,wT,wS,wR,wP,wO,wN,wM,wL,wI,wH,wG,wF,wE,wD,wC,wB,wA,wK,wW,wV,wY,wJ,wX,wZ,wQ,vU,vT,vS,vR,vP,vO,vN,vM,vL,vI,vH,vG,vF,vE,vD,vC,vB,vA,vK,vW,vV,vY,vJ,vX,vZ,vQ,uU,uT,uS,uR,uP,uO,uN,uM,uL,uI,uH,uG,uF,uE,uD,uC,uB,uA,uK,uW,uV,uY,uJ,uX,uZ,uQ,tU,tT,tS,tR,tP,tO,tN,tM,tL,tI,tH,tG,tF,tE,tD,tC,tB,tA,tK,tW,tV,tY,tJ,tX,tZ,tQ,sU,sT,sS,sR,sP,sO,sN,sM,sL,sI,sH,sG,sF,sE,sD,sC,sB,sA,sK,sW,sV,sY,sJ,sX,sZ,sQ,rU,rT,rS,rR,rP,rO,rN,rM,rL,rI,rH,rG,rF,rE,rD,rC,rB,rA,rK,rW,rV,rY,rJ,rX,rZ,rQ,qU,qT,qS,qR,qP,qO,qN,qM,qL,qI,qH,qG,qF,qE,qD,qC,qB,qA,qK,qW,qV,qY,qJ,qX,qZ,qQ,pU,pT,pS,pR,pP,pO,pN,pM,pL,pI,pH,pG,pF,pE,pD,pC,pB,pA,pK,pW,pV,pY,pJ,pX,pZ,pQ,oU,oT,oS,oR,oP,oO,oN,oM,oL,oI,oH,oG,oF,oE,oD,oC,oB,oA,oK,oW,oV,oY,oJ,oX,oZ,oQ,nU,nT,nS,nR,nP,nO,nN,nM,nL,nI,nH,nG,nF,nE,nD,nC,nB,nA,nK,nW,nV,nY,nJ,nX,nZ,nQ,mU,mT,mS,mR,mP,mO,mN,mM,mL,mI,mH,mG,mF,mE,mD,mC,mB,mA,mK,mW,mV,mY,mJ,mX,mZ,mQ,lU,lT,lS,lR,lP,lO,lN,lM,lL,lI,lH,lG,lF,lE,lD,lC,lB,lA,lK,lW,lV,lY,lJ,lX,lZ,lQ,kU,kT,kS,kR,kP,kO,kN,kM,kL,kI,kH,kG,kF,kE,kD,kC,kB,kA,kK,kW,kV,kY,kJ,kX,kZ,kQ,jU,jT,jS,jR,jP,jO,jN,jM,jL,jI,S9,S8,S7,S6,S5,S4,H6,H5,H4,H3,H2,H1,H0,Hz,Hy,Hx,Hw,Hv,Hu,Ht,Hs,Hr,Hq,Hp,Ho,Hn,Hm,Hl,Hk,Hj,Hi,Hh,Hg,V2,V1,V0,Vz,Vy,Vx,Vw,Vv,Vu,Vt,Vs,Vr,Vq,Vp,Vo,Vn,Vm,Vl,Vk,Vj,Vi,Vh,Vg,Vf,Ve,Vd,Vc,Vb,Va,Y9,Y8];tactic =>
   try simp only [Sh] at *
   try simp only [Zhf] at *
   try simp (maxSteps:=4000000) only [Qh,Qi,Z2,Qd,Z5,Z9,Qu,Q0,Q2,Qz,Zv,Zx,Zu,Zy,Zz,Z4,Zs,Zt,Z8,Qt,Qw,Qv,Qj,Qq,Q6,Q9,Wb,Xp,X8,X7,X6,V7,V6,V5,Ul,Uk,Uj,D.setCell.eq_1,Ze,Q1,Jh,J8,J7,Js,Jg,Jj,X3,Ix]
   first|done|exact Kq.k)):p:=h
theorem Zsg {p:Prop} (h:p:=by
 (sym=>simp [Kt,Kc,Kd,Kb,Ku,Kw,Ko,Yj,Kv,P4,B6,D2,It,bD,jC,jH,jG,Qh,Qi,Z2,Qd,Z5,Z9,Qu,Q0,Q2,Qz,Zv,Zx,Zu,Zy,Zz,Z4,Zs,Zt,Z8,Qt,Qw,Qv,Qj,Qq,Q6,Q9,Wb,Xp,X8,X7,X6,V7,V6,V5,Ul,Uk,Uj,D.setCell.eq_1,Ze,Q1,Jh,J8,J7,Js,Jg,Jj,X3,wU,wT,wS,wR,wP,wO,wN,wM,wL,wI,wH,wG,wF,wE,wD,wC,wB,wA,wK,wW,wV,wY,wJ,wX,wZ,wQ,vU,vT,vS,vR,vP,vO,vN,vM,vL,vI,vH,vG,vF,vE,vD,vC,vB,vA,vK,vW,vV,vY,vJ,vX,vZ,vQ,uU,uT,uS,uR,uP,uO,uN,uM,uL,uI,uH,uG,uF,uE,uD,uC,uB,uA,uK,uW,uV,uY,uJ,uX,uZ,uQ,tU,tT,tS,tR,tP,tO,tN,tM,tL,tI,tH,tG,tF,tE,tD,tC,tB,tA,tK,tW,tV,tY,tJ,tX,tZ,tQ,sU,sT,sS,sR,sP,sO,sN,sM,sL,sI,sH,sG,sF,sE,sD,sC,sB,sA,sK,sW,sV,sY,sJ,sX,sZ,sQ,rU,rT,rS,rR,rP,rO,rN,rM,rL,rI,rH,rG,rF,rE,rD,rC,rB,rA,rK,rW,rV,rY,rJ,rX,rZ,rQ,qU,qT,qS,qR,qP,qO,qN,qM,qL,qI,qH,qG,qF,qE,qD,qC,qB,qA,qK,qW,qV,qY,qJ,qX,qZ,qQ,pU,pT,pS,pR,pP,pO,pN,pM,pL,pI,pH,pG,pF,pE,pD,pC,pB,pA,pK,pW,pV,pY,pJ,pX,pZ,pQ,oU,oT,oS,oR,oP,oO,oN,oM,oL,oI,oH,oG,oF,oE,oD,oC,oB,oA,oK,oW,oV,oY,oJ,oX,oZ,oQ,nU,nT,nS,nR,nP,nO,nN,nM,nL,nI,nH,nG,nF,nE,nD,nC,nB,nA,nK,nW,nV,nY,nJ,nX,nZ,nQ,mU,mT,mS,mR,mP,mO,mN,mM,mL,mI,mH,mG,mF,mE,mD,mC,mB,mA,mK,mW,mV,mY,mJ,mX,mZ,mQ,lU,lT,lS,lR,lP,lO,lN,lM,lL,lI,lH,lG,lF,lE,lD,lC,lB,lA,lK,lW,lV,lY,lJ,lX,lZ,lQ,kU,kT,kS,kR,kP,kO,kN,kM,kL,kI,kH,kG,kF,kE,kD,kC,kB,kA,kK,kW,kV,kY,kJ,kX,kZ,kQ,jU,jT,jS,jR,jP,jO,jN,jM,jL,jI,S9,S8,S7,S6,S5,S4,H6,H5,H4,H3,H2,H1,H0,Hz,Hy,Hx,Hw,Hv,Hu,Ht,Hs,Hr,Hq,Hp,Ho,Hn,Hm,Hl,Hk,Hj,Hi,Hh,Hg,V2,V1,V0,Vz,Vy,Vx,Vw,Vv,Vu,Vt,Vs,Vr,Vq,Vp,Vo,Vn,Vm,Vl,Vk,Vj,Vi,Vh,Vg,Vf,Ve,Vd,Vc,Vb,Va,Y9,Y8];tactic =>
   try simp only [Sh] at *
   try simp only [Zhf] at *
   try simp (maxSteps:=4000000) only [Qh,Qi,Z2,Qd,Z5,Z9,Qu,Q0,Q2,Qz,Zv,Zx,Zu,Zy,Zz,Z4,Zs,Zt,Z8,Qt,Qw,Qv,Qj,Qq,Q6,Q9,Wb,Xp,X8,X7,X6,V7,V6,V5,Ul,Uk,Uj,D.setCell.eq_1,Ze,Q1,Jh,J8,J7,Js,Jg,Jj,X3,Ix]
   repeat' first|with_reducible assumption|with_reducible apply And.intro|intro _|omega|(rw [Xb];omega)
   all_goals first|with_reducible exact Jf|omega|rfl|trivial|exact Or.inr trivial|assumption|contradiction|exact Qy)):p:=h
structure w337k:Prop
theorem w337k.k (_:w337k) {p:Prop} (h:p:=by
 repeat' first|exact Qg|with_reducible apply And.intro|intro _
 ·rename_i h;unfold Xs;simp [h]
 ·rename_i h;unfold Xs;rw [decide_eq_false h];rfl):p:=h
theorem good_within:Qr Tryz.prog (220,U3):=by
 obtain ⟨Kx,Kt,Kc,Kd,Kb,Ku,Kw,K,_⟩:=Wi Z3 Zn [] false Wg;have Ko:=fV;refine Wh K Tryz.func220 [.tmp 6] rfl 15 rfl (fun c hc cvs hpre=>?_);unfold U3 at hpre;obtain ⟨x,y,z,rfl,-⟩:=Gl hpre;cases hc;have Xe:=Kt;have Qh:=@Zgj;have Qi:=@Zf9;have Z2:=@Zgl;have Kq:w337k:=⟨⟩;exact dX
def behind (c:UInt8):Bool:=Xs c 97 122||Xs c 65 90||Xs c 48 57||c==95
theorem Gd {a b:UInt8}:((a.toNat:Int)==(b.toNat:Int))=(a==b):=by
 rw [Bool.eq_iff_iff,Zp,Zp];constructor
 ·intro h;exact UInt8.toNat_inj.1 (by omega)
 ·intro h;rw [h]
theorem Zq0:D.int .u8 97=enc (97:UInt8):=rfl
theorem Zqj:D.int .u8 122=enc (122:UInt8):=rfl
theorem Zr5:D.int .u8 65=enc (65:UInt8):=rfl
theorem Zr4:D.int .u8 90=enc (90:UInt8):=rfl
theorem Zq2:D.int .u8 48=enc (48:UInt8):=rfl
theorem Zq1:D.int .u8 57=enc (57:UInt8):=rfl
theorem Xe {b:UInt8}:(.int .u8 b.toNat:D)=enc b:=rfl
theorem Jc {k:IntKind} {x:UInt8}:D.isInt k (enc x)=(.u8=k):=rfl
theorem Kr {x:UInt8}:D.i (enc x)=x.toNat:=rfl
theorem Jn {s:Nat} {x:UInt8}:D.fits s (enc x)=(s=1):=rfl
theorem Jo {f:Nat} {x:UInt8}:D.cell (enc x) f=enc x:=rfl
theorem Zq8 {x:UInt8}:((x.toNat:Int)==95)=(x==95):=Gd (b:=95)
def Dl:Con:=Xy (fun (_:UInt8)=>True) (fun c=>behind c)
structure w338k:Prop
theorem w338k.k (_:w338k) {p:Prop} (h:p:=by
 unfold behind;refine ⟨fun h1=>⟨fun h2=>⟨fun h3=>?_,fun h3=>?_⟩,fun h2=>?_⟩,fun h1=>?_⟩;all_goals simp only [*,Bool.false_or,Bool.true_or,Bool.or_true]):p:=h
theorem good_behind:Qr Tryz.prog (248,Dl):=by
 obtain ⟨Kx,Kt,Kc,Kd,Kb,Ku,Kw,K,Yj,_⟩:=Wi Z3 Zn [] false (Ja good_within fV Wg);have Ko:=Dl.eq_def;refine Wh K Tryz.func248 [.tmp 2] rfl 17 rfl (fun c hc cvs hpre=>?_);unfold Dl at hpre;obtain ⟨x,rfl,-⟩:=J4 hpre;cases hc;have Qh:=@Zq0;have Qi:=@Zqj;have Z2:=@Zr5;have Qd:=@Zr4;have Z5:=@Zq2;have Z9:=@Zq1;have Qu:=@Xe;have Q0:=@Jc;have Q2:=@Kr;have Qz:=@Jn;have Zv:=@Jo;have Zx:=@Zq8;have Kq:w338k:=⟨⟩;exact dX
def T9 (s:List UInt8):Bool:=s.all behind
theorem iD {s:List UInt8} {j:Nat}:(s.drop 1).getD j 0=s.getD (j+1) 0:=by
 simp [Zc,Nat.add_comm]
def Fa:Con:=Xy (fun (s:List UInt8)=>s.length≤9223372036854775807) (fun s=>T9 (s.drop 1))
structure w340k:Prop
theorem w340k.k (_:w340k) {p:Prop} (h:p:=by
 repeat' first|exact Qg|with_reducible apply And.intro|intro _
 ·rename_i hb;unfold T9;rw [R8 (p:=behind) 0 (k-1) (by rw [List.length_drop];omega) (by rw [iD,show k-1+1=k by omega];exact hb)]
 ·rename_i hb;refine ⟨k+1,by exact Qy,by omega,by omega,fun j h1 hj=>?_,by omega⟩
  by_cases hjk:j=k
  ·subst hjk;exact hb
  ·exact hno j h1 (by omega)):p:=h
structure w341k:Prop
theorem w341k.k (_:w341k) {p:Prop} (h:p:=by
 unfold T9;rw [B4 (p:=behind) 0 fun j hj=>?_];rw [iD];rw [List.length_drop] at hj;exact hno (j+1) (by omega) (by omega)):p:=h
structure w339k:Prop
theorem w339k.k (_:w339k) {p:Prop} (h:p:=by
 refine Zh [2,4,5,6,7,8,9,10,11,12,13,14] (fun k:Nat=>[(3,.d (.int .i64 k))]) (fun k:Nat=>[]) (fun k:Nat=>1≤k∧(k=1∨k≤s.length)∧∀ j,1≤j→j<k→behind (s.getD j 0)=true) (fun k:Nat=>s.length-k) 1 ?_ ?_ ?_
 ·simp;omega
 ·exact Qy
 rintro k ⟨hk1,hk,hno⟩;rcases Zl k s.length with ⟨hlt,Qh⟩|⟨hlt,Qh⟩
 ·have Qi:=@Xe;have Z2:=@Jc;have Qd:=@Kr;have Z5:=@Jn;have Z9:=@Jo;have Kq:w340k:=⟨⟩;exact dX
 ·have Kq:w341k:=⟨⟩;exact dX):p:=h
theorem good_all1:Qr Tryz.prog (221,Fa):=by
 obtain ⟨Kx,Kt,Kc,Kd,Kb,Ku,Kw,K,Yj,_⟩:=Wi Z3 Zn [] false (Ja good_behind Dl.eq_def Wg);have Ko:=Fa.eq_def;refine Wh K Tryz.func221 [.tmp 2] rfl 15 rfl (fun c hc cvs hpre=>?_);unfold Fa at hpre;obtain ⟨s,rfl,hs⟩:=J4 hpre;cases hc;have Kq:w339k:=⟨⟩;exact dX
def Wo (s:List UInt8):Bool:=match s with
 | []=>false
 | c::r=>Xs c 97 122&&T9 r
def Pg (s:List UInt8):Bool:=match s with
 | []=>false
 | c::r=>Xs c 65 90&&T9 r
def Yh:Con:=Xy (fun (s:List UInt8)=>s.length≤9223372036854775807) (fun s=>Wo s)
theorem Sa:type_of% @Yh.eq_def:=@Yh.eq_def
structure w342k:Prop
theorem w342k.k (_:w342k) {p:Prop} (h:p:=by
 cases s with
 | nil=>simp [Wo]
 | cons c r =>
  simp only [Zi] at hs;simp only [Zi,Wo,Int.toNat_zero,List.getD_cons_zero,List.drop_succ_cons,List.drop_zero];repeat' first|exact Qg|with_reducible apply And.intro|intro _
  all_goals simp_all):p:=h
theorem good_IsWord1:Qr Tryz.prog (181,Yh):=by
 obtain ⟨Kx,Kt,Kc,Kd,Kb,Ku,Kw,K,Yj,Kv,_⟩:=Wi Z3 Zn [] false (Ja good_within fV (Ja good_all1 Fa.eq_def Wg));have Ko:=Sa;refine Wh K Tryz.func181 [.tmp 2] rfl 15 rfl (fun c hc cvs hpre=>?_);unfold Yh at hpre;obtain ⟨s,rfl,hs⟩:=J4 hpre;cases hc;have Qh:=@Xe;have Qi:=@Jc;have Z2:=@Kr;have Qd:=@Jn;have Z5:=@Jo;have Z9:=@Zq0;have Qu:=@Zqj;have Kq:w342k:=⟨⟩;exact dX
def U5:Con:=Xy (fun (s:List UInt8)=>s.length≤9223372036854775807) (fun s=>Pg s)
theorem fW:type_of% @U5.eq_def:=@U5.eq_def
structure w343k:Prop
theorem w343k.k (_:w343k) {p:Prop} (h:p:=by
 cases s with
 | nil=>simp [Pg]
 | cons c r =>
  simp only [Zi] at hs;simp only [Zi,Pg,Int.toNat_zero,List.getD_cons_zero,List.drop_succ_cons,List.drop_zero];repeat' first|exact Qg|with_reducible apply And.intro|intro _
  all_goals simp_all):p:=h
theorem good_IsTag1:Qr Tryz.prog (179,U5):=by
 obtain ⟨Kx,Kt,Kc,Kd,Kb,Ku,Kw,K,Yj,Kv,_⟩:=Wi Z3 Zn [] false (Ja good_within fV (Ja good_all1 Fa.eq_def Wg));have Ko:=fW;refine Wh K Tryz.func179 [.tmp 2] rfl 15 rfl (fun c hc cvs hpre=>?_);unfold U5 at hpre;obtain ⟨s,rfl,hs⟩:=J4 hpre;cases hc;have Qh:=@Xe;have Qi:=@Jc;have Z2:=@Kr;have Qd:=@Jn;have Z5:=@Jo;have Z9:=@Zr5;have Qu:=@Zr4;have Kq:w343k:=⟨⟩;exact dX
structure Node where
 kind:Int
 name:List UInt8
 n:Int
 deriving DecidableEq
instance encNode:Enc Node:=⟨fun a=>.agg [.int .i64 a.kind,.str a.name,.int .i64 a.n],fun x=>match x with
 | .agg [a,b,c]=>⟨a.i,b.s,c.i⟩
 | _=>⟨0,[],0⟩,fun a=>rfl⟩
instance szNode:Sz Node:=⟨3⟩
theorem Bf:Sz.sz Node=3:=rfl
theorem Qf {n:Node}:(enc n:D)=.agg [.int .i64 n.kind,.str n.name,.int .i64 n.n]:=rfl
theorem Qn {a:Int} {b:List UInt8} {c:Int}:(dec (.agg [.int .i64 a,.str b,.int .i64 c]):Node)=⟨a,b,c⟩:=rfl
theorem Ql {a:Int} {b:List UInt8} {c:Int}:Up Node (.agg [.int .i64 a,.str b,.int .i64 c])=True:=eq_true rfl
theorem Qm {a b:Node}:((a.kind==b.kind)&&((a.name==b.name)&&(a.n==b.n)))=(a==b):=by
 rw [Bool.eq_iff_iff];cases a;cases b;simp
theorem Qk {n:Node}:Node.mk n.kind n.name n.n=n:=rfl
def Y4 (n:Node):Int:=if n.kind=5 then 2 else if n.kind=6∨n.kind=7 then n.n else 0
def Mu:Con:=Xy (fun (_:Node)=>True) (fun n=>Y4 n)
structure w344k:Prop
theorem w344k.k (_:w344k) {p:Prop} (h:p:=by
 unfold Y4;refine ⟨fun h=>by rw [if_pos h],fun h=>⟨fun h6=>⟨fun h7=>by rw [if_neg h,if_pos (.inr h7)],fun h7=>by rw [if_neg h,if_neg (by omega)]⟩,fun h6=>by rw [if_neg h,if_pos (.inl h6)]⟩⟩):p:=h
theorem good_many3:Qr Tryz.prog (191,Mu):=by
 obtain ⟨Kx,Kt,Kc,Kd,Kb,Ku,Kw,K,_⟩:=Wi Z3 Zn [] false Wg;have Ko:=Mu.eq_def;refine Wh K Tryz.func191 [.tmp 2] rfl 16 rfl (fun c hc cvs hpre=>?_);unfold Mu at hpre;obtain ⟨n,rfl,-⟩:=J4 hpre;cases hc;have Qh:=@Qf;have Qi:=@Ql;have Z2:=@Qn;have Qd:=@Qk;have Z5:=@Bf;have Z9:=@Qm;have Kq:w344k:=⟨⟩;exact dX
def Sg (n:Node):Bool :=
 if n.kind=0∨n.kind=8∨n.kind=9 then decide (0≤n.n)
 else if 1≤n.kind∧n.kind≤5 then decide (n.n=0)
 else if n.kind=6 then decide (0≤n.n)&&decide (n.n≤50)
 else if n.kind=7 then decide (1≤n.n)&&decide (n.n≤50)
 else false
def M5:Con:=Xy (fun (_:Node)=>True) (fun n=>Sg n)
structure w345k:Prop
theorem w345k.k (_:w345k) {p:Prop} (h:p:=by
 unfold Sg;repeat' first|exact Qg|with_reducible apply And.intro|intro _
 all_goals repeat (first|rw [if_pos (by omega)]|rw [if_neg (by omega)])
 all_goals try unfold Xu
 all_goals try unfold Yr
 all_goals rw [Bool.eq_iff_iff]
 all_goals simp only [Zg,Bool.or_eq_true,decide_eq_true_eq,Zp,Zq,iff_self,false_iff,iff_false,true_iff,iff_true]
 all_goals omega):p:=h
theorem good_numbered3:Qr Tryz.prog (155,M5):=by
 obtain ⟨Kx,Kt,Kc,Kd,Kb,Ku,Kw,K,_⟩:=Wi Z3 Zn [] false Wg;have Ko:=M5.eq_def;refine Wh K Tryz.func155 [.tmp 2] rfl 41 rfl (fun c hc cvs hpre=>?_);unfold M5 at hpre;obtain ⟨n,rfl,-⟩:=J4 hpre;cases hc;refine Ys 2 ?_;have Qh:=@Qf;have Qi:=@Ql;have Z2:=@Qn;have Qd:=@Qk;have Z5:=@Bf;have Z9:=@Qm;have Kq:w345k:=⟨⟩;exact dX
def Zbp:List Node→Int→Nat
 | [],_=>0
 | n::l,o=>if o-1+Y4 n=0 then 1 else 1+Zbp l (o-1+Y4 n)
def aK (t:List Node) (i:Int):Int:=if i<0∨(t.length:Int)≤i then -1 else i+Zbp (t.drop i.toNat) 1
def Zgx (t:List Node):Prop:=t.length≤100000∧∀ n∈t,0≤Y4 n∧Y4 n≤50
def Ff:Con:=Wc (fun (t:Sl Node) (i:Int)=>Zgx t.l∧dL .i64 i) (fun t i=>aK t.l i)
structure w347k:Prop
theorem w347k.k (_:w347k) {p:Prop} (h:p:=by
 repeat' first|exact Qg|with_reducible apply And.intro|intro _
 ·rename_i hz;rw [if_pos hz] at he;rw [e0];omega
 ·rename_i hz;rw [if_neg hz] at he;exact ⟨(k+1,o-1+Y4 (t.getD k ⟨0,[],0⟩)),by exact Qy,by simp only;omega,by simp only;omega,by simp only;omega,by simp only;omega,by simp only;omega,by simp only;omega⟩):p:=h
structure w348k:Prop
theorem w348k.k (_:w348k) {p:Prop} (h:p:=by
 rw [e0];omega):p:=h
structure w346k:Prop
theorem w346k.k (_:w346k) {p:Prop} (h:p:=by
 repeat' first|exact Qg|with_reducible apply And.intro|intro _
 ·unfold aK;rw [if_pos (.inr ‹_›)]
 ·obtain ⟨i,rfl⟩:∃ n:Nat,i=n:=⟨i.toNat,by omega⟩
  have hil:i<t.length:=by omega
  have e0:aK t i=i+Zbp (t.drop i) 1:=by
   unfold aK;rw [if_neg (by omega)]
   rfl
  refine Zh [4,16,17,18,19,20,21,22,23,24,25,26,27,28,29,30,31,32,33] (fun p:Nat×Int=>[(5,.d (.int .i64 p.2)),(6,.d (.int .i64 p.1))]) (fun p:Nat×Int=>[]) (fun p:Nat×Int=>i≤p.1∧p.1≤t.length∧1≤p.2∧p.2≤1+50*p.1∧i+Zbp (t.drop i) 1=p.1+Zbp (t.drop p.1) p.2) (fun p:Nat×Int=>t.length-p.1) (i,1) ?_ ?_ ?_
  ·exact ⟨Zm _,by simp only;omega,by simp,by simp only;omega,rfl⟩
  ·exact Qy
  rintro ⟨k,o⟩ ⟨h1,h2,h3,h4,h5⟩;simp only at h1 h2 h3 h4 h5;rcases Zl k t.length with ⟨hlt,Qh⟩|⟨hlt,Qh⟩
  ·have hmk:=hm (t.getD k ⟨0,[],0⟩) (by simp [hlt])
   have he:Zbp (t.drop k) o=if o-1+Y4 (t.getD k ⟨0,[],0⟩)=0 then 1 else 1+Zbp (t.drop (k+1)) (o-1+Y4 (t.getD k ⟨0,[],0⟩)):=by
    rw [List.drop_eq_getElem_cons hlt,Zbp];simp [hlt]
   have Qi:=Zo (⟨0,[],0⟩:Node) hlt;have Z2:=@Qf;have Qd:=@Ql;have Z5:=@Qn;have Z9:=@Qk;have Qu:=@Bf;have Q0:=@Qm;have Kq:w347k:=⟨⟩;exact dX
  ·have hd:t.drop k=[]:=List.drop_eq_nil_of_le hlt;rw [hd,Zbp] at h5;have Z2:=@Qf;have Qd:=@Ql;have Z5:=@Qn;have Z9:=@Qk;have Qu:=@Bf;have Q0:=@Qm;have Kq:w348k:=⟨⟩;exact dX
 ·unfold aK;rw [if_pos (.inl ‹_›)]):p:=h
theorem good_End3:Qr Tryz.prog (156,Ff):=by
 obtain ⟨Kx,Kt,Kc,Kd,Kb,Ku,Kw,K,Yj,_⟩:=Wi Z3 Zn [] false (Ja good_many3 Mu.eq_def Wg);have Ko:=Ff.eq_def;refine Wh K Tryz.func156 [.tmp 4] rfl 36 rfl (fun c hc cvs hpre=>?_);unfold Ff at hpre;obtain ⟨⟨t⟩,i,rfl,⟨ht,hm⟩,hi⟩:=Jr hpre;simp only at ht hm;rw [Xb] at hi;cases hc;refine Ys 2 ?_;have Z2:=@Qf;have Qd:=@Ql;have Z5:=@Qn;have Z9:=@Qk;have Qu:=@Bf;have Q0:=@Qm;have Kq:w346k:=⟨⟩;exact dX
theorem Gp {α:Type} {l:List α} {k:Nat} (d:α) (h:k<l.length):l.take (k+1)=l.take k++[l.getD k d]:=by
 rw [List.take_succ_eq_append_getElem h];simp [h]
def Em (t:List Node):Bool:=t.all fun n=>n.kind != 8&&n.kind != 9
def Dq:Con:=Xy (fun (t:Sl Node)=>t.l.length≤9223372036854775807) (fun t=>Em t.l)
structure w350k:Prop
theorem w350k.k (_:w350k) {p:Prop} (h:p:=by
 have hbad:((t.getD k ⟨0,[],0⟩).kind != 8&&(t.getD k ⟨0,[],0⟩).kind != 9)=false→false=Em t:=by
  intro h;unfold Em;rw [R8 (p:=fun n:Node=>n.kind != 8&&n.kind != 9) ⟨0,[],0⟩ k hlt h]
 repeat' first|exact Qg|with_reducible apply And.intro|intro _
 ·rename_i h8 h9;exact hbad (by rw [h9];simp)
 ·rename_i h8 h9;refine ⟨k+1,by exact Qy,by omega,fun j hj=>?_,by omega⟩
  by_cases hjk:j=k
  ·subst hjk;simp only [bne_iff_ne,ne_eq,Zg];exact ⟨h8,h9⟩
  ·exact hno j (by omega)
 ·rename_i h8;exact hbad (by rw [h8];simp)):p:=h
structure w351k:Prop
theorem w351k.k (_:w351k) {p:Prop} (h:p:=by
 unfold Em;rw [B4 (p:=fun n:Node=>n.kind != 8&&n.kind != 9) ⟨0,[],0⟩ fun j hj=>hno j (by omega)]):p:=h
structure w349k:Prop
theorem w349k.k (_:w349k) {p:Prop} (h:p:=by
 refine Zh [2,4,5,6,7,8,9,10,11,12,13,14,15,16,17,18,19,20,21,22,23] (fun k:Nat=>[(3,.d (.int .i64 k))]) (fun k:Nat=>[]) (fun k:Nat=>k≤t.length∧∀ j,j<k→((t.getD j ⟨0,[],0⟩).kind != 8&&(t.getD j ⟨0,[],0⟩).kind != 9)=true) (fun k:Nat=>t.length-k) 0 ?_ ?_ ?_
 ·simp
 ·exact Qy
 rintro k ⟨hk,hno⟩;rcases Zl k t.length with ⟨hlt,Qh⟩|⟨hlt,Qh⟩
 ·have Qi:=Zo (⟨0,[],0⟩:Node) hlt;have Z2:=@Qf;have Qd:=@Ql;have Z5:=@Qn;have Z9:=@Qk;have Qu:=@Bf;have Q0:=@Qm;have Kq:w350k:=⟨⟩;exact dX
 ·have Z2:=@Qf;have Qd:=@Ql;have Z5:=@Qn;have Z9:=@Qk;have Qu:=@Bf;have Q0:=@Qm;have Kq:w351k:=⟨⟩;exact dX):p:=h
theorem good_Plain3:Qr Tryz.prog (114,Dq):=by
 obtain ⟨Kx,Kt,Kc,Kd,Kb,Ku,Kw,K,_⟩:=Wi Z3 Zn [] false Wg;have Ko:=Dq.eq_def;refine Wh K Tryz.func114 [.tmp 2] rfl 24 rfl (fun c hc cvs hpre=>?_);unfold Dq at hpre;obtain ⟨⟨t⟩,rfl,ht⟩:=J4 hpre;simp only at ht;cases hc;have Z2:=@Qf;have Qd:=@Ql;have Z5:=@Qn;have Z9:=@Qk;have Qu:=@Bf;have Q0:=@Qm;have Kq:w349k:=⟨⟩;exact dX
def T7:Con:=Wc (fun (a b:Sl Node)=>a.l.length≤9223372036854775807∧b.l.length≤9223372036854775807) (fun a b=>a.l==b.l)
structure w353k:Prop
theorem w353k.k (_:w353k) {p:Prop} (h:p:=by
 repeat' first|exact Qg|with_reducible apply And.intro|intro _
 ·kernel_rfl
 ·rename_i h;symm;rw [Zf];intro e;exact h (by rw [e])
 ·rename_i h;refine ⟨k+1,by exact Qy,by omega,fun j hj=>?_,by omega⟩
  by_cases hjk:j=k
  ·subst hjk;exact h
  ·exact hno j (by omega)):p:=h
structure w354k:Prop
theorem w354k.k (_:w354k) {p:Prop} (h:p:=by
 symm;rw [Zp];refine List.ext_getElem hlen fun j h1 h2=>?_;have:=hno j (by omega)
 simpa [h1,h2] using this):p:=h
structure w352k:Prop
theorem w352k.k (_:w352k) {p:Prop} (h:p:=by
 refine ⟨fun hne=>?_,fun heq=>?_⟩
 ·symm;rw [Zf];intro h;exact hne (by rw [h])
 have hlen:a.length=b.length:=by omega
 refine Zh [4,11,12,13,14,15,16,17,18,19,20,21,22,23,24,25] (fun k:Nat=>[(5,.d (.int .i64 k))]) (fun k:Nat=>[]) (fun k:Nat=>k≤a.length∧∀ j,j<k→a.getD j ⟨0,[],0⟩=b.getD j ⟨0,[],0⟩) (fun k:Nat=>a.length-k) 0 ?_ ?_ ?_
 ·simp
 ·exact Qy
 rintro k ⟨hk,hno⟩;rcases Zl k a.length with ⟨hlt,Qh⟩|⟨hlt,Qh⟩
 ·have Qi:=Zo (⟨0,[],0⟩:Node) hlt;have Z2:=Zo (⟨0,[],0⟩:Node) (show k<b.length by omega)
  have Qd:=@Qf;have Z5:=@Ql;have Z9:=@Qn;have Qu:=@Qk;have Q0:=@Bf;have Q2:=@Qm;have Kq:w353k:=⟨⟩;exact dX
 ·have Qd:=@Qf;have Z5:=@Ql;have Z9:=@Qn;have Qu:=@Qk;have Q0:=@Bf;have Q2:=@Qm;have Kq:w354k:=⟨⟩;exact dX):p:=h
theorem good_One3:Qr Tryz.prog (49,T7):=by
 obtain ⟨Kx,Kt,Kc,Kd,Kb,Ku,Kw,K,_⟩:=Wi Z3 Zn [] false Wg;have Ko:=T7.eq_def;refine Wh K Tryz.func49 [.tmp 4] rfl 26 rfl (fun c hc cvs hpre=>?_);unfold T7 at hpre;obtain ⟨⟨a⟩,⟨b⟩,rfl,ha,hb⟩:=Jr hpre;simp only at ha hb;cases hc;have Qd:=@Qf;have Z5:=@Ql;have Z9:=@Qn;have Qu:=@Qk;have Q0:=@Bf;have Q2:=@Qm;have Kq:w352k:=⟨⟩;exact dX
def Ab (n:Node):Node:=if n.kind=0 then { n with n:=0 } else n
def Tn (a b:List Node):Bool:=a.map Ab==b.map Ab
def T6:Con:=Wc (fun (a b:Sl Node)=>a.l.length≤9223372036854775807∧b.l.length≤9223372036854775807) (fun a b=>Tn a.l b.l)
structure w356k:Prop
theorem w356k.k (_:w356k) {p:Prop} (h:p:=by
 revert hyes hbad;generalize a.getD k ⟨0,[],0⟩=x;generalize b.getD k ⟨0,[],0⟩=y;intro hyes hbad;repeat' first|exact Qg|with_reducible apply And.intro|intro _
 ·kernel_rfl
 all_goals first|(refine hbad (fun e=>?_);revert e;clear hyes hbad hno;cases x;cases y;simp_all [Ab];done)|exact ⟨k+1,by exact Qy,by omega,hyes (by clear hyes hbad hno;cases x;cases y;simp_all [Ab]),by omega⟩):p:=h
structure w357k:Prop
theorem w357k.k (_:w357k) {p:Prop} (h:p:=by
 symm;unfold Tn;rw [Zp];refine List.ext_getElem (by simp [hlen]) fun j h1 h2=>?_
 rw [Zk] at h1 h2;have:=hno j (by omega)
 simpa [h1,h2] using this):p:=h
structure w355k:Prop
theorem w355k.k (_:w355k) {p:Prop} (h:p:=by
 refine ⟨fun hne=>?_,fun heq=>?_⟩
 ·symm;unfold Tn;rw [Zf];intro h;have:=congrArg List.length h;rw [Zk,Zk] at this;exact hne (by rw [this])
 have hlen:a.length=b.length:=by omega
 refine Zh [4,6,7,13,14,15,16,17,18,19,20,21,22,23,24,25,26,27,28,29,30,31,32,33,34,35,36,37] (fun k:Nat=>[(5,.d (.int .i64 k))]) (fun k:Nat=>[]) (fun k:Nat=>k≤a.length∧∀ j,j<k→Ab (a.getD j ⟨0,[],0⟩)=Ab (b.getD j ⟨0,[],0⟩)) (fun k:Nat=>a.length-k) 0 ?_ ?_ ?_
 ·simp
 ·exact Qy
 rintro k ⟨hk,hno⟩;rcases Zl k a.length with ⟨hlt,Qh⟩|⟨hlt,Qh⟩
 ·have hyes:Ab (a.getD k ⟨0,[],0⟩)=Ab (b.getD k ⟨0,[],0⟩)→∀ j,j<k+1→Ab (a.getD j ⟨0,[],0⟩)=Ab (b.getD j ⟨0,[],0⟩):=by
   intro h j hj;by_cases hjk:j=k
   ·subst hjk;exact h
   ·exact hno j (by omega)
  have hbad:Ab (a.getD k ⟨0,[],0⟩)≠Ab (b.getD k ⟨0,[],0⟩)→false=Tn a b:=by
   intro h;symm;unfold Tn;rw [Zf];intro e;apply h;have h1:(a.map Ab).getD k ⟨0,[],0⟩=(b.map Ab).getD k ⟨0,[],0⟩:=by rw [e]
   simpa [hlt,show k<b.length by omega] using h1
  have Qi:=Zo (⟨0,[],0⟩:Node) hlt;have Z2:=Zo (⟨0,[],0⟩:Node) (show k<b.length by omega)
  have Qd:=@Qf;have Z5:=@Ql;have Z9:=@Qn;have Qu:=@Qk;have Q0:=@Bf;have Q2:=@Qm;have Kq:w356k:=⟨⟩;exact dX
 ·have Qd:=@Qf;have Z5:=@Ql;have Z9:=@Qn;have Qu:=@Qk;have Q0:=@Bf;have Q2:=@Qm;have Kq:w357k:=⟨⟩;exact dX):p:=h
theorem good_Same3:Qr Tryz.prog (134,T6):=by
 obtain ⟨Kx,Kt,Kc,Kd,Kb,Ku,Kw,K,_⟩:=Wi Z3 Zn [] false Wg;have Ko:=T6.eq_def;refine Wh K Tryz.func134 [.tmp 4] rfl 38 rfl (fun c hc cvs hpre=>?_);unfold T6 at hpre;obtain ⟨⟨a⟩,⟨b⟩,rfl,ha,hb⟩:=Jr hpre;simp only at ha hb;cases hc;refine Ys 2 ?_;have Qd:=@Qf;have Z5:=@Ql;have Z9:=@Qn;have Qu:=@Qk;have Q0:=@Bf;have Q2:=@Qm;have Kq:w355k:=⟨⟩;exact dX
def Tk (a b:List Node):List Node:=⟨5,[],0⟩::(a++b)
def Dv:Con:=Wc (fun (a b:Sl Node)=>a.l.length≤1048576∧b.l.length≤1048576) (fun a b=>Sl.mk (Tk a.l b.l))
structure w358k:Prop
theorem w358k.k (_:w358k) {p:Prop} (h:p:=by
 repeat' first|exact Qg|with_reducible apply And.intro|intro _
 rfl):p:=h
theorem good_Arrow3:Qr Tryz.prog (265,Dv):=by
 obtain ⟨Kx,Kt,Kc,Kd,Kb,Ku,Kw,K,_⟩:=Wi Z3 Zn [] false Wg;have Ko:=Dv.eq_def;refine Wh K Tryz.func265 [.tmp 4] rfl 15 rfl (fun c hc cvs hpre=>?_);unfold Dv at hpre;obtain ⟨⟨a⟩,⟨b⟩,rfl,ha,hb⟩:=Jr hpre;simp only at ha hb;cases hc;have Qh:=@Qf;have Qi:=@Ql;have Z2:=@Qn;have Qd:=@Qk;have Z5:=@Bf;have Z9:=@Qm;have Kq:w358k:=⟨⟩;exact dX
theorem Zlo:∀ (l:List Node) (o:Int),Zbp l o≤l.length
 | [],o=>by simp [Zbp]
 | n::l,o=>by
  simp only [Zbp];split
  ·simp
  ·have:=Zlo l (o-1+Y4 n);simp only [Zi];omega
def Wr (t:List Node):Nat→Nat→List Int
 | 0,_=>[]
 | m+1,at_=>if at_<t.length then (at_:Int)::Wr t m (at_+Zbp (t.drop at_) 1) else []
def Sm (t:List Node) (i:Int):List Int:=if i<0∨(t.length:Int)≤i then [] else Wr t (Y4 (t.getD i.toNat ⟨0,[],0⟩)).toNat (i.toNat+1)
def Rr:Con:=Wc (fun (t:Sl Node) (i:Int)=>Zgx t.l∧dL .i64 i) (fun t i=>Sl.mk (Sm t.l i))
structure w360k:Prop
theorem w360k.k (_:w360k) {p:Prop} (h:p:=by
 repeat' first|exact Qg|with_reducible apply And.intro|intro _
 refine ⟨(k+1,q+Zbp (t.drop q) 1,out++[(q:Int)]),by exact Qy,by simp only;omega,by simp only;omega,by simp [h3],?_,by simp only;omega⟩
 simp only;rw [←h4,show M-(k+1)=M-k-1 by omega]
 simp):p:=h
structure w361k:Prop
theorem w361k.k (_:w361k) {p:Prop} (h:p:=by
 repeat' first|exact Qg|with_reducible apply And.intro|intro _
 rw [e0,h4]):p:=h
structure w362k:Prop
theorem w362k.k (_:w362k) {p:Prop} (h:p:=by
 repeat' first|exact Qg|with_reducible apply And.intro|intro _
 rw [e0,h4]):p:=h
structure w359k:Prop
theorem w359k.k (_:w359k) {p:Prop} (h:p:=by
 repeat' first|exact Qg|with_reducible apply And.intro|intro _
 ·unfold Sm;rw [if_pos (.inr ‹_›)];rfl
 ·obtain ⟨i,rfl⟩:∃ n:Nat,i=n:=⟨i.toNat,by omega⟩
  have hil:i<t.length:=by omega
  have hmi:=hm (t.getD i ⟨0,[],0⟩) (by simp [hil])
  obtain ⟨M,Z2⟩:∃ M:Nat,Y4 (t.getD i ⟨0,[],0⟩)=M:=⟨(Y4 (t.getD i ⟨0,[],0⟩)).toNat,by omega⟩
  have e0:Sm t i=Wr t M (i+1):=by
   unfold Sm;rw [if_neg (by omega)]
   simp only [Ze,Z2]
  refine Zh [20,21,22,23,24,25,26,27,28,29,30,31,32,33,34,35,36,37,38,39,40,41] (fun p:Nat×Nat×List Int=>[(5,.sl 8 (p.2.2.map enc).length),(6,.d (.int .i64 p.2.1)),(7,.d (.int .i64 p.1))]) (fun p:Nat×Nat×List Int=>[(8,.row 1 (p.2.2.map enc) 0)]) (fun p:Nat×Nat×List Int=>p.1≤M∧p.2.1≤t.length∧p.2.2.length=p.1∧p.2.2++Wr t (M-p.1) p.2.1=Wr t M (i+1)) (fun p:Nat×Nat×List Int=>M-p.1) (0,i+1,[]) ?_ ?_ ?_
  ·exact ⟨Nat.zero_le _,hil,rfl,rfl⟩
  ·exact Qy
  rintro ⟨k,q,out⟩ ⟨h1,h2,h3,h4⟩;simp only at h1 h2 h3 h4;rcases Zl k M with ⟨hk,Qh⟩|⟨hk,Qh⟩
  ·rcases Zl q t.length with ⟨hq,Qi⟩|⟨hq,Qi⟩
   ·have e1:M-k=(M-k-1)+1:=by omega
    rw [e1,Wr,if_pos hq] at h4;have hle:=Zlo (t.drop q) 1;rw [List.length_drop] at hle;have Qd:aK t q=((q+Zbp (t.drop q) 1:Nat):Int):=by
     unfold aK;rw [if_neg (by omega)]
     simp
    have hT:Zgx t:=⟨ht,hm⟩;have Z5:=Zo (⟨0,[],0⟩:Node) hil;have Q0:=@Qf;have Q2:=@Ql;have Qz:=@Qn;have Zv:=@Qk;have Zx:=@Bf;have Zu:=@Qm;have Kq:w360k:=⟨⟩;exact dX
   ·have hz:Wr t (M-k) q=[]:=by
     cases hc:M-k with
     | zero=>rfl
     | succ c=>rw [Wr,if_neg (by omega)]
    rw [hz,List.append_nil] at h4;have Z9:=Zo (⟨0,[],0⟩:Node) hil;have Q0:=@Qf;have Q2:=@Ql;have Qz:=@Qn;have Zv:=@Qk;have Zx:=@Bf;have Zu:=@Qm;have Kq:w361k:=⟨⟩;exact dX
  ·have hz:Wr t (M-k) q=[]:=by
    rw [show M-k=0 by omega]
    rfl
   rw [hz,List.append_nil] at h4;have Qu:=Zo (⟨0,[],0⟩:Node) hil;have Q0:=@Qf;have Q2:=@Ql;have Qz:=@Qn;have Zv:=@Qk;have Zx:=@Bf;have Zu:=@Qm;have Kq:w362k:=⟨⟩;exact dX
 ·unfold Sm;rw [if_pos (.inl ‹_›)];rfl):p:=h
theorem good_Kids3:Qr Tryz.prog (159,Rr):=by
 obtain ⟨Kx,Kt,Kc,Kd,Kb,Ku,Kw,K,Yj,Kv,_⟩:=Wi Z3 Zn [] false (Ja good_End3 Ff.eq_def (Ja good_many3 Mu.eq_def Wg));have Ko:=Rr.eq_def;refine Wh K Tryz.func159 [.tmp 4] rfl 43 rfl (fun c hc cvs hpre=>?_);unfold Rr at hpre;obtain ⟨⟨t⟩,i,rfl,⟨ht,hm⟩,hi⟩:=Jr hpre;simp only at ht hm;rw [Xb] at hi;cases hc;refine Ys 2 ?_;have Q0:=@Qf;have Q2:=@Ql;have Qz:=@Qn;have Zv:=@Qk;have Zx:=@Bf;have Zu:=@Qm;have Kq:w359k:=⟨⟩;exact dX
def Eb:Int→List Int→List Int
 | x,[]=>if x=0 then [] else [x]
 | x,y::r=>if x=0 then Eb (y-1) r else x::y::r
def Ziz:List Int→List Int
 | []=>[]
 | x::r=>Eb x r
def eK:List Node→List Int→Bool
 | [],_=>true
 | n::l,rs=>if 100≤rs.length then false else eK l (Eb (Y4 n) rs)
def La (t:List Node):Bool:=eK t []
def Zos (rs:List Int):Prop:=(∀ x∈rs,0≤x∧x≤50)∧∀ x∈rs.tail,1≤x
theorem I6 {x:Int} {r:List Int}:el ((x::r).reverse.map enc) r.length=.int .i64 x:=by
 simp [el]
theorem Zcu {x:Int} {r:List Int}:((x::r).reverse.map (enc:Int→D)).take r.length=r.reverse.map enc:=by
 rw [List.reverse_cons,List.map_append,List.take_left' (by simp)]
theorem I5 {x y:Int} {r:List Int}:((x::r).reverse.map (enc:Int→D)).set r.length (.int .i64 y)=(y::r).reverse.map enc:=by
 rw [List.reverse_cons,List.map_append,List.set_append];simp
theorem Fq {x:Int} {r:List Int} (h:x≠0):Eb x r=x::r:=by
 cases r<;>simp [Eb,h]
def Bn:Con:=Xy (fun (t:Sl Node)=>Zgx t.l) (fun t=>La t.l)
theorem Zsb {p:Prop} (h:p:=by (sym=>simp [Kt,Kc,Kd,Kb,Ku,Kw,Ko,Yj,Kv,P4,B6,D2,It,bD,jC,jH,jG,Qh,Qi,Z2,Qd,Z5,Z9,Qu,Q0,Q2,Qz,Zv,Zx,Zu,Zy,Zz,Z4,Zs,Zt,Z8,Qt,Qw,Qv,Qj,Qq,Q6,Q9,Wb,Xp,X8,X7,X6,V7,V6,V5,Ul,Uk,Uj,D.setCell.eq_1,Ze,Jo,Q1,Jh,J8,J7,Js,Qn,Jg,Qf,Qm,Jn,Kr,Ql,Jj,Jc,X3,Qk,I5,Bf,Xe,wU,wT,wS,wR,wP,wO,wN,wM,wL,wI,wH,wG,wF,wE,wD,wC,wB,wA,wK,wW,wV,wY,wJ,wX,wZ,wQ,vU,vT,vS,vR,vP,vO,vN,vM,vL,vI,vH,vG,vF,vE,vD,vC,vB,vA,vK,vW,vV,vY,vJ,vX,vZ,vQ,uU,uT,uS,uR,uP,uO,uN,uM,uL,uI,uH,uG,uF,uE,uD,uC,uB,uA,uK,uW,uV,uY,uJ,uX,uZ,uQ,tU,tT,tS,tR,tP,tO,tN,tM,tL,tI,tH,tG,tF,tE,tD,tC,tB,tA,tK,tW,tV,tY,tJ,tX,tZ,tQ,sU,sT,sS,sR,sP,sO,sN,sM,sL,sI,sH,sG,sF,sE,sD,sC,sB,sA,sK,sW,sV,sY,sJ,sX,sZ,sQ,rU,rT,rS,rR,rP,rO,rN,rM,rL,rI,rH,rG,rF,rE,rD,rC,rB,rA,rK,rW,rV,rY,rJ,rX,rZ,rQ,qU,qT,qS,qR,qP,qO,qN,qM,qL,qI,qH,qG,qF,qE,qD,qC,qB,qA,qK,qW,qV,qY,qJ,qX,qZ,qQ,pU,pT,pS,pR,pP,pO,pN,pM,pL,pI,pH,pG,pF,pE,pD,pC,pB,pA,pK,pW,pV,pY,pJ,pX,pZ,pQ,oU,oT,oS,oR,oP,oO,oN,oM,oL,oI,oH,oG,oF,oE,oD,oC,oB,oA,oK,oW,oV,oY,oJ,oX,oZ,oQ,nU,nT,nS,nR,nP,nO,nN,nM,nL,nI,nH,nG,nF,nE,nD,nC,nB,nA,nK,nW,nV,nY,nJ,nX,nZ,nQ,mU,mT,mS,mR,mP,mO,mN,mM,mL,mI,mH,mG,mF,mE,mD,mC,mB,mA,mK,mW,mV,mY,mJ,mX,mZ,mQ,lU,lT,lS,lR,lP,lO,lN,lM,lL,lI,lH,lG,lF,lE,lD,lC,lB,lA,lK,lW,lV,lY,lJ,lX,lZ,lQ,kU,kT,kS,kR,kP,kO,kN,kM,kL,kI,kH,kG,kF,kE,kD,kC,kB,kA,kK,kW,kV,kY,kJ,kX,kZ,kQ,jU,jT,jS,jR,jP,jO,jN,jM,jL,jI,S9,S8,S7,S6,S5,S4,H6,H5,H4,H3,H2,H1,H0,Hz,Hy,Hx,Hw,Hv,Hu,Ht,Hs,Hr,Hq,Hp,Ho,Hn,Hm,Hl,Hk,Hj,Hi,Hh,Hg,V2,V1,V0,Vz,Vy,Vx,Vw,Vv,Vu,Vt,Vs,Vr,Vq,Vp,Vo,Vn,Vm,Vl,Vk,Vj,Vi,Vh,Vg,Vf,Ve,Vd,Vc,Vb,Va,Y9,Y8])):p:=h
theorem Pc {p:Prop} (h:p:=by
 (sym=>simp [Kt,Kc,Kd,Kb,Ku,Kw,Ko,Yj,Kv,P4,B6,D2,It,bD,jC,jH,jG,Qh,Qi,Z2,Qd,Z5,Z9,Qu,Q0,Q2,Qz,Zv,Zx,Zu,Zy,Zz,Z4,Zs,Zt,Z8,Qt,Qw,Qv,Qj,Qq,Q6,Q9,Wb,Xp,X8,X7,X6,V7,V6,V5,Ul,Uk,Uj,D.setCell.eq_1,Ze,Jo,Q1,Jh,J8,J7,Js,Qn,Jg,Qf,Qm,Jn,Kr,Ql,Jj,Jc,X3,Qk,I5,Bf,Xe,wU,wT,wS,wR,wP,wO,wN,wM,wL,wI,wH,wG,wF,wE,wD,wC,wB,wA,wK,wW,wV,wY,wJ,wX,wZ,wQ,vU,vT,vS,vR,vP,vO,vN,vM,vL,vI,vH,vG,vF,vE,vD,vC,vB,vA,vK,vW,vV,vY,vJ,vX,vZ,vQ,uU,uT,uS,uR,uP,uO,uN,uM,uL,uI,uH,uG,uF,uE,uD,uC,uB,uA,uK,uW,uV,uY,uJ,uX,uZ,uQ,tU,tT,tS,tR,tP,tO,tN,tM,tL,tI,tH,tG,tF,tE,tD,tC,tB,tA,tK,tW,tV,tY,tJ,tX,tZ,tQ,sU,sT,sS,sR,sP,sO,sN,sM,sL,sI,sH,sG,sF,sE,sD,sC,sB,sA,sK,sW,sV,sY,sJ,sX,sZ,sQ,rU,rT,rS,rR,rP,rO,rN,rM,rL,rI,rH,rG,rF,rE,rD,rC,rB,rA,rK,rW,rV,rY,rJ,rX,rZ,rQ,qU,qT,qS,qR,qP,qO,qN,qM,qL,qI,qH,qG,qF,qE,qD,qC,qB,qA,qK,qW,qV,qY,qJ,qX,qZ,qQ,pU,pT,pS,pR,pP,pO,pN,pM,pL,pI,pH,pG,pF,pE,pD,pC,pB,pA,pK,pW,pV,pY,pJ,pX,pZ,pQ,oU,oT,oS,oR,oP,oO,oN,oM,oL,oI,oH,oG,oF,oE,oD,oC,oB,oA,oK,oW,oV,oY,oJ,oX,oZ,oQ,nU,nT,nS,nR,nP,nO,nN,nM,nL,nI,nH,nG,nF,nE,nD,nC,nB,nA,nK,nW,nV,nY,nJ,nX,nZ,nQ,mU,mT,mS,mR,mP,mO,mN,mM,mL,mI,mH,mG,mF,mE,mD,mC,mB,mA,mK,mW,mV,mY,mJ,mX,mZ,mQ,lU,lT,lS,lR,lP,lO,lN,lM,lL,lI,lH,lG,lF,lE,lD,lC,lB,lA,lK,lW,lV,lY,lJ,lX,lZ,lQ,kU,kT,kS,kR,kP,kO,kN,kM,kL,kI,kH,kG,kF,kE,kD,kC,kB,kA,kK,kW,kV,kY,kJ,kX,kZ,kQ,jU,jT,jS,jR,jP,jO,jN,jM,jL,jI,S9,S8,S7,S6,S5,S4,H6,H5,H4,H3,H2,H1,H0,Hz,Hy,Hx,Hw,Hv,Hu,Ht,Hs,Hr,Hq,Hp,Ho,Hn,Hm,Hl,Hk,Hj,Hi,Hh,Hg,V2,V1,V0,Vz,Vy,Vx,Vw,Vv,Vu,Vt,Vs,Vr,Vq,Vp,Vo,Vn,Vm,Vl,Vk,Vj,Vi,Vh,Vg,Vf,Ve,Vd,Vc,Vb,Va,Y9,Y8];tactic =>
   try simp only [Sh] at *
   try simp only [Zhf] at *
   try simp (maxSteps:=4000000) only [Qh,Qi,Z2,Qd,Z5,Z9,Qu,Q0,Q2,Qz,Zv,Zx,Zu,Zy,Zz,Z4,Zs,Zt,Z8,Qt,Qw,Qv,Qj,Qq,Q6,Q9,Wb,Xp,X8,X7,X6,V7,V6,V5,Ul,Uk,Uj,D.setCell.eq_1,Ze,Jo,Q1,Jh,J8,J7,Js,Qn,Jg,Qf,Qm,Jn,Kr,Ql,Jj,Jc,X3,Qk,I5,Bf,Xe,Ix]
   first|done|exact Kq.k)):p:=h
theorem Zo3 {p:Prop} (h:p:=by
 (sym=>simp [Kt,Kc,Kd,Kb,Ku,Kw,Ko,Yj,Kv,P4,B6,D2,It,bD,jC,jH,jG,Qh,Qi,Z2,Qd,Z5,Z9,Qu,Q0,Q2,Qz,Zv,Zx,Zu,Zy,Zz,Z4,Zs,Zt,Z8,Qt,Qw,Qv,Qj,Qq,Q6,Q9,Wb,Xp,X8,X7,X6,V7,V6,V5,Ul,Uk,Uj,D.setCell.eq_1,Ze,Jo,Q1,Jh,J8,J7,Js,Qn,Jg,Qf,Qm,Jn,Kr,Ql,Jj,Jc,X3,Qk,I5,Bf,Xe,wU,wT,wS,wR,wP,wO,wN,wM,wL,wI,wH,wG,wF,wE,wD,wC,wB,wA,wK,wW,wV,wY,wJ,wX,wZ,wQ,vU,vT,vS,vR,vP,vO,vN,vM,vL,vI,vH,vG,vF,vE,vD,vC,vB,vA,vK,vW,vV,vY,vJ,vX,vZ,vQ,uU,uT,uS,uR,uP,uO,uN,uM,uL,uI,uH,uG,uF,uE,uD,uC,uB,uA,uK,uW,uV,uY,uJ,uX,uZ,uQ,tU,tT,tS,tR,tP,tO,tN,tM,tL,tI,tH,tG,tF,tE,tD,tC,tB,tA,tK,tW,tV,tY,tJ,tX,tZ,tQ,sU,sT,sS,sR,sP,sO,sN,sM,sL,sI,sH,sG,sF,sE,sD,sC,sB,sA,sK,sW,sV,sY,sJ,sX,sZ,sQ,rU,rT,rS,rR,rP,rO,rN,rM,rL,rI,rH,rG,rF,rE,rD,rC,rB,rA,rK,rW,rV,rY,rJ,rX,rZ,rQ,qU,qT,qS,qR,qP,qO,qN,qM,qL,qI,qH,qG,qF,qE,qD,qC,qB,qA,qK,qW,qV,qY,qJ,qX,qZ,qQ,pU,pT,pS,pR,pP,pO,pN,pM,pL,pI,pH,pG,pF,pE,pD,pC,pB,pA,pK,pW,pV,pY,pJ,pX,pZ,pQ,oU,oT,oS,oR,oP,oO,oN,oM,oL,oI,oH,oG,oF,oE,oD,oC,oB,oA,oK,oW,oV,oY,oJ,oX,oZ,oQ,nU,nT,nS,nR,nP,nO,nN,nM,nL,nI,nH,nG,nF,nE,nD,nC,nB,nA,nK,nW,nV,nY,nJ,nX,nZ,nQ,mU,mT,mS,mR,mP,mO,mN,mM,mL,mI,mH,mG,mF,mE,mD,mC,mB,mA,mK,mW,mV,mY,mJ,mX,mZ,mQ,lU,lT,lS,lR,lP,lO,lN,lM,lL,lI,lH,lG,lF,lE,lD,lC,lB,lA,lK,lW,lV,lY,lJ,lX,lZ,lQ,kU,kT,kS,kR,kP,kO,kN,kM,kL,kI,kH,kG,kF,kE,kD,kC,kB,kA,kK,kW,kV,kY,kJ,kX,kZ,kQ,jU,jT,jS,jR,jP,jO,jN,jM,jL,jI,S9,S8,S7,S6,S5,S4,H6,H5,H4,H3,H2,H1,H0,Hz,Hy,Hx,Hw,Hv,Hu,Ht,Hs,Hr,Hq,Hp,Ho,Hn,Hm,Hl,Hk,Hj,Hi,Hh,Hg,V2,V1,V0,Vz,Vy,Vx,Vw,Vv,Vu,Vt,Vs,Vr,Vq,Vp,Vo,Vn,Vm,Vl,Vk,Vj,Vi,Vh,Vg,Vf,Ve,Vd,Vc,Vb,Va,Y9,Y8];tactic =>
   try simp only [Sh] at *
   try simp only [Zhf] at *
   try simp (maxSteps:=4000000) only [Qh,Qi,Z2,Qd,Z5,Z9,Qu,Q0,Q2,Qz,Zv,Zx,Zu,Zy,Zz,Z4,Zs,Zt,Z8,Qt,Qw,Qv,Qj,Qq,Q6,Q9,Wb,Xp,X8,X7,X6,V7,V6,V5,Ul,Uk,Uj,D.setCell.eq_1,Ze,Jo,Q1,Jh,J8,J7,Js,Qn,Jg,Qf,Qm,Jn,Kr,Ql,Jj,Jc,X3,Qk,I5,Bf,Xe,Ix]
   repeat' first|with_reducible assumption|with_reducible apply And.intro|intro _|omega|(rw [Xb];omega)
   all_goals first|with_reducible exact Jf|omega|rfl|trivial|exact Or.inr trivial|assumption|contradiction|exact Qy)):p:=h
structure w365k:Prop
theorem w365k.k (_:w365k) {p:Prop} (h:p:=by
 repeat' first|exact Qg|with_reducible apply And.intro|intro _
 simp only [Ziz] at g4;exact ⟨(k+1,[]),by exact Qy,by simp only;omega,by simp,by simp,by simp only;rw [←h4,e1,g4],by simp only;omega⟩):p:=h
structure w366k:Prop
theorem w366k.k (_:w366k) {p:Prop} (h:p:=by
 repeat' first|exact Qg|with_reducible apply And.intro|intro _
 exact ⟨[],by exact Qy,⟨by simp,by simp⟩,by simp,by rw [←g4];rfl,by simp⟩):p:=h
structure w367k:Prop
theorem w367k.k (_:w367k) {p:Prop} (h:p:=by
 repeat' first|exact Qg|with_reducible apply And.intro|intro _
 refine ⟨(y-1)::r,by exact Qy,⟨fun z Z2=>?_,fun z Z2=>g2 z (List.mem_cons_of_mem _ Z2)⟩,by simp only [Zi];omega,by rw [←g4];simp only [Ziz,Eb,if_true],by simp only [Zi];omega⟩
 rcases List.mem_cons.1 Z2 with rfl|Z2
 ·omega
 ·exact g1 z (List.mem_cons_of_mem _ (List.mem_cons_of_mem _ Z2))):p:=h
structure w368k:Prop
theorem w368k.k (_:w368k) {p:Prop} (h:p:=by
 repeat' first|exact Qg|with_reducible apply And.intro|intro _
 have e3:Eb M rs=x::r:=by rw [←g4];exact Fq hx0
 refine ⟨(k+1,x::r),by exact Qy,by simp only;omega,by simp only [Zi];omega,fun z Z2=>?_,by simp only;rw [←h4,e1,e3],by simp only;omega⟩
 rcases List.mem_cons.1 Z2 with rfl|Z2
 ·omega
 ·exact ⟨g2 z Z2,(g1 z (List.mem_cons_of_mem _ Z2)).2⟩):p:=h
structure w364k:Prop
theorem w364k.k (_:w364k) {p:Prop} (h:p:=by
 revert e1 hmk;generalize Y4 (t.getD k ⟨0,[],0⟩)=M;intro hmk e1;repeat' first|exact Qg|with_reducible apply And.intro|intro _
 ·rw [if_pos (by omega)] at e1
  rw [←h4,e1]
 ·rw [if_neg (by omega)] at e1
  have e2:rs.reverse++[M]=(M::rs).reverse:=by simp
  have hS:∀ (q:List Int),q≠[]→((q.length:Nat):Int)-1=((q.length-1:Nat):Int):=by
   intro q hq;have:=List.length_pos_iff.2 hq;omega
  refine Zh [23,24,25,26,27,28,29,30,31,32,33,34,35,36,37,38,39,40,41,42,43,44,45,46,47,48,49,50] (fun q:List Int=>[(3,.sl 5 (q.reverse.map enc).length),(5,.dead),(12,.dead),(15,.dead),(22,.dead)]) (fun q:List Int=>[(5,.row 1 (q.reverse.map enc) 0)]) (fun q:List Int=>Zos q∧q.length≤101∧Ziz q=Eb M rs) (fun q:List Int=>q.length) (M::rs) ?_ ?_ ?_
  ·refine ⟨⟨fun x hx=>?_,fun x hx=>(h3 x hx).1⟩,by simp only [Zi];omega,rfl⟩
   rcases List.mem_cons.1 hx with rfl|hx
   ·exact hmk
   ·have:=h3 x hx;omega
  ·exact Qy
  rintro q ⟨⟨g1,g2⟩,g3,g4⟩;cases q with
  | nil =>
   have Z2:Yr 0 ((0:Nat):Int)=false:=rfl;have Zx:=@List.length_reverse.{0};have Zu:=@List.reverse_nil.{0};have Kq:w365k:=⟨⟩;exact Pc
  | cons x r =>
   have Z2:Yr 0 ((r.length+1:Nat):Int)=true:=by rw [Jw];omega
   have Qd:((r.length+1:Nat):Int)-1=(r.length:Int):=by omega
   have hx1:=g1 x (by simp)
   have Z5:el (List.map enc (x::r).reverse) r.length=.int .i64 x:=I6;have Z9:List.take r.length (List.map (enc:Int→D) (x::r).reverse)=List.map enc r.reverse:=Zcu;simp only [Zi] at g3;by_cases hx0:x=0
   ·subst hx0;cases r with
    | nil =>
     have Qu:Yr 0 ((0:Nat):Int)=false:=rfl;simp only [List.length_nil] at Z2 Qd Z5 Z9;have Zx:=@List.length_reverse.{0};have Zu:=@List.reverse_nil.{0};have Kq:w366k:=⟨⟩;exact Pc
    | cons y r =>
     have hy1:=g2 y (by simp)
     have hy2:=g1 y (by simp)
     have Q0:Yr 0 ((r.length+1:Nat):Int)=true:=by rw [Jw];omega
     have Q2:((r.length+1:Nat):Int)-1=(r.length:Int):=by omega
     have Qz:el (List.map enc (y::r).reverse) r.length=.int .i64 y:=I6;simp only [Zi] at Z2 Qd Z5 Z9 g3;have Zx:=@List.length_reverse.{0};have Kq:w367k:=⟨⟩;exact Pc
   ·have Zv:(x==(0:Int))=false:=by simpa using hx0
    have Zx:=@List.length_reverse.{0};have Kq:w368k:=⟨⟩;exact Pc):p:=h
structure w369k:Prop
theorem w369k.k (_:w369k) {p:Prop} (h:p:=by
 rw [←h4,List.drop_eq_nil_of_le hlt];rfl):p:=h
structure w363k:Prop
theorem w363k.k (_:w363k) {p:Prop} (h:p:=by
 refine Zh [2,6,7,8,9,10,11,12,13,14,15,16,17,18,19,20,21,22,23,24,25,26,27,28,29,30,31,32,33,34,35,36,37,38,39,40,41,42,43,44,45,46,47,48,49,50] (fun p:Nat×List Int=>[(3,.sl 5 (p.2.reverse.map enc).length),(4,.d (.int .i64 p.1)),(5,.dead)]) (fun p:Nat×List Int=>[(5,.row 1 (p.2.reverse.map enc) 0)]) (fun p:Nat×List Int=>p.1≤t.length∧p.2.length≤101∧(∀ x∈p.2,1≤x∧x≤50)∧eK (t.drop p.1) p.2=La t) (fun p:Nat×List Int=>t.length-p.1) (0,[]) ?_ ?_ ?_
 ·exact ⟨Nat.zero_le _,by simp,by simp,rfl⟩
 ·exact Qy
 rintro ⟨k,rs⟩ ⟨h1,h2,h3,h4⟩;simp only at h1 h2 h3 h4;rcases Zl k t.length with ⟨hlt,Qh⟩|⟨hlt,Qh⟩
 ·have hmk:=hm (t.getD k ⟨0,[],0⟩) (by simp [hlt])
  have e1:eK (t.drop k) rs=if 100≤rs.length then false else eK (t.drop (k+1)) (Eb (Y4 (t.getD k ⟨0,[],0⟩)) rs):=by
   rw [List.drop_eq_getElem_cons hlt,eK];simp [hlt]
  have Qi:=Zo (⟨0,[],0⟩:Node) hlt;have Zx:=@List.length_reverse.{0};have Kq:w364k:=⟨⟩;exact Pc
 ·have Kq:w369k:=⟨⟩;exact Pc):p:=h
theorem good_shallow3:Qr Tryz.prog (157,Bn):=by
 obtain ⟨Kx,Kt,Kc,Kd,Kb,Ku,Kw,K,Yj,_⟩:=Wi Z3 Zn [39] false (Ja good_many3 Mu.eq_def Wg);have Ko:=Bn.eq_def;refine Wh K Tryz.func157 [.tmp 2] rfl 51 rfl (fun c hc cvs hpre=>?_);unfold Bn at hpre;obtain ⟨⟨t⟩,rfl,⟨ht,hm⟩⟩:=J4 hpre;simp only at ht hm;cases hc;refine Ys 3 ?_;have Kq:w363k:=⟨⟩;exact Pc
abbrev n0:Node:=⟨0,[],0⟩
def gR (n:Node):Bool:=n.kind==6||n.kind==7
def Zf6 (p x prev:Node) (pos last:Bool):Bool :=
 cond (x.kind==9) (gR p&&(last&&x.name==[]))
  (!((p.kind==6&&!Wo x.name)||(p.kind==7&&!Pg x.name))&&(!(!gR p&&!(x.name==[]))&&!(gR p&&(pos&&!Op.bytesLess prev.name x.name))))
def Tz (t:List Node) (l:List Int) (k:Nat):Node:=t.getD (l.getD k 0).toNat n0
def Ao (t:List Node) (i:Nat) (l:List Int) (k:Nat):Bool:=Zf6 (t.getD i n0) (Tz t l k) (Tz t l (k-1)) (Yr 0 k) ((k:Int)==(l.length:Int)-1)
def Ie (t:List Node) (i:Nat):Bool:=(((Sm t i).length:Int)==Y4 (t.getD i n0))&&(List.range (Sm t i).length).all fun k=>Ao t i (Sm t i) k
def Wz (t:List Node):Prop:=∀ n∈t,n.name.length≤9223372036854775807
theorem dH (t:List Node):∀ (m q:Nat),∀ x∈Wr t m q,(q:Int)≤x∧x<t.length
 | 0,q,x,hx=>by simp [Wr] at hx
 | m+1,q,x,hx=>by
  unfold Wr at hx;split at hx
  ·rcases List.mem_cons.1 hx with rfl|hx
   ·omega
   ·have:=dH t m _ x hx;omega
  ·cases hx
theorem Zk9 {t:List Node} {i:Nat}:∀ x∈Sm t i,(i:Int)<x∧x<t.length:=by
 intro x hx;unfold Sm at hx;split at hx
 ·cases hx
 ·have:=dH t _ _ x hx;omega
theorem Oo (t:List Node):∀ (m q:Nat),(Wr t m q).length≤m
 | 0,q=>by simp [Wr]
 | m+1,q=>by
  unfold Wr;split
  ·simp only [Zi];have:=Oo t m (q+Zbp (t.drop q) 1);omega
  ·simp
def M7:Con:=Wc (fun (t:Sl Node) (i:Int)=>Zgx t.l∧Wz t.l∧0≤i∧i<t.l.length) (fun t i=>Ie t.l i.toNat)
structure w371k:Prop
theorem w371k.k (_:w371k) {p:Prop} (h:p:=by
 repeat' first|exact Qg|with_reducible apply And.intro|intro _
 all_goals first|with_reducible exact Jf|exact hbad (by clear hyes hbad heq hlab hlab' hno;simp_all [Zf6,gR,Yr])|exact ⟨k+1,by exact Qy,by omega,hyes (by clear hyes hbad heq hlab hlab' hno;simp_all [Zf6,gR,Yr]),by omega⟩):p:=h
structure w372k:Prop
theorem w372k.k (_:w372k) {p:Prop} (h:p:=by
 rw [hlab',eq_comm,List.all_eq_true];intro j hj;exact hno j (by have:=List.mem_range.1 hj;omega)):p:=h
structure w370k:Prop
theorem w370k.k (_:w370k) {p:Prop} (h:p:=by
 repeat' first|exact Qg|with_reducible apply And.intro|intro _
 ·rename_i hne;rw [hlab];rw [show ((l.length:Int)==Y4 (t.getD i n0))=false by simpa using hne]
  rfl
 ·rename_i heq;have hlab':Ie t i=(List.range l.length).all fun k=>Ao t i l k:=by
   rw [hlab,show ((l.length:Int)==Y4 (t.getD i n0))=true by simpa using heq]
   rfl
  refine Zh [4,7,8,9,21,22,23,24,25,26,27,28,29,30,31,32,33,34,35,36,37,38,39,40,41,42,43,44,45,46,47,48,49,50,51,52,53,54,55,56,57,58,59,60,61,62,63,64,65,66,67,68,69,70,71,72,73,74,75,76,77,78,79,80,81,82,83,84,85,86,87,88,89,90,91,92,93,94,95,96,97,98,99,100,101,102,103,104,105,106,107,108,109,110,111,112,113,114,115,116,117,118,119,120,121,122] (fun k:Nat=>[(6,.d (.int .i64 k))]) (fun k:Nat=>[]) (fun k:Nat=>k≤l.length∧∀ j,j<k→Ao t i l j=true) (fun k:Nat=>l.length-k) 0 ?_ ?_ ?_
  ·simp
  ·exact Qy
  rintro k ⟨hk,hno⟩;rcases Zl k l.length with ⟨hlt,Z2⟩|⟨hlt,Z2⟩
  ·have hki:=hin (l.getD k 0) (by simp [hlt])
   have hkt:(l.getD k 0).toNat<t.length:=by omega
   have hkn:=hN (Tz t l k) (by
    show t.getD _ n0∈t;rw [Zc,Zd hkt];exact List.getElem_mem hkt)
   have hyes:Ao t i l k=true→∀ j,j<k+1→Ao t i l j=true:=by
    intro h j hj;by_cases hjk:j=k
    ·subst hjk;exact h
    ·exact hno j (by omega)
   have hbad:Ao t i l k=false→false=Ie t i:=by
    intro h;rw [hlab',eq_comm,Bool.eq_false_iff];intro hc;rw [List.all_eq_true] at hc;have:=hc k (List.mem_range.2 hlt);rw [h] at this;cases this
   have Qz:t.getD (l.getD k 0).toNat ⟨0,[],0⟩=Tz t l k:=rfl;have hyes:Zf6 (t.getD i n0) (Tz t l k) (Tz t l (k-1)) (Yr 0 k) ((k:Int)==(l.length:Int)-1)=true→∀ j,j<k+1→Ao t i l j=true:=hyes;have hbad:Zf6 (t.getD i n0) (Tz t l k) (Tz t l (k-1)) (Yr 0 k) ((k:Int)==(l.length:Int)-1)=false→false=Ie t i:=hbad;have Zy:t.getD (l.getD (k-1) 0).toNat ⟨0,[],0⟩=Tz t l (k-1):=rfl;obtain ⟨x,hx⟩:=exq (Tz t l k);obtain ⟨prev,hp0⟩:=exq (Tz t l (k-1));obtain ⟨p,hp⟩:=exq (t.getD i n0);rw [hx,hp0,hp] at hyes hbad;rw [hx] at hkn Qz;rw [hp0] at Zy;have Qd:t.getD i ⟨0,[],0⟩=p:=hp;have hk1:k-1<l.length:=by omega
   have hpi:=hin (l.getD (k-1) 0) (by simp [hk1])
   have hpt:(l.getD (k-1) 0).toNat<t.length:=by omega
   have Zv:((k:Int)-1).toNat=k-1:=by omega
   have hc:((p.kind==6)=true∧(p.kind==7)=false)∨((p.kind==6)=false∧(p.kind==7)=true)∨((p.kind==6)=false∧(p.kind==7)=false):=by
    simp only [Zp,Zf,ne_eq];omega
   rcases hc with ⟨Z5,Z9⟩|⟨Z5,Z9⟩|⟨Z5,Z9⟩
   all_goals
    have Qu:=Zo (0:Int) hlt;have Q0:=Zo n0 hkt;have Q2:=Zo n0 hil;have Zx:=Zo (0:Int) hk1;have Zu:=Zo n0 hpt;have Kq:w371k:=⟨⟩;exact Pc
  ·have Kq:w372k:=⟨⟩;exact Pc):p:=h
theorem good_labelled3:Qr Tryz.prog (158,M7):=by
 obtain ⟨Kx,Kt,Kc,Kd,Kb,Ku,Kw,K,Yj,Kv,P4,B6,_⟩:=Wi Z3 Zn [] false (Ja good_Kids3 Rr.eq_def (Ja good_IsTag1 fW (Ja good_IsWord1 Sa (Ja good_many3 Mu.eq_def Wg))));have Ko:=M7.eq_def;refine Wh K Tryz.func158 [.tmp 4] rfl 123 rfl (fun c hc cvs hpre=>?_);unfold M7 at hpre;obtain ⟨⟨t⟩,i,rfl,hT,hN,hi0,hi1⟩:=Jr hpre;simp only at hT hN hi0 hi1;obtain ⟨i,rfl⟩:∃ n:Nat,i=n:=⟨i.toNat,by omega⟩
 have hil:i<t.length:=by omega
 have hlen:=hT.1;obtain ⟨l,Qh⟩:=exq (Sm t i);have hin:∀ x∈l,(i:Int)<x∧x<t.length:=by rw [←Qh];exact Zk9
 have hll:l.length≤100000:=by
  rw [←Qh];unfold Sm;split
  ·simp
  ·have h1:=Oo t (Y4 (t.getD (Int.toNat i) ⟨0,[],0⟩)).toNat ((Int.toNat i)+1);have h2:=(hT.2 (t.getD i ⟨0,[],0⟩) (by simp [hil])).2
   simp only [Ze] at h1 ⊢;omega
 have hlab:Ie t i=(((l.length:Int)==Y4 (t.getD i n0))&&(List.range l.length).all fun k=>Ao t i l k):=by
  unfold Ie;rw [Qh]
 cases hc;refine Ys 7 ?_;have Qi:=Zo n0 hil;have Kq:w370k:=⟨⟩;exact Pc
end Go.Am.Ty
namespace Go.Rose
inductive Rose (α:Type) where
 | mk (n:α) (ks:List (Rose α))
namespace Rose
variable {α:Type}
def root:Rose α→α
 | mk n _=>n
def kids:Rose α→List (Rose α)
 | mk _ ks=>ks
mutual
def nds:Rose α→List α
 | mk n ks=>n::ndss ks
def ndss:List (Rose α)→List α
 | []=>[]
 | x::xs=>nds x++ndss xs
end
mutual
def wf (ar:α→Nat):Rose α→Prop
 | mk n ks=>ks.length=ar n∧wfs ar ks
def wfs (ar:α→Nat):List (Rose α)→Prop
 | []=>True
 | x::xs=>wf ar x∧wfs ar xs
end
mutual
def depth:Rose α→Nat
 | mk _ ks=>1+depths ks
def depths:List (Rose α)→Nat
 | []=>0
 | x::xs=>max (depth x) (depths xs)
end
end Rose
open Rose
variable {α:Type} {ar:α→Nat}
theorem Zfz (n:α) (ks:List (Rose α)):nds (mk n ks)=n::ndss ks:=by simp [nds]
theorem Zba (x:Rose α):1≤(nds x).length:=by cases x;simp [nds]
theorem Zhe (x:Rose α):nds x=x.root::ndss x.kids:=by cases x;simp [nds,root,kids]
theorem Zn4 {x:Rose α}:wf ar x↔x.kids.length=ar x.root∧wfs ar x.kids:=by cases x;simp [wf,root,kids]
def aB (ar:α→Nat):List α→Nat→Option Nat
 | _,0=>some 0
 | [],_+1=>none
 | n::l,o+1=>(aB ar l (o+ar n)).map (·+1)
theorem cE (ar:α→Nat):∀ (m:Nat) (ts:List (Rose α)) (r:List α),(ndss ts).length≤m→wfs ar ts→∀ o,aB ar (ndss ts++r) (ts.length+o)=(aB ar r o).map (·+(ndss ts).length)
 | m,[],r,_,_,o=>by simp [ndss,aB]
 | 0,mk n ks::ts,r,hm,_,o=>by simp [ndss,nds] at hm
 | m+1,mk n ks::ts,r,hm,hw,o=>by
  obtain ⟨⟨h1,h2⟩,h3⟩:=hw;simp only [ndss,nds,List.cons_append,Zi,Zj] at hm ⊢;rw [show ts.length+1+o=(ts.length+o)+1 by omega,aB,List.append_assoc]
  rw [show ts.length+o+ar n=ks.length+(ts.length+o) by omega,cE ar m ks (ndss ts++r) (by omega) h2 (ts.length+o),cE ar m ts r (by omega) h3 o]
  cases aB ar r o with
  | none=>rfl
  | some k=>simp only [Option.map_some];congr 1;omega
theorem Zlq {x:Rose α} (h:wf ar x) (r:List α):aB ar (nds x++r) 1=some (nds x).length:=by
 have:=cE ar _ [x] r (Zm _) ⟨h,trivial⟩ 0;simpa [ndss,aB] using this
def At (ar:α→Nat) (l:List α) (i:Nat) (x:Rose α):Prop:=wf ar x∧∃ r,l.drop i=nds x++r
theorem At.le {l:List α} {i:Nat} {x:Rose α} (h:At ar l i x):i+(nds x).length≤l.length:=by
 obtain ⟨_,r,h2⟩:=h;have h3:=congrArg List.length h2;rw [List.length_drop,Zj] at h3;have:=Zba x;omega
theorem At.lt {l:List α} {i:Nat} {x:Rose α} (h:At ar l i x):i<l.length:=by
 have:=h.le;have:=Zba x;omega
theorem At.root {l:List α} {i:Nat} {x:Rose α} (h:At ar l i x) (d:α):l.getD i d=x.root:=by
 obtain ⟨_,r,h2⟩:=h;have h3:(l.drop i).getD 0 d=x.root:=by rw [h2,Zhe];rfl
 simpa [Zc] using h3
def Zn3 (ar:α→Nat) (l:List α) (i:Nat) (xs:List (Rose α)):Prop:=wfs ar xs∧∃ r,l.drop i=ndss xs++r
theorem At.kids {l:List α} {i:Nat} {x:Rose α} (h:At ar l i x):Zn3 ar l (i+1) x.kids∧x.kids.length=ar x.root:=by
 obtain ⟨h1,r,h2⟩:=h;rw [Zn4] at h1;refine ⟨⟨h1.2,r,?_⟩,h1.1⟩;rw [Zhe] at h2;have h3:(l.drop i).drop 1=(ndss x.kids++r):=by rw [h2];rfl
 rwa [List.drop_drop] at h3
theorem Zn3.head {l:List α} {i:Nat} {x:Rose α} {xs:List (Rose α)} (h:Zn3 ar l i (x::xs)):At ar l i x∧Zn3 ar l (i+(nds x).length) xs:=by
 obtain ⟨⟨h1,h2⟩,r,h3⟩:=h;refine ⟨⟨h1,ndss xs++r,by rw [h3];simp [ndss]⟩,h2,r,?_⟩
 rw [←List.drop_drop,h3];simp [ndss]
theorem Zma {x:Rose α} (h:wf ar x):At ar (nds x) 0 x:=⟨h,[],by simp⟩
theorem Znf {l:List α} {i:Nat} {x:Rose α} (h:At ar l i x):aB ar (l.drop i) 1=some (nds x).length:=by
 obtain ⟨h1,r,h2⟩:=h;rw [h2];exact Zlq h1 r
open Classical in
theorem At.mem {l:List α} {i:Nat} {x:Rose α} (h:At ar l i x):∀ n∈nds x,n∈l:=fun n hn=>by
 obtain ⟨_,r,h2⟩:=h;exact List.mem_of_mem_drop (i:=i) (by rw [h2];exact List.mem_append_left _ hn)
end Go.Rose
namespace Go.Am.Ty
open Go.Proofs
open Enc (enc dec)
theorem gW {n:Node} (h:Sg n=true):0≤Y4 n∧Y4 n≤50:=by
 unfold Sg at h;unfold Y4;by_cases h5:n.kind=5
 ·rw [if_pos h5];omega
 ·rw [if_neg h5];by_cases h67:n.kind=6∨n.kind=7
  ·rw [if_pos h67];rw [if_neg (by omega),if_neg (by omega)] at h
   by_cases h6:n.kind=6
   ·rw [if_pos h6] at h;simpa using h
   ·rw [if_neg h6,if_pos (by omega)] at h
    simp only [Zg,decide_eq_true_eq] at h;omega
  ·rw [if_neg h67];omega
def Ma (t:List Node):Bool:=t.length==0||Yr 10000 t.length||!((t.getD 0 n0).name==[])||(t.getD 0 n0).kind==9
def W0 (t:List Node):Bool:=!Ma t&&(t.all Sg&&((aK t 0==(t.length:Int)&&La t)&&(List.range t.length).all fun i=>Ie t i))
theorem Gq {p:Nat→Bool} {n:Nat} (h:∀ j,j<n→p j=true):(List.range n).all p=true:=by
 rw [List.all_eq_true];intro j hj;exact h j (List.mem_range.1 hj)
theorem M3 {p:Nat→Bool} {n:Nat} (j:Nat) (hj:j<n) (h:p j=false):(List.range n).all p=false:=by
 rw [Bool.eq_false_iff];intro hc;rw [List.all_eq_true] at hc;have:=hc j (List.mem_range.2 hj);rw [h] at this;cases this
def L5:Con:=Xy (fun (t:Sl Node)=>t.l.length≤9223372036854775807∧Wz t.l) (fun t=>W0 t.l)
structure w373k:Prop
theorem w373k.k (_:w373k) {p:Prop} (h:p:=by
 unfold W0 Ma;simp [h0]):p:=h
structure w375k:Prop
theorem w375k.k (_:w375k) {p:Prop} (h:p:=by
 repeat' first|exact Qg|with_reducible apply And.intro|intro _
 ·rename_i hb;rw [hr,R8 (p:=Sg) n0 k hlt hb];rfl
 ·rename_i hb;refine ⟨k+1,by exact Qy,by omega,fun j hj=>?_,by omega⟩
  by_cases hjk:j=k
  ·subst hjk;exact hb
  ·exact hno j (by omega)):p:=h
structure w377k:Prop
theorem w377k.k (_:w377k) {p:Prop} (h:p:=by
 repeat' first|exact Qg|with_reducible apply And.intro|intro _
 ·rename_i hb;rw [hr2,M3 k hlt2 hb]
 ·rename_i hb;refine ⟨k+1,by exact Qy,by omega,fun j hj=>?_,by omega⟩
  by_cases hjk:j=k
  ·subst hjk;exact hb
  ·exact hno2 j (by omega)):p:=h
structure w378k:Prop
theorem w378k.k (_:w378k) {p:Prop} (h:p:=by
 rw [hr2,Gq fun j hj=>hno2 j (by omega)]):p:=h
structure w376k:Prop
theorem w376k.k (_:w376k) {p:Prop} (h:p:=by
 repeat' first|exact Qg|with_reducible apply And.intro|intro _
 ·rename_i he hs;rw [hr,hs];simp
 ·rename_i he hs;have hr2:W0 t=(List.range t.length).all fun i=>Ie t i:=by
   rw [hr,hs,show (aK t 0==(t.length:Int))=true by simpa using he]
   rfl
  refine Zh [2,49,50,51,52,53,54,55,56,57,58] (fun k:Nat=>[(4,.d (.int .i64 k))]) (fun k:Nat=>[]) (fun k:Nat=>k≤t.length∧∀ j,j<k→Ie t j=true) (fun k:Nat=>t.length-k) 0 ?_ ?_ ?_
  ·simp
  ·exact Qy
  rintro k ⟨hk2,hno2⟩;rcases Zl k t.length with ⟨hlt2,Z9⟩|⟨hlt2,Z9⟩
  ·have Kq:w377k:=⟨⟩;exact Pc
  ·have Kq:w378k:=⟨⟩;exact Pc
 ·rename_i he;rw [hr,show (aK t 0==(t.length:Int))=false by simpa using he]
  rfl):p:=h
structure w374k:Prop
theorem w374k.k (_:w374k) {p:Prop} (h:p:=by
 repeat' first|exact Qg|with_reducible apply And.intro|intro _
 ·rename_i h1 h2 h9;exact heb (by unfold Ma;rw [show ((t.getD 0 n0).kind==9)=true by rw [Zp];exact h9];simp only [Bool.or_true])
 ·rename_i h1 h3 h9;have hle:t.length≤10000:=by omega
  have hnb:Ma t=false:=by
   unfold Ma;simp only [Bool.or_eq_false_iff,Q3,Zf];refine ⟨⟨⟨by omega,by omega⟩,?_⟩,h9⟩
   simpa using h3
  have hr:W0 t=(t.all Sg&&((aK t 0==(t.length:Int)&&La t)&&(List.range t.length).all fun i=>Ie t i)):=by
   unfold W0;rw [hnb];rfl
  refine Zh [2,27,28,29,30,31,32,33,34,35,36,37,38] (fun k:Nat=>[(3,.d (.int .i64 k))]) (fun k:Nat=>[]) (fun k:Nat=>k≤t.length∧∀ j,j<k→Sg (t.getD j n0)=true) (fun k:Nat=>t.length-k) 0 ?_ ?_ ?_
  ·simp
  ·exact Qy
  rintro k ⟨hk,hno⟩;rcases Zl k t.length with ⟨hlt,Z2⟩|⟨hlt,Z2⟩
  ·have Qd:=Zo n0 hlt;have Kq:w375k:=⟨⟩;exact Pc
  ·have hall:t.all Sg=true:=B4 (p:=Sg) n0 fun j hj=>hno j (by omega)
   have Z5:Zgx t:=⟨by omega,fun n hn=>gW (List.all_eq_true.1 hall n hn)⟩
   rw [hall,Bool.true_and] at hr;have hT2:Zgx t∧dL .i64 0:=⟨Z5,by rw [Xb];omega⟩
   have Kq:w376k:=⟨⟩;exact Pc
 ·rename_i h1 h3;exact heb (by unfold Ma;rw [show ((t.getD 0 n0).name==[])=false by rw [Zf];exact h3];simp only [Bool.not_false,Bool.or_true,Bool.true_or])
 ·rename_i h1;exact heb (by unfold Ma;rw [show Yr 10000 (t.length:Int)=true by rw [Jw];exact h1];simp only [Bool.or_true,Bool.true_or])):p:=h
theorem good_Right3:Qr Tryz.prog (113,L5):=by
 obtain ⟨Kx,Kt,Kc,Kd,Kb,Ku,Kw,K,Yj,Kv,P4,B6,_⟩:=Wi Z3 Zn [] false (Ja good_numbered3 M5.eq_def (Ja good_End3 Ff.eq_def (Ja good_shallow3 Bn.eq_def (Ja good_labelled3 M7.eq_def Wg))));have Ko:=L5.eq_def;refine Wh K Tryz.func113 [.tmp 2] rfl 59 rfl (fun c hc cvs hpre=>?_);unfold L5 at hpre;obtain ⟨⟨t⟩,rfl,ht,hN⟩:=J4 hpre;simp only at ht hN;cases hc;refine Ys 3 ?_;by_cases h0:t.length=0
 ·have Qh:((t.length:Int)==0)=true:=by simp [h0]
  have Kq:w373k:=⟨⟩;exact Pc
 have Qh:((t.length:Int)==0)=false:=by rw [Zf];omega
 have hlt0:0<t.length:=by omega
 have heb:Ma t=true→false=W0 t:=by
  intro h;unfold W0;rw [h];rfl
 have Qi:=Zo n0 hlt0;have Kq:w374k:=⟨⟩;exact Pc
open Go.Proofs Go.Rose Go.Rose.Rose
instance inhSl {α:Type}:Inhabited (Sl α):=⟨⟨[]⟩⟩
instance inhNode:Inhabited Node:=⟨n0⟩
def ar (n:Node):Nat:=if n.kind=5 then 2 else if n.kind=6∨n.kind=7 then n.n.toNat else 0
theorem Zmc {n:Node} (h:0≤Y4 n):(ar n:Int)=Y4 n:=by
 unfold ar Y4 at *;split
 ·rfl
 ·rename_i h5;rw [if_neg h5] at h;split
  ·rename_i h6;rw [if_pos h6] at h;omega
  ·rfl
def Whole (t:List Node) (i:Int):Prop:=0≤i→i<t.length→(aB ar (t.drop i.toNat) 1).isSome=true
def Li:Nat→List (Rose Node)→List Int
 | _,[]=>[]
 | q,x::xs=>(q:Int)::Li (q+(nds x).length) xs
theorem Ig:∀ (q:Nat) (xs:List (Rose Node)),(Li q xs).length=xs.length
 | _,[]=>rfl
 | q,x::xs=>by simp [Li,Ig _ xs]
theorem zY:∀ (q:Nat) (xs:List (Rose Node)) (j:Nat),j<xs.length→(Li q xs).getD j 0=((q+(ndss (xs.take j)).length:Nat):Int)
 | _,[],j,h=>by simp at h
 | q,x::xs,0,_=>by simp [Li,ndss]
 | q,x::xs,j+1,h=>by
  simp only [Li,List.getD_cons_succ,List.take_succ_cons,ndss,Zj];rw [zY _ xs j (by simpa using h)]
  congr 1
  omega
theorem Zl9 {t:List Node}:∀ {xs:List (Rose Node)} {i j:Nat},Zn3 ar t i xs→∀ h:j<xs.length,At ar t (i+(ndss (xs.take j)).length) xs[j]
 | [],_,_,_,h=>by simp at h
 | x::xs,i,0,ha,_=>by simpa [ndss] using ha.head.1
 | x::xs,i,j+1,ha,h=>by
  have:=Zl9 ha.head.2 (j:=j) (by simpa using h)
  simpa [ndss,Nat.add_assoc] using this
structure MS where
 out:Option (List Node)
 done:Nat
def bW (l:List Node):Prop:=∀ n∈l,Sg n=true
theorem eT {n:Node} (h:Sg n=true):Y4 n=(ar n:Int):=(Zmc (gW h).1).symm
theorem Zeg:∀ {l:List Node} {o k:Nat},bW l→1≤o→aB ar l o=some k→Zbp l o=k
 | [],o+1,k,_,_,h=>by simp [aB] at h
 | n::l,o+1,k,hn,_,h=>by
  rw [aB,Option.map_eq_some_iff] at h;obtain ⟨k',h1,rfl⟩:=h;have hm:=eT (hn n (by simp))
  have e:((o+1:Nat):Int)-1+Y4 n=((o+ar n:Nat):Int):=by rw [hm];omega
  rw [Zbp,e];by_cases hz:o+ar n=0
  ·rw [if_pos (by omega)]
   rw [hz] at h1;cases l<;>(simp only [aB,Za] at h1;omega)
  ·rw [if_neg (by omega),Zeg (fun m hm=>hn m (List.mem_cons_of_mem _ hm)) (by omega) h1]
   omega
theorem Zi3 {l:List Node} {i:Nat} (h:bW l):bW (l.drop i):=fun n hn=>h n (List.mem_of_mem_drop hn)
theorem Zlp {t:List Node} {i:Nat} {x:Rose Node} (hn:bW t) (h:At ar t i x):Zbp (t.drop i) 1=(nds x).length:=Zeg (o:=1) (Zi3 hn) (Zm _) (Znf h)
theorem Znc {t:List Node} {i:Nat} {x:Rose Node} (hn:bW t) (h:At ar t i x):aK t i=((i+(nds x).length:Nat):Int):=by
 unfold aK;have:=h.lt;rw [if_neg (by omega),Ze,Zlp hn h]
 simp
theorem Oq {t:List Node} (hn:bW t):∀ {ks:List (Rose Node)} {q:Nat},Zn3 ar t q ks→Wr t ks.length q=Li q ks
 | [],_,_=>rfl
 | x::ks,q,h=>by
  have hx:=h.head;rw [Zi,Wr,if_pos hx.1.lt,Zlp hn hx.1,Li,Oq hn hx.2]
theorem Zla {t:List Node} {i:Nat} {x:Rose Node} (hn:bW t) (h:At ar t i x):Sm t i=Li (i+1) x.kids:=by
 unfold Sm;have hl:=h.lt;have hk:=h.kids;have hm:=eT (hn (t.getD i n0) (by simp [hl]))
 rw [if_neg (by omega)]
 simp only [Ze];rw [show (⟨0,[],0⟩:Node)=n0 from rfl,hm,h.root n0,Ze,←hk.2,Oq hn hk.1]
def E8 (r d:Nat):Bool:=decide (r+d≤100)
theorem iE {r d:Nat} (h:r+d≤100):E8 r d=true:=decide_eq_true h
theorem cF {r d:Nat} (h:¬ r+d≤100):E8 r d=false:=decide_eq_false h
theorem Znd {r d r' d':Nat} (h:r+d=r'+d'):E8 r d=E8 r' d':=by unfold E8;rw [h]
mutual
theorem shal_tree:∀ (x:Rose Node) (l:List Node) (rs:List Int),wf ar x→bW (nds x)→eK (nds x++l) rs=(E8 rs.length (depth x)&&eK l (Eb 0 rs))
 | mk n ks,l,rs,hw,hn=>by
  have hm:=eT (hn n (by simp [nds]))
  rw [Zfz,List.cons_append,eK,hm,←hw.1];cases ks with
  | nil =>
   have hd:depth (mk n [])=1:=by simp [depth,depths]
   rw [hd];simp only [ndss,List.nil_append,List.length_nil];by_cases h:100≤rs.length
   ·rw [if_pos h,cF (by omega)];rfl
   ·rw [if_neg h,iE (by omega)];rfl
  | cons y ys =>
   have hd:depth (mk n (y::ys))=1+depths (y::ys):=by rw [depth]
   rw [hd,Fq (by simp only [Zi];omega),shal_forest (y::ys) l rs (by simp) hw.2 (fun m hm=>hn m (by rw [Zfz];exact List.mem_cons_of_mem _ hm))]
   by_cases h:100≤rs.length
   ·rw [if_pos h,cF (by omega)];rfl
   ·rw [if_neg h]
theorem shal_forest:∀ (xs:List (Rose Node)) (l:List Node) (rs:List Int),xs≠[]→wfs ar xs→bW (ndss xs)→eK (ndss xs++l) ((xs.length:Int)::rs)=(E8 rs.length (1+depths xs)&&eK l (Eb 0 rs))
 | [],_,_,h,_,_=>absurd rfl h
 | x::ts,l,rs,_,hw,hn=>by
  have h0:=shal_tree x;cases ts with
  | nil =>
   simp only [ndss,List.append_nil] at hn ⊢;have hd:depths [x]=depth x:=by simp [depths]
   rw [h0 l _ hw.1 hn,hd];simp only [Zi,List.length_nil];rw [Znd (r:=rs.length+1) (d:=depth x) (r':=rs.length) (d':=1+depth x) (by omega)]
   rfl
  | cons y ts =>
   have h2:=shal_forest (y::ts) l rs (by simp) hw.2 (fun m hm=>hn m (by rw [ndss];exact List.mem_append_right _ hm))
   rw [ndss,List.append_assoc,h0 _ _ hw.1 (fun m hm=>hn m (by rw [ndss];exact List.mem_append_left _ hm))]
   have e:Eb 0 ((((x::y::ts).length:Nat):Int)::rs)=(((y::ts).length:Nat):Int)::rs:=by
    rw [Eb,if_pos rfl,show (((x::y::ts).length:Nat):Int)-1=(((y::ts).length:Nat):Int) by simp only [Zi];omega,Fq (by simp only [Zi];omega)]
   have hd:depths (x::y::ts)=max (depth x) (depths (y::ts)):=by rw [depths]
   rw [e,h2,hd];simp only [Zi];by_cases h1:rs.length+1+depth x≤100
   ·rw [iE h1,Bool.true_and];by_cases h2:rs.length+(1+depths (y::ts))≤100
    ·rw [iE h2,iE (r:=rs.length) (d:=1+max (depth x) (depths (y::ts))) (by omega)]
    ·rw [cF h2,cF (r:=rs.length) (d:=1+max (depth x) (depths (y::ts))) (by omega)]
   ·rw [cF h1,cF (r:=rs.length) (d:=1+max (depth x) (depths (y::ts))) (by omega)]
    rfl
end
theorem xZ {x:Rose Node} (hw:wf ar x) (hn:bW (nds x)):La (nds x)=E8 0 (depth x):=by
 have:=shal_tree x [] [] hw hn;simp only [List.append_nil,List.length_nil] at this;unfold La;rw [this,eK];simp
def Zof (n:Node) (ks:List (Rose Node)):Bool:=(List.range ks.length).all fun k=>Zf6 n (ks.getD k (mk n0 [])).root (ks.getD (k-1) (mk n0 [])).root (Yr 0 k) ((k:Int)==(ks.length:Int)-1)
mutual
def labT:Rose Node→Bool
 | mk n ks=>Zof n ks&&labTs ks
def labTs:List (Rose Node)→Bool
 | []=>true
 | x::xs=>labT x&&labTs xs
end
theorem Zm8 {t:List Node} {i:Nat} {x:Rose Node} (hn:bW t) (h:At ar t i x):Ie t i=Zof x.root x.kids:=by
 have hk:=h.kids;have hl:=h.lt;have hm:=eT (hn (t.getD i n0) (by simp [hl]))
 have hr:=h.root n0;unfold Ie;rw [Zla hn h,Ig,hr];rw [hr] at hm;rw [hm,hk.2];rw [show ((ar x.root:Int)==(ar x.root:Int))=true by simp,Bool.true_and]
 unfold Zof;rw [hk.2];apply Bool.eq_iff_iff.2;simp only [List.all_eq_true,List.mem_range];have key:∀ k,k<x.kids.length→Tz t (Li (i+1) x.kids) k=(x.kids.getD k (mk n0 [])).root:=by
  intro k hk';unfold Tz;rw [zY _ _ k hk',Ze];have:=(Zl9 hk.1 hk').root n0;rw [this];simp [hk']
 have e:∀ k,k<ar x.root→Ao t i (Li (i+1) x.kids) k=Zf6 x.root (x.kids.getD k (mk n0 [])).root (x.kids.getD (k-1) (mk n0 [])).root (Yr 0 k) ((k:Int)==(ar x.root:Int)-1):=by
  intro k hk';unfold Ao;rw [hr,key k (by omega),key (k-1) (by omega),Ig,hk.2]
 constructor
 ·intro g k hk';rw [←e k hk'];exact g k hk'
 ·intro g k hk';rw [e k hk'];exact g k hk'
mutual
theorem labT_at {t:List Node} (hn:bW t):∀ {x:Rose Node} {i:Nat},At ar t i x→(labT x=true↔∀ j,i≤j→j<i+(nds x).length→Ie t j=true)
 | mk n ks,i,h=>by
  have h1:=Zm8 hn h;have hk:Zn3 ar t (i+1) ks:=h.kids.1;rw [labT,Zg,labTs_at hn hk,Zfz,Zi];simp only [root,kids] at h1 ⊢;constructor
  ·rintro ⟨g1,g2⟩ j hj1 hj2;by_cases hji:j=i
   ·subst hji;rw [h1];exact g1
   ·exact g2 j (by omega) (by omega)
  ·intro g;exact ⟨by rw [←h1];exact g i (Zm _) (by omega),fun j hj1 hj2=>g j (by omega) (by omega)⟩
theorem labTs_at {t:List Node} (hn:bW t):∀ {xs:List (Rose Node)} {i:Nat},Zn3 ar t i xs→(labTs xs=true↔∀ j,i≤j→j<i+(ndss xs).length→Ie t j=true)
 | [],i,_=>by simp only [labTs,ndss,List.length_nil,true_iff];intro j h1 h2;omega
 | x::xs,i,h=>by
  rw [labTs,Zg,labT_at hn h.head.1,labTs_at hn h.head.2];simp only [ndss,Zj];constructor
  ·rintro ⟨g1,g2⟩ j hj1 hj2;rcases Nat.lt_or_ge j (i+(nds x).length) with hlt|hge
   ·exact g1 j hj1 hlt
   ·exact g2 j hge (by omega)
  ·intro g;exact ⟨fun j hj1 hj2=>g j hj1 (by omega),fun j hj1 hj2=>g j (by omega) (by omega)⟩
end
structure RT (x:Rose Node):Prop where
 wf:wf ar x
 numb:bW (nds x)
 depth:depth x≤100
 lab:labT x=true
 name:x.root.name=[]
 kind:x.root.kind≠9
 len:(nds x).length≤10000
theorem Zis {x:Rose Node} (h:RT x):W0 (nds x)=true:=by
 have ha:=Zma h.wf;have hp:=Zba x;have hr:=ha.root n0;unfold W0;have h1:Ma (nds x)=false:=by
  unfold Ma;rw [hr,h.name];have e1:((nds x).length==0)=false:=by rw [Zf];omega
  have e2:Yr 10000 ((nds x).length:Int)=false:=by rw [Q3];have:=h.len;omega
  have e3:(x.root.kind==9)=false:=by rw [Zf];exact h.kind
  rw [e1,e2,e3];rfl
 have h2:(nds x).all Sg=true:=List.all_eq_true.2 h.numb;have h3:aK (nds x) 0=((nds x).length:Int):=by have:=Znc h.numb ha;simpa using this
 have h4:La (nds x)=true:=by rw [xZ h.wf h.numb];exact iE (by have:=h.depth;omega)
 have h5:((List.range (nds x).length).all fun i=>Ie (nds x) i)=true:=Gq fun j hj=>(labT_at h.numb ha).1 h.lab j (Nat.zero_le _) (by omega)
 rw [h1,h2,h3,h4,h5];simp
def eI (a:List Node) (s:MS) (i:Nat):List Node:=s.out.getD []++(a.take i).drop s.done
def Ur {A B:Type} [Enc A] [Enc B] [Sz B] (p:A→Prop) (f:A→List B):Con:=⟨[false],[true],fun c=>match c with
 | [.d x]=>Up A x∧p (dec x)
 | _=>False,fun c=>match c with
 | [.d x]=>.own (Sz.sz B) ((f (dec x)).map enc)
 | _=>.d .nilp⟩
theorem Xq:type_of% @Ur.eq_def:=@Ur.eq_def
theorem Ru {A B:Type} [Enc A] [Enc B] [Sz B] {p:A→Prop} {f:A→List B} {c:List CV} (h:(Ur p f).pre c):∃ a,c=[.d (enc a)]∧p a:=by
 unfold Ur at h;simp only at h;split at h
 ·next x=>exact ⟨dec x,by rw [←h.1],h.2⟩
 ·exact h.elim
def Zse:List Node→List Node
 | []=>[]
 | n::r=>⟨n.kind,[],n.n⟩::r
def n5:Node:=⟨5,[],0⟩
def Yg {A B R S:Type} [Enc A] [Enc B] [Enc R] [Enc S] (p:A→Prop) (f:A→B×R×S):Con:=⟨[false],[false,false,false],fun c=>match c with
 | [.d x]=>Up A x∧p (dec x)
 | _=>False,fun c=>match c with
 | [.d x]=>.tup [.d (enc (f (dec x)).1),.d (enc (f (dec x)).2.1),.d (enc (f (dec x)).2.2)]
 | _=>.d .nilp⟩
theorem Xg:type_of% @Yg.eq_def:=@Yg.eq_def
theorem iP {A B R S:Type} [Enc A] [Enc B] [Enc R] [Enc S] {p:A→Prop} {f:A→B×R×S} {c:List CV} (h:(Yg p f).pre c):∃ a,c=[.d (enc a)]∧p a:=by
 unfold Yg at h;simp only at h;split at h
 ·next x=>exact ⟨dec x,by rw [←h.1],h.2⟩
 ·exact h.elim
def Y6 {A R S:Type} [Enc A] [Enc R] [Enc S] (p:A→Prop) (f:A→R×S):Con:=⟨[false],[false,false],fun c=>match c with
 | [.d x]=>Up A x∧p (dec x)
 | _=>False,fun c=>match c with
 | [.d x]=>.tup [.d (enc (f (dec x)).1),.d (enc (f (dec x)).2)]
 | _=>.d .nilp⟩
theorem Jt:type_of% @Y6.eq_def:=@Y6.eq_def
theorem Zac {A R S:Type} [Enc A] [Enc R] [Enc S] {p:A→Prop} {f:A→R×S} {c:List CV} (h:(Y6 p f).pre c):∃ a,c=[.d (enc a)]∧p a:=by
 unfold Y6 at h;simp only at h;split at h
 ·next x=>exact ⟨dec x,by rw [←h.1],h.2⟩
 ·exact h.elim
def K0 (ks:List (Rose Node)):List (Sl Node):=ks.map fun k=>Sl.mk (Zse (nds k))
theorem less_not (x y:List UInt8):(Op.bytesLess x y||x==y)=!Op.bytesLess y x:=by
 rw [bytesLess_eq,bytesLess_eq,Bool.eq_iff_iff];simp only [Bool.or_eq_true,decide_eq_true_eq,Zp,Bool.not_eq_true',decide_eq_false_iff_not,List.not_lt];constructor
 ·rintro (h|rfl)
  ·exact List.le_of_lt h
  ·exact List.le_refl _
 ·intro h;rcases List.le_iff_lt_or_eq.1 h with h|h
  ·exact .inl h
  ·exact .inr h
theorem Zk5 (x:List UInt8):Op.bytesLess x []=false:=by
 rw [bytesLess_eq];simp
structure Part where
 kind:Int
 label:List UInt8
 name:List UInt8
 bind:List UInt8
 many:Int
 num:Int
 t:List Node
 u:List Node
 deriving DecidableEq
instance encPart:Enc Part:=⟨fun a=>.agg [.int .i64 a.kind,.str a.label,.str a.name,.str a.bind,.int .i64 a.many,.int .i64 a.num,.list 3 (a.t.map enc),.list 3 (a.u.map enc)],fun x=>match x with
 | .agg [a,b,c,d,e,f,g,h]=>⟨a.i,b.s,c.s,d.s,e.i,f.i,g.l.map dec,h.l.map dec⟩
 | _=>⟨0,[],[],[],0,0,[],[]⟩,fun a=>by
  have h:∀ l:List Node,(l.map (enc:Node→D)).map dec=l:=fun l=>Jz;cases a;simp [D.l,D.i,D.s,h]⟩
instance szPart:Sz Part:=⟨8⟩
theorem Mh:Sz.sz Part=8:=rfl
theorem Z0 {n:Part}:(enc n:D)=.agg [.int .i64 n.kind,.str n.label,.str n.name,.str n.bind,.int .i64 n.many,.int .i64 n.num,.list 3 (n.t.map enc),.list 3 (n.u.map enc)]:=rfl
theorem Z7 {a:Int} {b c d:List UInt8} {e f:Int} {g h:List Node}:(dec (.agg [.int .i64 a,.str b,.str c,.str d,.int .i64 e,.int .i64 f,.list 3 (g.map enc),.list 3 (h.map enc)]):Part)=⟨a,b,c,d,e,f,g,h⟩:=Enc.dec_enc (Part.mk a b c d e f g h)
theorem Z6 {a:Int} {b c d:List UInt8} {e f:Int} {g h:List Node}:Up Part (.agg [.int .i64 a,.str b,.str c,.str d,.int .i64 e,.int .i64 f,.list 3 (g.map enc),.list 3 (h.map enc)])=True:=eq_true (Yc (Part.mk a b c d e f g h))
theorem Qa {n:Part}:Part.mk n.kind n.label n.name n.bind n.many n.num n.t n.u=n:=rfl
def e0:Part:=⟨0,[],[],[],0,0,[],[]⟩
def Zou (p:Part):Prop:=(p.t.length≤9223372036854775807∧Wz p.t)∧(p.u.length≤9223372036854775807∧Wz p.u)∧p.label.length≤9223372036854775807∧p.name.length≤9223372036854775807∧p.bind.length≤9223372036854775807
theorem U7 {p:Nat→Prop} {k:Nat} (h:∀ j,j<k→p j) (hk:p k):∀ j,j<k+1→p j:=fun j hj=>by
 rcases Nat.lt_or_ge j k with h1|h1
 ·exact h j h1
 ·have:j=k:=by omega
  exact this▸hk
def Uo (p:Part):Int :=
 if p.kind=2∨p.kind=8∨p.kind=11∨p.kind=12∨p.kind=13∨p.kind=14 then 1
 else if p.kind=3∨p.kind=4∨p.kind=5∨p.kind=9 then 2
 else if p.kind=6 then 3
 else if p.kind=7 then Zjb p.many 0+1
 else if p.kind=10 then Zjb p.many 0
 else 0
def Mz:Con:=Xy (fun (p:Part)=>p.many≤1000000) (fun p=>Uo p)
structure w379k:Prop
theorem w379k.k (_:w379k) {p:Prop} (h:p:=by
 repeat' first|exact Qg|with_reducible apply And.intro|intro _
 all_goals first|(rw [Xb,hmx];split<;>omega)|(unfold Uo;simp_all;done)):p:=h
theorem good_Many5:Qr Tryz.prog (140,Mz):=by
 obtain ⟨Kx,Kt,Kc,Kd,Kb,Ku,Kw,K,_⟩:=Wi Z3 Zn [] false Wg;have Ko:=Mz.eq_def;refine Wh K Tryz.func140 [.tmp 2] rfl 30 rfl (fun c hc cvs hpre=>?_);unfold Mz at hpre;obtain ⟨p,rfl,hm⟩:=J4 hpre;have hmx:Zjb p.many 0=if p.many<0 then 0 else p.many:=rfl
 cases hc;have Qh:=@Z0;have Qi:=@Z6;have Z2:=@Z7;have Qd:=@Qa;have Z5:=@Mh;have Kq:w379k:=⟨⟩;exact Pc
def Ip:List Part→Int→Nat
 | [],_=>0
 | n::l,o=>if o-1+Uo n=0 then 1 else 1+Ip l (o-1+Uo n)
def iB (t:List Part) (i:Int):Int:=if i<0∨(t.length:Int)≤i then -1 else i+Ip (t.drop i.toNat) 1
def Zan (t:List Part):Prop:=t.length≤100000∧∀ n∈t,0≤Uo n∧Uo n≤60∧n.many≤1000000
def Fe:Con:=Wc (fun (t:Sl Part) (i:Int)=>Zan t.l∧dL .i64 i) (fun t i=>iB t.l i)
structure w381k:Prop
theorem w381k.k (_:w381k) {p:Prop} (h:p:=by
 repeat' first|exact Qg|with_reducible apply And.intro|intro _
 ·rename_i hz;rw [if_pos hz] at he;rw [e00];omega
 ·rename_i hz;rw [if_neg hz] at he;exact ⟨(k+1,o-1+Uo x),by exact Qy,by simp only;omega,by simp only;omega,by simp only;omega,by simp only;omega,by simp only;omega,by simp only;omega⟩):p:=h
structure w382k:Prop
theorem w382k.k (_:w382k) {p:Prop} (h:p:=by
 rw [e00];omega):p:=h
structure w380k:Prop
theorem w380k.k (_:w380k) {p:Prop} (h:p:=by
 repeat' first|exact Qg|with_reducible apply And.intro|intro _
 ·unfold iB;rw [if_pos (.inr ‹_›)]
 ·obtain ⟨i,rfl⟩:∃ n:Nat,i=n:=⟨i.toNat,by omega⟩
  have hil:i<t.length:=by omega
  have e00:iB t i=i+Ip (t.drop i) 1:=by
   unfold iB;rw [if_neg (by omega)]
   rfl
  refine Zh [4,16,17,18,19,20,21,22,23,24,25,26,27,28,29,30,31,32,33] (fun p:Nat×Int=>[(5,.d (.int .i64 p.2)),(6,.d (.int .i64 p.1))]) (fun p:Nat×Int=>[]) (fun p:Nat×Int=>i≤p.1∧p.1≤t.length∧1≤p.2∧p.2≤1+60*p.1∧i+Ip (t.drop i) 1=p.1+Ip (t.drop p.1) p.2) (fun p:Nat×Int=>t.length-p.1) (i,1) ?_ ?_ ?_
  ·exact ⟨Zm _,by simp only;omega,by simp,by simp only;omega,rfl⟩
  ·exact Qy
  rintro ⟨k,o⟩ ⟨h1,h2,h3,h4,h5⟩;simp only at h1 h2 h3 h4 h5;rcases Zl k t.length with ⟨hlt,Qh⟩|⟨hlt,Qh⟩
  ·have hmk:=hm (t.getD k e0) (by simp [hlt])
   have Qi:=Zo e0 hlt;have he:Ip (t.drop k) o=if o-1+Uo (t.getD k e0)=0 then 1 else 1+Ip (t.drop (k+1)) (o-1+Uo (t.getD k e0)):=by
    rw [List.drop_eq_getElem_cons hlt,Ip];simp [hlt]
   obtain ⟨x,hx⟩:=exq (t.getD k e0);rw [hx] at hmk Qi he;have Z2:=@Z0;have Qd:=@Z6;have Z5:=@Z7;have Z9:=@Qa;have Qu:=@Mh;have Kq:w381k:=⟨⟩;exact Pc
  ·have hd:t.drop k=[]:=List.drop_eq_nil_of_le hlt;rw [hd,Ip] at h5;have Z2:=@Z0;have Qd:=@Z6;have Z5:=@Z7;have Z9:=@Qa;have Qu:=@Mh;have Kq:w382k:=⟨⟩;exact Pc
 ·unfold iB;rw [if_pos (.inl ‹_›)]):p:=h
theorem good_End5:Qr Tryz.prog (141,Fe):=by
 obtain ⟨Kx,Kt,Kc,Kd,Kb,Ku,Kw,K,Yj,_⟩:=Wi Z3 Zn [] false (Ja good_Many5 Mz.eq_def Wg);have Ko:=Fe.eq_def;refine Wh K Tryz.func141 [.tmp 4] rfl 36 rfl (fun c hc cvs hpre=>?_);unfold Fe at hpre;obtain ⟨⟨t⟩,i,rfl,⟨ht,hm⟩,hi⟩:=Jr hpre;simp only at ht hm;rw [Xb] at hi;cases hc;refine Ys 2 ?_;have Z2:=@Z0;have Qd:=@Z6;have Z5:=@Z7;have Z9:=@Qa;have Qu:=@Mh;have Kq:w380k:=⟨⟩;exact Pc
theorem Zh0:∀ (l:List Part) (o:Int),Ip l o≤l.length
 | [],_=>Zm _
 | n::l,o=>by
  have:=Zh0 l (o-1+Uo n);simp only [Ip,Zi];split<;>omega
def Wn (t:List Part):Nat→Nat→List Int
 | 0,_=>[]
 | m+1,at_=>if at_<t.length then (at_:Int)::Wn t m (at_+Ip (t.drop at_) 1) else []
def D7 (t:List Part) (i:Int):List Int:=if i<0∨(t.length:Int)≤i then [] else Wn t (Uo (t.getD i.toNat e0)).toNat (i.toNat+1)
def Rq:Con:=Wc (fun (t:Sl Part) (i:Int)=>Zan t.l∧dL .i64 i) (fun t i=>Sl.mk (D7 t.l i))
structure w384k:Prop
theorem w384k.k (_:w384k) {p:Prop} (h:p:=by
 repeat' first|exact Qg|with_reducible apply And.intro|intro _
 refine ⟨(k+1,q+Ip (t.drop q) 1,out++[(q:Int)]),by exact Qy,by simp only;omega,by simp only;omega,by simp [h3],?_,by simp only;omega⟩
 simp only;rw [←h4,show M-(k+1)=M-k-1 by omega]
 simp):p:=h
structure w385k:Prop
theorem w385k.k (_:w385k) {p:Prop} (h:p:=by
 repeat' first|exact Qg|with_reducible apply And.intro|intro _
 rw [e00,h4]):p:=h
structure w386k:Prop
theorem w386k.k (_:w386k) {p:Prop} (h:p:=by
 repeat' first|exact Qg|with_reducible apply And.intro|intro _
 rw [e00,h4]):p:=h
structure w383k:Prop
theorem w383k.k (_:w383k) {p:Prop} (h:p:=by
 repeat' first|exact Qg|with_reducible apply And.intro|intro _
 ·unfold D7;rw [if_pos (.inr ‹_›)];rfl
 ·obtain ⟨i,rfl⟩:∃ n:Nat,i=n:=⟨i.toNat,by omega⟩
  have hil:i<t.length:=by omega
  have hmi:=hm (t.getD i e0) (by simp [hil])
  have Z5:=Zo e0 hil;obtain ⟨M,Z2⟩:∃ M:Nat,Uo (t.getD i e0)=M:=⟨(Uo (t.getD i e0)).toNat,by omega⟩
  have e00:D7 t i=Wn t M (i+1):=by
   unfold D7;rw [if_neg (by omega)]
   simp only [Ze,Z2]
  obtain ⟨x,hx⟩:=exq (t.getD i e0);rw [hx] at hmi Z5 Z2;refine Zh [20,21,22,23,24,25,26,27,28,29,30,31,32,33,34,35,36,37,38,39,40,41] (fun p:Nat×Nat×List Int=>[(5,.sl 8 (p.2.2.map enc).length),(6,.d (.int .i64 p.2.1)),(7,.d (.int .i64 p.1))]) (fun p:Nat×Nat×List Int=>[(8,.row 1 (p.2.2.map enc) 0)]) (fun p:Nat×Nat×List Int=>p.1≤M∧p.2.1≤t.length∧p.2.2.length=p.1∧p.2.2++Wn t (M-p.1) p.2.1=Wn t M (i+1)) (fun p:Nat×Nat×List Int=>M-p.1) (0,i+1,[]) ?_ ?_ ?_
  ·exact ⟨Nat.zero_le _,hil,rfl,rfl⟩
  ·exact Qy
  rintro ⟨k,q,out⟩ ⟨h1,h2,h3,h4⟩;simp only at h1 h2 h3 h4;rcases Zl k M with ⟨hk,Qh⟩|⟨hk,Qh⟩
  ·rcases Zl q t.length with ⟨hq,Qi⟩|⟨hq,Qi⟩
   ·have e1:M-k=(M-k-1)+1:=by omega
    rw [e1,Wn,if_pos hq] at h4;have hle:=Zh0 (t.drop q) 1;rw [List.length_drop] at hle;have Qd:iB t q=((q+Ip (t.drop q) 1:Nat):Int):=by
     unfold iB;rw [if_neg (by omega)]
     simp
    have hT:Zan t:=⟨ht,hm⟩;have Z9:=@Z0;have Qu:=@Z6;have Q0:=@Z7;have Q2:=@Qa;have Qz:=@Mh;have Kq:w384k:=⟨⟩;exact Pc
   ·have hz:Wn t (M-k) q=[]:=by
     cases hc:M-k with
     | zero=>rfl
     | succ c=>rw [Wn,if_neg (by omega)]
    rw [hz,List.append_nil] at h4;have Z9:=@Z0;have Qu:=@Z6;have Q0:=@Z7;have Q2:=@Qa;have Qz:=@Mh;have Kq:w385k:=⟨⟩;exact Pc
  ·have hz:Wn t (M-k) q=[]:=by
    rw [show M-k=0 by omega]
    rfl
   rw [hz,List.append_nil] at h4;have Z9:=@Z0;have Qu:=@Z6;have Q0:=@Z7;have Q2:=@Qa;have Qz:=@Mh;have Kq:w386k:=⟨⟩;exact Pc
 ·unfold D7;rw [if_pos (.inl ‹_›)];rfl):p:=h
theorem good_Kids5:Qr Tryz.prog (102,Rq):=by
 obtain ⟨Kx,Kt,Kc,Kd,Kb,Ku,Kw,K,Yj,Kv,_⟩:=Wi Z3 Zn [] false (Ja good_Many5 Mz.eq_def (Ja good_End5 Fe.eq_def Wg));have Ko:=Rq.eq_def;refine Wh K Tryz.func102 [.tmp 4] rfl 43 rfl (fun c hc cvs hpre=>?_);unfold Rq at hpre;obtain ⟨⟨t⟩,i,rfl,⟨ht,hm⟩,hi⟩:=Jr hpre;simp only at ht hm;rw [Xb] at hi;cases hc;refine Ys 2 ?_;have Z9:=@Z0;have Qu:=@Z6;have Q0:=@Z7;have Q2:=@Qa;have Qz:=@Mh;have Kq:w383k:=⟨⟩;exact Pc
def Zmw:List (List UInt8):=[[43],[45],[42],[47],[60],[61,61],[38,38],[124,124],[43,43]]
def Zqd (s:List UInt8):Bool:=Zmw.any fun o=>o==s
theorem Zmv:([.str [43],.str [45],.str [42],.str [47],.str [60],.str [61,61],.str [38,38],.str [124,124],.str [43,43]]:List D)=Zmw.map enc:=rfl
theorem Ze4:∀ {l:List (List UInt8)},Tl 1 (l.map enc)=True
 | []=>rfl
 | x::l=>by
  show (D.fits 1 (.str x)∧Tl 1 (l.map enc))=True;rw [Ze4,and_true];exact eq_true rfl
def fY:Con:=Xy (fun (_:List UInt8)=>True) (fun s=>Zqd s)
structure w388k:Prop
theorem w388k.k (_:w388k) {p:Prop} (h:p:=by
 repeat' first|exact Qg|with_reducible apply And.intro|intro _
 all_goals first|with_reducible exact Jf|omega|exact ⟨k+1,by exact Qy,by omega,h2,by omega⟩|skip):p:=h
structure w387k:Prop
theorem w387k.k (_:w387k) {p:Prop} (h:p:=by
 repeat' first|exact Qg|with_reducible apply And.intro|intro _
 ·cases l with
  | nil=>trivial
  | cons x l=>exact ⟨rfl,of_eq_true Ze4⟩
 refine Zh [2,6,7,8,9,10,11,12,13,14,15,16,17] (fun k:Nat=>[(4,.d (.int .i64 k))]) (fun k:Nat=>[]) (fun k:Nat=>k≤9∧∀ j,j<k→l.getD j []≠s) (fun k:Nat=>9-k) 0 ?_ ?_ ?_
 ·simp
 ·exact Qy
 rintro k ⟨hk,hno⟩;by_cases hlt:k<9
 ·have Z2:Yr (k:Int) 9=true:=by rw [Jw];omega
  have Qd:=Zo ([]:List UInt8) (show k<l.length by omega)
  have hst:l.getD k []≠s→∀ j,j<k+1→l.getD j []≠s:=fun h=>U7 hno h;have hit:(l.getD k []==s)=true→R=true:=fun h=>by rw [←hR2];exact cN (p:=fun o=>o==s) [] k (by omega) h
  obtain ⟨y,hy⟩:=exq (l.getD k []);rw [hy] at Qd hst hit;cases Z5:(y==s) with
  | true =>
   have hr:=hit Z5;subst hr;exact Zo3
  | false =>
   have h2:=hst (beq_eq_false_iff_ne.1 Z5);have Kq:w388k:=⟨⟩;exact Pc
 ·have Z2:Yr (k:Int) 9=false:=by rw [Q3];omega
  have hr:R=false:=by rw [←hR2];exact Dz (p:=fun o=>o==s) [] fun j hj=>beq_eq_false_iff_ne.2 (hno j (by omega))
  subst hr;exact Zo3):p:=h
theorem good_op5:Qr Tryz.prog (190,fY):=by
 obtain ⟨Kx,Kt,Kc,Kd,Kb,Ku,Kw,K,_⟩:=Wi Z3 Zn [] false Wg;have Ko:=fY.eq_def;refine Wh K Tryz.func190 [.tmp 2] rfl 18 rfl (fun c hc cvs hpre=>?_);unfold fY at hpre;obtain ⟨s,rfl,-⟩:=J4 hpre;obtain ⟨R,Z9⟩:=exq (Zqd s);have hR2:=Z9;unfold Zqd at hR2;have hl:Zmw.length=9:=rfl;have Qh:=Zmv;obtain ⟨l,hll⟩:=exq (Zmw);rw [hll] at hR2 hl Qh;have Qi:(l.length:Int)=9:=by rw [hl];rfl
 cases hc;have Kq:w387k:=⟨⟩;exact Pc
def Zgm:List UInt8→Option Nat
 | []=>none
 | c::s=>if c=33 then some 0 else (Zgm s).map (·+1)
theorem Zh3:∀ {s:List UInt8} {k:Nat},k<s.length→(∀ j,j<k→s.getD j 0≠33)→s.getD k 0=33→Zgm s=some k
 | [],k,h,_,_=>by simp at h
 | c::s,0,_,_,h=>by
  simp only [List.getD_cons_zero] at h;simp [Zgm,h]
 | c::s,k+1,h,hno,hk=>by
  have h0:=hno 0 (by omega)
  simp only [List.getD_cons_zero] at h0;rw [Zgm,if_neg h0,Zh3 (k:=k) (by simpa using h) (fun j hj=>by simpa using hno (j+1) (by omega)) (by simpa using hk)]
  rfl
theorem zT:∀ {s:List UInt8},(∀ j,j<s.length→s.getD j 0≠33)→Zgm s=none
 | [],_=>rfl
 | c::s,hno=>by
  have h0:=hno 0 (by simp)
  simp only [List.getD_cons_zero] at h0;rw [Zgm,if_neg h0,zT fun j hj=>by simpa using hno (j+1) (by simpa using hj)]
  rfl
def Zdf (s:List UInt8):Bool:=match Zgm s with
 | some k=>Wo (s.take k)&&Wo (s.drop (k+1))
 | none=>Wo s
theorem Zg2 {c:UInt8}:((c.toNat:Int)==33)=true↔c=33:=by
 rw [Zp];constructor
 ·intro h;have:c.toNat=33:=by omega
  exact UInt8.toNat_inj.1 (by rw [this];rfl)
 ·rintro rfl;rfl
def Rf:Con:=Xy (fun (s:List UInt8)=>s.length≤9223372036854775806) (fun s=>Zdf s)
structure w390k:Prop
theorem w390k.k (_:w390k) {p:Prop} (h:p:=by
 repeat' first|exact Qg|with_reducible apply And.intro|intro _
 all_goals first|with_reducible exact Jf|omega|exact ⟨k+1,by exact Qy,by omega,h2,by omega⟩|skip):p:=h
structure w389k:Prop
theorem w389k.k (_:w389k) {p:Prop} (h:p:=by
 repeat' first|exact Qg|with_reducible apply And.intro|intro _
 refine Zh [2,4,5,6,7,8,9,10,11,12,13,14,15,16,17,18,19,20,21,22,23,24] (fun k:Nat=>[(3,.d (.int .i64 k))]) (fun k:Nat=>[]) (fun k:Nat=>k≤s.length∧∀ j,j<k→s.getD j 0≠33) (fun k:Nat=>s.length-k) 0 ?_ ?_ ?_
 ·simp
 ·exact Qy
 rintro k ⟨hk,hno⟩;rcases Zl k s.length with ⟨hlt,Qh⟩|⟨hlt,Qh⟩
 ·have hst:s.getD k 0≠33→∀ j,j<k+1→s.getD j 0≠33:=fun h=>U7 hno h;have hit:s.getD k 0=33→R=(Wo (s.take k)&&Wo (s.drop (k+1))):=fun h=>by
   rw [Zh3 hlt hno h] at hR2;exact hR2.symm
  obtain ⟨y,Qi⟩:=exq (s.getD k 0);rw [Qi] at hst hit;have Z5:(k:Int)+1=((k+1:Nat):Int):=rfl;cases Z2:((y.toNat:Int)==33) with
  | true =>
   have hr:=hit (Zg2.1 Z2);have l1:(s.take k).length≤9223372036854775807:=by rw [List.length_take];omega
   have l2:(s.drop (k+1)).length≤9223372036854775807:=by rw [List.length_drop];omega
   obtain ⟨w1,Qd⟩:=exq (Wo (s.take k));obtain ⟨w2,Z9⟩:=exq (Wo (s.drop (k+1)));rw [Qd,Z9] at hr;cases w1 with
   | true =>
    rw [Bool.true_and] at hr;subst hr;exact Zo3
   | false =>
    rw [Bool.false_and] at hr;subst hr;exact Zo3
  | false =>
   have h2:=hst (fun e=>by rw [Zg2.2 e] at Z2;cases Z2)
   have Kq:w390k:=⟨⟩;exact Pc
 ·have hr:R=Wo s:=by
   rw [zT fun j hj=>hno j (by omega)] at hR2
   exact hR2.symm
  subst hr;exact Zo3):p:=h
theorem good_name5:Qr Tryz.prog (189,Rf):=by
 obtain ⟨Kx,Kt,Kc,Kd,Kb,Ku,Kw,K,Yj,_⟩:=Wi Z3 Zn [] false (Ja good_IsWord1 Sa Wg);have Ko:=Rf.eq_def;refine Wh K Tryz.func189 [.tmp 2] rfl 27 rfl (fun c hc cvs hpre=>?_);unfold Rf at hpre;obtain ⟨s,rfl,hs⟩:=J4 hpre;obtain ⟨R,Qu⟩:=exq (Zdf s);have hR2:=Qu;unfold Zdf at hR2;cases hc;have Kq:w389k:=⟨⟩;exact Pc
def bS (t:List Node):Bool:=W0 t&&Em t
def Df:Con:=Xy (fun (t:Sl Node)=>t.l.length≤9223372036854775807∧Wz t.l) (fun t=>bS t.l)
structure w391k:Prop
theorem w391k.k (_:w391k) {p:Prop} (h:p:=by
 repeat' first|exact Qg|with_reducible apply And.intro|intro _
 all_goals (unfold bS;simp_all)):p:=h
theorem good_plain5:Qr Tryz.prog (187,Df):=by
 obtain ⟨Kx,Kt,Kc,Kd,Kb,Ku,Kw,K,Yj,Kv,_⟩:=Wi Z3 Zn [] false (Ja good_Right3 L5.eq_def (Ja good_Plain3 Dq.eq_def Wg));have Ko:=Df.eq_def;refine Wh K Tryz.func187 [.tmp 2] rfl 9 rfl (fun c hc cvs hpre=>?_);unfold Df at hpre;obtain ⟨⟨t⟩,rfl,ht,hN⟩:=J4 hpre;simp only at ht hN;cases hc;have Kq:w391k:=⟨⟩;exact Pc
def Zk4 (p:Part) (n:Node):Bool :=
 if p.t.length≠1∨n.name≠[]∨n.n≠0∨p.num<0∨999999999999999999<p.num then false
 else if n.kind=1 then p.name==[]
 else if n.kind=2 then p.name==[]&&Yr p.num 2
 else if n.kind=3 then p.num==0
 else if n.kind=4 then p.name==[]&&p.num==0
 else false
def Ev (p:Part):Bool:=Zk4 p (p.t.getD 0 n0)
def Bq:Con:=Xy (fun (p:Part)=>Zou p) (fun p=>Ev p)
structure w392k:Prop
theorem w392k.k (_:w392k) {p:Prop} (h:p:=by
 repeat' first|exact Qg|with_reducible apply And.intro|intro _
 all_goals first|omega|(symm;rw [←hR2];clear hR2 Z2;unfold Zk4;simp_all;done)|(symm;rw [←hR2];clear hR2 Z2;unfold Zk4;simp_all;omega)|(symm;rw [←hR2];clear hR2 Z2;unfold Zk4;rw [if_neg (by simp_all;omega)];simp_all [Yr];done)|skip):p:=h
theorem good_literal5:Qr Tryz.prog (188,Bq):=by
 obtain ⟨Kx,Kt,Kc,Kd,Kb,Ku,Kw,K,_⟩:=Wi Z3 Zn [] false Wg;have Ko:=Bq.eq_def;refine Wh K Tryz.func188 [.tmp 2] rfl 68 rfl (fun c hc cvs hpre=>?_);unfold Bq at hpre;obtain ⟨p,rfl,hF⟩:=J4 hpre;clear hpre;obtain ⟨R,Z2⟩:=exq (Ev p);have hR2:=Z2;unfold Ev at hR2;cases hc;refine Ys 4 ?_;by_cases h1:p.t.length=1
 ·have Qh:((p.t.length:Int) != 1)=false:=by rw [bne_eq_false_iff_eq];omega
  have Qi:=Zo n0 (show 0<p.t.length by omega)
  obtain ⟨x,hx⟩:=exq (p.t.getD 0 n0);rw [hx] at Qi hR2;clear hx;have Qd:=@Z0;have Z5:=@Z6;have Z9:=@Z7;have Qu:=@Qa;have Q0:=@Mh;have Kq:w392k:=⟨⟩;exact Pc
 ·have Qh:((p.t.length:Int) != 1)=true:=by rw [bne_iff_ne];omega
  unfold Zk4 at hR2;rw [if_pos (.inl h1)] at hR2;subst hR2;have Qd:=@Z0;have Z5:=@Z6;have Z9:=@Z7;have Qu:=@Qa;have Q0:=@Mh;exact Zsb
end Go.Am.Ty
