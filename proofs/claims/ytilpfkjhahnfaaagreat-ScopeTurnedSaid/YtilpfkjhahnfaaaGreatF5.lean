/- Contracts of functions that the law reaches, and plain laws. Conditions: those that each contract states. -/
import Derived.Test.YtilpfkjhahnfaaaGreatF4
import Derived.Test.YtilpfkjhahnfaaaGreatChecked
import Derived.Sort.Walk0
set_option maxHeartbeats 4000000
set_option linter.unusedVariables false
set_option linter.unusedSimpArgs false
variable {p:Prop}
set_option maxRecDepth 100000
namespace Go.Am
open Enc (enc dec)
theorem Zbv:type_of% @cC.eq_def:=@cC.eq_def
theorem Zbu:type_of% @kX.eq_def:=@kX.eq_def
theorem Zbt:type_of% @Nx.eq_def:=@Nx.eq_def
theorem Zbs:type_of% @Xq.eq_def:=@Xq.eq_def
theorem Zbr:type_of% @AS.put.eq_def:=@AS.put.eq_def
theorem Zbq:type_of% @aA.eq_def:=@aA.eq_def
theorem Zbp:type_of% @Ze6.eq_def:=@Ze6.eq_def
theorem Zbo:type_of% @Ctx.one.eq_def:=@Ctx.one.eq_def
theorem Zbn:type_of% @Sg.eq_def:=@Sg.eq_def
theorem Zbm:type_of% @Jn.eq_def:=@Jn.eq_def
theorem Zbl:type_of% @Zjb.eq_def:=@Zjb.eq_def
theorem Zbk:type_of% @Fh.eq_def:=@Fh.eq_def
theorem Zbj:type_of% @Er.eq_def:=@Er.eq_def
theorem Zbi:type_of% @Ctx.esize.eq_def:=@Ctx.esize.eq_def
theorem Zbh:type_of% @Ctx.size.eq_def:=@Ctx.size.eq_def
theorem Zbg:type_of% @Ctx.ag.eq_def:=@Ctx.ag.eq_def
theorem Zbf:type_of% @TK.ag.eq_def:=@TK.ag.eq_def
theorem Zbe:type_of% @Ctx.elemT.eq_def:=@Ctx.elemT.eq_def
theorem Zbd:type_of% @Ctx.fieldAt.eq_def:=@Ctx.fieldAt.eq_def
theorem Zbc:type_of% @Zqt.eq_def:=@Zqt.eq_def
theorem Zbb:type_of% @R7.eq_def:=@R7.eq_def
theorem Zba:type_of% @dF.eq_def:=@dF.eq_def
theorem Za9:type_of% @eF.eq_def:=@eF.eq_def
theorem Za8:type_of% @N8.eq_def:=@N8.eq_def
theorem Za7:type_of% @Oo.eq_def:=@Oo.eq_def
theorem Za6:type_of% @N7.eq_def:=@N7.eq_def
theorem Za5:type_of% @On.eq_def:=@On.eq_def
theorem Za4:type_of% @eG.eq_def:=@eG.eq_def
theorem Za3:type_of% @N9.eq_def:=@N9.eq_def
theorem Za2:type_of% @eH.eq_def:=@eH.eq_def
theorem Za1:type_of% @Pj.eq_def:=@Pj.eq_def
theorem Za0:type_of% @Ns.eq_def:=@Ns.eq_def
theorem Zaz:type_of% @R6.eq_def:=@R6.eq_def
theorem Zay:type_of% @Zmb.eq_def:=@Zmb.eq_def
theorem Zax:type_of% @Zo0.eq_def:=@Zo0.eq_def
theorem Zaw:type_of% @Zo1.eq_def:=@Zo1.eq_def
theorem Zav:type_of% @dG.eq_def:=@dG.eq_def
theorem Zau:type_of% @Sd.eq_def:=@Sd.eq_def
theorem Zat:type_of% @iZ.eq_def:=@iZ.eq_def
theorem Zas:type_of% @Zd0.eq_def:=@Zd0.eq_def
theorem Zar:type_of% @lF.eq_def:=@lF.eq_def
theorem Zaq:type_of% @Zza.eq_def:=@Zza.eq_def
theorem Zap:type_of% @Yy.eq_def:=@Yy.eq_def
theorem Zao:type_of% @fS.eq_def:=@fS.eq_def
theorem Zan:type_of% @B6.eq_def:=@B6.eq_def
theorem Zam:type_of% @Zg5.eq_def:=@Zg5.eq_def
theorem Zal:type_of% @mN.eq_def:=@mN.eq_def
theorem Zak:type_of% @Zlq.eq_def:=@Zlq.eq_def
theorem Zaj:type_of% @Zq0.eq_def:=@Zq0.eq_def
theorem Zai:type_of% @En.eq_def:=@En.eq_def
theorem Zah:type_of% @AV.fits.eq_def:=@AV.fits.eq_def
theorem Zag:type_of% @Obj.isBox.eq_def:=@Obj.isBox.eq_def
theorem Zaf:type_of% @Zk2.eq_def:=@Zk2.eq_def
theorem Zae:type_of% @Zgm.eq_def:=@Zgm.eq_def
theorem Zad:type_of% @Zxn.eq_def:=@Zxn.eq_def
theorem Zac:type_of% @Zka.eq_def:=@Zka.eq_def
theorem Zab:type_of% @Ia.eq_def:=@Ia.eq_def
theorem Zaa:type_of% @Zwf.eq_def:=@Zwf.eq_def
theorem zU:type_of% @Uu.eq_def:=@Uu.eq_def
theorem zT:type_of% @rk.eq_def:=@rk.eq_def
theorem zS:type_of% @P3.eq_def:=@P3.eq_def
theorem zR:type_of% @Zua.eq_def:=@Zua.eq_def
theorem zP:type_of% @Zgu.eq_def:=@Zgu.eq_def
theorem zO:type_of% @Zcp.eq_def:=@Zcp.eq_def
theorem zN:type_of% @SK.is.eq_def:=@SK.is.eq_def
theorem zM:type_of% @Zf6.eq_def:=@Zf6.eq_def
theorem zL:type_of% @Zmx.eq_def:=@Zmx.eq_def
theorem zI:type_of% @AS.ev.eq_def:=@AS.ev.eq_def
theorem zH:type_of% @Z8.eq_def:=@Z8.eq_def
theorem zG:type_of% @Zj8.eq_def:=@Zj8.eq_def
theorem zF:type_of% @keysAll.eq_def:=@keysAll.eq_def
theorem zE:type_of% @AV.keys.eq_def:=@AV.keys.eq_def
theorem zC:type_of% @K6.eq_def:=@K6.eq_def
theorem zB:type_of% @Uh.eq_def:=@Uh.eq_def
theorem zK:type_of% @Pg.eq_def:=@Pg.eq_def
theorem zW:type_of% @Zf5.eq_def:=@Zf5.eq_def
theorem zV:type_of% @Nv.eq_def:=@Nv.eq_def
theorem zY:type_of% @nH.eq_def:=@nH.eq_def
theorem zJ:type_of% @Eo.eq_def:=@Eo.eq_def
theorem zX:type_of% @E3.eq_def:=@E3.eq_def
theorem zZ:type_of% @kB.eq_def:=@kB.eq_def
theorem zQ:type_of% @Y0.eq_def:=@Y0.eq_def
theorem yU:type_of% @lk.eq_def:=@lk.eq_def
theorem yT:type_of% @upd.eq_def:=@upd.eq_def
theorem yS:type_of% @Zw3.eq_def:=@Zw3.eq_def
theorem yR:type_of% @Rh.eq_def:=@Rh.eq_def
theorem yP:type_of% @Zw4.eq_def:=@Zw4.eq_def
theorem yO:type_of% @Xp.eq_def:=@Xp.eq_def
theorem yN:type_of% @rnA.eq_def:=@rnA.eq_def
theorem yM:type_of% @rnAs.eq_def:=@rnAs.eq_def
theorem yL:type_of% @Zs.eq_def:=@Zs.eq_def
theorem yI:type_of% @Qf.eq_def:=@Qf.eq_def
theorem yH:type_of% @Ye.eq_def:=@Ye.eq_def
theorem yG:type_of% @I1.eq_def:=@I1.eq_def
theorem yF:type_of% @Zma.eq_def:=@Zma.eq_def
theorem yE:type_of% @AV.off.eq_def:=@AV.off.eq_def
theorem yD:type_of% @offAll.eq_def:=@offAll.eq_def
theorem yC:type_of% @Ge.eq_def:=@Ge.eq_def
theorem yB:type_of% @Zdo.eq_def:=@Zdo.eq_def
theorem yA:type_of% @Yl.eq_def:=@Yl.eq_def
theorem yK:type_of% @Option.toList.eq_def:=@Option.toList.eq_def
theorem yW:type_of% @Np.eq_def:=@Np.eq_def
theorem yV:type_of% @Kv.eq_def:=@Kv.eq_def
theorem yY:type_of% @P8.eq_def:=@P8.eq_def
theorem yJ:type_of% @N4.eq_1:=@N4.eq_1
theorem yX:type_of% @N4.eq_2:=@N4.eq_2
theorem yZ:type_of% @U8.eq_1:=@U8.eq_1
theorem yQ:type_of% @U8.eq_2:=@U8.eq_2
theorem xU:type_of% @Bt.eq_1:=@Bt.eq_1
theorem xT:type_of% @Bt.eq_2:=@Bt.eq_2
theorem xS:type_of% @Bt.eq_3:=@Bt.eq_3
theorem xR:type_of% @Bt.eq_4:=@Bt.eq_4
theorem xP:type_of% @lG.eq_1:=@lG.eq_1
theorem xO:type_of% @lG.eq_2:=@lG.eq_2
theorem xN:type_of% @lG.eq_3:=@lG.eq_3
theorem xM:type_of% @Nl.eq_1:=@Nl.eq_1
theorem xL:type_of% @Nl.eq_2:=@Nl.eq_2
theorem xI:type_of% @Nl.eq_3:=@Nl.eq_3
theorem xH:type_of% @Cf.eq_1:=@Cf.eq_1
theorem xG:type_of% @Cf.eq_2:=@Cf.eq_2
theorem xF:type_of% @Lk.eq_1:=@Lk.eq_1
theorem xE:type_of% @Lk.eq_2:=@Lk.eq_2
theorem xD:type_of% @pur.eq_1:=@pur.eq_1
theorem xC:type_of% @pur.eq_2:=@pur.eq_2
theorem xB:type_of% @pur.eq_3:=@pur.eq_3
theorem xA:type_of% @pur.eq_4:=@pur.eq_4
theorem xK:type_of% @pur.eq_5:=@pur.eq_5
theorem xW:type_of% @pur.eq_6:=@pur.eq_6
theorem xV:type_of% @pur.eq_7:=@pur.eq_7
theorem xY:type_of% @pur.eq_8:=@pur.eq_8
theorem xJ:type_of% @purs.eq_1:=@purs.eq_1
theorem xX:type_of% @purs.eq_2:=@purs.eq_2
theorem xZ:type_of% @purs.eq_3:=@purs.eq_3
theorem xQ:type_of% @Ztg.eq_1:=@Ztg.eq_1
theorem wU:type_of% @Ztg.eq_2:=@Ztg.eq_2
theorem wT:type_of% @D.asAgg.eq_1:=@D.asAgg.eq_1
theorem wS:type_of% @D.setCell.eq_1:=@D.setCell.eq_1
theorem wR:type_of% @AV.cells.eq_1:=@AV.cells.eq_1
theorem wL:type_of% @AV.cells.eq_2:=@AV.cells.eq_2
theorem wI:type_of% @Ut.eq_1:=@Ut.eq_1
theorem wH:type_of% @Xj.eq_1:=@Xj.eq_1
theorem wG:type_of% @Wr.eq_1:=@Wr.eq_1
theorem wF:type_of% @Uj.eq_1:=@Uj.eq_1
theorem wE:type_of% @Zeq.eq_1:=@Zeq.eq_1
theorem wD:type_of% @Yq.eq_1:=@Yq.eq_1
theorem wC:type_of% @Bk.eq_1:=@Bk.eq_1
theorem wA:type_of% @Bk.eq_2:=@Bk.eq_2
theorem wK:type_of% @D.eqb.eq_1:=@D.eqb.eq_1
theorem wW:type_of% @D.eqb.eq_2:=@D.eqb.eq_2
theorem wV:type_of% @D.eqb.eq_3:=@D.eqb.eq_3
theorem wY:type_of% @Zna:=@Zna
theorem wJ:type_of% @Ze1:=@Ze1
theorem wX:type_of% @Znd:=@Znd
theorem wZ:type_of% @Zrc:=@Zrc
theorem wQ:type_of% @Zcv:=@Zcv
theorem vU:type_of% @Zcw:=@Zcw
theorem vT:type_of% @Zih:=@Zih
theorem vS:type_of% @Znb:=@Znb
theorem vR:type_of% @Znc:=@Znc
theorem vP:type_of% @Zrd:=@Zrd
theorem vO:type_of% @Qc4:=@Qc4
theorem vN:type_of% @Zcu:=@Zcu
theorem vM:type_of% @mC:=@mC
theorem vL:type_of% @Qc8:=@Qc8
theorem vI:type_of% @Qc7:=@Qc7
theorem vH:type_of% @Qc6:=@Qc6
theorem vG:type_of% @Qc5:=@Qc5
theorem vF:type_of% @Qcz:=@Qcz
theorem vE:type_of% @Qcy:=@Qcy
theorem vD:type_of% @Qcx:=@Qcx
theorem vC:type_of% @Qcw:=@Qcw
theorem vB:type_of% @Qcv:=@Qcv
theorem vA:type_of% @Qcu:=@Qcu
theorem vK:type_of% @Qdi:=@Qdi
theorem vW:type_of% @Qdh:=@Qdh
theorem vV:type_of% @Qdg:=@Qdg
theorem vY:type_of% @Qdf:=@Qdf
theorem vJ:type_of% @Qde:=@Qde
theorem vX:type_of% @Qdd:=@Qdd
theorem vZ:type_of% @Qdl:=@Qdl
theorem vQ:type_of% @Qdk:=@Qdk
theorem uU:type_of% @Qc3:=@Qc3
theorem uT:type_of% @Qc2:=@Qc2
theorem uS:type_of% @Qdc:=@Qdc
theorem uR:type_of% @Qdb:=@Qdb
theorem uP:type_of% @Qda:=@Qda
theorem uO:type_of% @Qc9:=@Qc9
theorem uN:type_of% @Qc1:=@Qc1
theorem uM:type_of% @Zt5:=@Zt5
theorem uL:type_of% @Zp5:=@Zp5
theorem uI:type_of% @Zxw:=@Zxw
theorem uH:type_of% @Zxv:=@Zxv
theorem uG:type_of% @Zxy:=@Zxy
theorem uF:type_of% @Zxx:=@Zxx
theorem uE:type_of% @Zt6:=@Zt6
theorem uD:type_of% @Zt7:=@Zt7
theorem uC:type_of% @iW:=@iW
theorem uB:type_of% @B4:=@B4
theorem uA:type_of% @Zdn:=@Zdn
theorem uK:type_of% @Gv:=@Gv
theorem uW:type_of% @Zqs:=@Zqs
theorem uV:type_of% @Zj3:=@Zj3
theorem uY:type_of% @Zp4:=@Zp4
theorem uJ:type_of% @Zji:=@Zji
theorem uX:type_of% @aU:=@aU
theorem uZ:type_of% @D3:=@D3
theorem uQ:type_of% @aT:=@aT
theorem tU:type_of% @D2:=@D2
theorem tT:type_of% @Tk:=@Tk
theorem tS:type_of% @iF:=@iF
theorem tR:type_of% @bW:=@bW
theorem tP:type_of% @iD:=@iD
theorem tO:type_of% @bY:=@bY
theorem tN:type_of% @iH:=@iH
theorem tM:type_of% @iE:=@iE
theorem tL:type_of% @iG:=@iG
theorem tI:type_of% @bX:=@bX
theorem tH:type_of% @bJ:=@bJ
theorem tG:type_of% @jP:=@jP
theorem tF:type_of% @cA:=@cA
theorem tE:type_of% @jM:=@jM
theorem tD:type_of% @cW:=@cW
theorem tC:type_of% @jR:=@jR
theorem tB:type_of% @jO:=@jO
theorem tA:type_of% @jS:=@jS
theorem tK:type_of% @encI_def:=@encI_def
theorem tW:type_of% @encB_def:=@encB_def
theorem tV:type_of% @encS_def:=@encS_def
theorem tY:type_of% @Zqi:=@Zqi
theorem tJ:type_of% @Rz:=@Rz
theorem tX:type_of% @bV:=@bV
theorem tZ:type_of% @cK:=@cK
theorem tQ:type_of% @Qbz:=@Qbz
theorem sU:type_of% @Qb0:=@Qb0
theorem sT:type_of% @Qbx:=@Qbx
theorem sS:type_of% @Qby:=@Qby
theorem sR:type_of% @List.getD_cons_zero:=@List.getD_cons_zero
theorem sP:type_of% @List.getD_cons_succ:=@List.getD_cons_succ
theorem sO:type_of% @List.set_cons_zero:=@List.set_cons_zero
theorem sN:type_of% @List.set_cons_succ:=@List.set_cons_succ
theorem sM:type_of% @List.cons_append:=@List.cons_append
theorem sL:type_of% @List.nil_append:=@List.nil_append
theorem sI:type_of% @List.take_succ_cons:=@List.take_succ_cons
theorem sH:type_of% @List.take_zero:=@List.take_zero
theorem sG:type_of% @List.drop_succ_cons:=@List.drop_succ_cons
theorem sF:type_of% @List.drop_zero:=@List.drop_zero
theorem sE:type_of% @Zb6:=@Zb6
theorem sD:type_of% @jX:=@jX
theorem sC:type_of% @Zb5:=@Zb5
theorem sB:type_of% @jZ:=@jZ
theorem sA:type_of% @Jw:=@Jw
theorem sK:type_of% @J2:=@J2
theorem sW:type_of% @Zb4:=@Zb4
theorem sV:type_of% @gO:=@gO
theorem sY:type_of% @Zb3:=@Zb3
theorem sJ:type_of% @gN:=@gN
theorem sX:type_of% @Bool.not_true:=@Bool.not_true
theorem sZ:type_of% @Bool.not_false:=@Bool.not_false
theorem sQ:type_of% @Bool.not_not:=@Bool.not_not
theorem rU:type_of% @Int.toNat_natCast:=@Int.toNat_natCast
theorem rT:type_of% @Int.toNat_zero:=@Int.toNat_zero
theorem rS:type_of% @Zp1:=@Zp1
theorem rR:type_of% @Qb9:=@Qb9
theorem rP:type_of% @Qc0:=@Qc0
theorem rO:type_of% @Zzt:=@Zzt
theorem rN:type_of% @Zzs:=@Zzs
theorem rM:type_of% @Zzo:=@Zzo
theorem rL:type_of% @Zzn:=@Zzn
theorem rI:type_of% @Zzm:=@Zzm
theorem rH:type_of% @Zzg:=@Zzg
theorem rG:type_of% @Zzf:=@Zzf
theorem rF:type_of% @Zze:=@Zze
theorem rE:type_of% @Zzl:=@Zzl
theorem rD:type_of% @Zzk:=@Zzk
theorem rC:type_of% @Zzj:=@Zzj
theorem rB:type_of% @Zzi:=@Zzi
theorem rA:type_of% @Zzh:=@Zzh
theorem rK:type_of% @Zzq:=@Zzq
theorem rW:type_of% @Zzp:=@Zzp
theorem rV:type_of% @Zzu:=@Zzu
theorem rY:type_of% @Zxz:=@Zxz
theorem rJ:type_of% @Zz1:=@Zz1
theorem rX:type_of% @Zz0:=@Zz0
theorem rZ:type_of% @Zzz:=@Zzz
theorem rQ:type_of% @Zzy:=@Zzy
theorem qU:type_of% @Zzx:=@Zzx
theorem qT:type_of% @Zzw:=@Zzw
theorem qS:type_of% @Qdj:=@Qdj
theorem qR:type_of% @Bool.and_true:=@Bool.and_true
theorem qP:type_of% @Bool.true_and:=@Bool.true_and
theorem qO:type_of% @Bool.and_false:=@Bool.and_false
theorem qN:type_of% @Bool.false_and:=@Bool.false_and
theorem qM:type_of% @Qak:=@Qak
theorem qL:type_of% @Qaj:=@Qaj
theorem qI:type_of% @Qai:=@Qai
theorem qH:type_of% @Qah:=@Qah
theorem qG:type_of% @Qag:=@Qag
theorem qF:type_of% @Qaf:=@Qaf
theorem qE:type_of% @Qae:=@Qae
theorem qD:type_of% @Qad:=@Qad
theorem qC:type_of% @Qac:=@Qac
theorem qB:type_of% @Qab:=@Qab
theorem qA:type_of% @Qaa:=@Qaa
theorem qK:type_of% @Zz9:=@Zz9
theorem qW:type_of% @Zz8:=@Zz8
theorem qV:type_of% @Zz7:=@Zz7
theorem qY:type_of% @Zz6:=@Zz6
theorem qJ:type_of% @Bool.true_eq_false:=@Bool.true_eq_false
theorem qX:type_of% @Bool.false_eq_true:=@Bool.false_eq_true
theorem qZ:type_of% @true_and:=@true_and
theorem qQ:type_of% @and_true:=@and_true
theorem pU:type_of% @and_assoc:=@and_assoc
theorem pT:type_of% @List.length_map:=@List.length_map
theorem pS:type_of% @List.append_nil:=@List.append_nil
theorem pR:type_of% @List.getD_nil:=@List.getD_nil
theorem pL:type_of% @iM.eq_def:=@iM.eq_def
theorem pI:type_of% @Zz5:=@Zz5
theorem pH:type_of% @Zli.eq_def:=@Zli.eq_def
theorem pG:type_of% @lJ.eq_def:=@lJ.eq_def
theorem pF:type_of% @D5.eq_def:=@D5.eq_def
theorem pE:type_of% @Ph.eq_def:=@Ph.eq_def
theorem pD:type_of% @Fm.eq_def:=@Fm.eq_def
theorem pC:type_of% @Cs.eq_def:=@Cs.eq_def
theorem pA:type_of% @Hh.eq_def:=@Hh.eq_def
theorem pK:type_of% @Ctx.mapE.eq_def:=@Ctx.mapE.eq_def
theorem pW:type_of% @Zz4:=@Zz4
theorem pV:type_of% @Zz3:=@Zz3
theorem pY:type_of% @Zz2:=@Zz2
theorem pJ:type_of% @pur.eq_9:=@pur.eq_9
theorem pX:type_of% @Zmj:=@Zmj
theorem pZ:type_of% @Zhw:=@Zhw
theorem pQ:type_of% @Zm5:=@Zm5
theorem oU:type_of% @Ze9.eq_def:=@Ze9.eq_def
theorem oT:type_of% @Zk3.eq_def:=@Zk3.eq_def
theorem oS:type_of% @Zzv:=@Zzv
theorem oR:type_of% @Ya.eq_def:=@Ya.eq_def
theorem oP:type_of% @Oq.eq_def:=@Oq.eq_def
theorem oO:type_of% @Zxs.eq_1:=@Zxs.eq_1
theorem oN:type_of% @Zxs.eq_2:=@Zxs.eq_2
theorem oM:type_of% @Zwj.eq_1:=@Zwj.eq_1
theorem oL:type_of% @Zwj.eq_2:=@Zwj.eq_2
theorem oI:type_of% @Zd7.eq_def:=@Zd7.eq_def
theorem oH:type_of% @Ow.eq_def:=@Ow.eq_def
theorem oG:type_of% @Ih.eq_def:=@Ih.eq_def
theorem oF:type_of% @Ct.eq_def:=@Ct.eq_def
theorem oE:type_of% @Pk.eq_def:=@Pk.eq_def
theorem oD:type_of% @Nr.eq_def:=@Nr.eq_def
theorem oC:type_of% @Bp.eq_def:=@Bp.eq_def
theorem Znv:type_of% @Int.ofNat_eq_natCast:=@Int.ofNat_eq_natCast
theorem cM:(type_of% @List.length_cons.{0})∧(type_of% @List.length_nil.{0})∧(type_of% @List.cons_append.{0})∧(type_of% @List.nil_append.{0})∧(type_of% @and_assoc)∧(type_of% @true_and)∧(type_of% @and_true)∧(type_of% @List.map_cons.{0,0})∧(type_of% @List.map_nil.{0,0})∧(type_of% @aU)∧(type_of% @D3)∧(type_of% @aT)∧(type_of% @D2)∧(type_of% @Tk)∧(type_of% @Zqs)∧(type_of% @Zj3)∧(type_of% @Zp4)∧(type_of% @Zji)∧(type_of% @iF)∧(type_of% @bW)∧(type_of% @iD)∧(type_of% @bY)∧(type_of% @iH)∧(type_of% @iE)∧(type_of% @iG)∧(type_of% @bX)∧(type_of% @bJ)∧(type_of% @jP)∧(type_of% @cA)∧(type_of% @jM)∧(type_of% @cW)∧(type_of% @jR)∧(type_of% @jO)∧(type_of% @jS)∧(type_of% @encI_def)∧(type_of% @encB_def)∧(type_of% @encS_def)∧(type_of% @Zx4)∧(type_of% @Zx6)∧(type_of% @Zxu)∧(type_of% @Zho)∧(type_of% @Zdu)∧(type_of% @Zhm)∧(type_of% @Zhy)∧(type_of% @Zie)∧(type_of% @Zhz)∧(type_of% @Zif)∧(type_of% @Zhx)∧(type_of% @Zid)∧(type_of% @gU)∧(type_of% @Zqi)∧(type_of% @Rz)∧(type_of% @bV)∧(type_of% @cK)∧(type_of% @Zb6)∧(type_of% @jX)∧(type_of% @Zb5)∧(type_of% @jZ)∧(type_of% @Zb4)∧(type_of% @gO)∧(type_of% @Zb3)∧(type_of% @gN)∧(type_of% @Jw)∧(type_of% @J3)∧(type_of% @Zql)∧(type_of% @J2)∧(type_of% @Xa)∧(type_of% @Q9)∧(type_of% @Qx)∧(type_of% @aR)∧(type_of% @Qbz)∧(type_of% @Qb0)∧(type_of% @Qbx)∧(type_of% @Qby)∧(type_of% @Zx5)∧(type_of% @Qas)∧(type_of% @Zzc)∧(type_of% @Zx2)∧(type_of% @Qat)∧(type_of% @Qb9)∧(type_of% @List.length_map.{0,0})∧(type_of% @List.length_append.{0})∧(type_of% @List.length_replicate.{0})∧(type_of% @Int.toNat_natCast)∧(type_of% @Bool.not_true)∧(type_of% @Bool.not_false)∧(type_of% @Bool.not_not)∧(type_of% @decide_true)∧(type_of% @decide_false)∧(type_of% @Bool.and_true)∧(type_of% @Bool.true_and)∧(type_of% @Bool.and_false)∧(type_of% @Bool.false_and)∧(type_of% @Bool.or_true)∧(type_of% @Bool.true_or)∧(type_of% @Bool.or_false)∧(type_of% @Bool.false_or)∧(type_of% @List.length_singleton.{0})∧(type_of% @decide_eq_true_eq)∧(type_of% @decide_eq_false_iff_not)∧(type_of% @beq_iff_eq.{0})∧(type_of% @beq_eq_false_iff_ne.{0})∧(type_of% @bne_iff_ne.{0})∧(type_of% @bne_eq_false_iff_eq.{0})∧(type_of% @Bool.not_eq_true')∧(type_of% @Bool.not_eq_false')∧(type_of% @forall_const.{1})∧(type_of% @true_imp_iff)∧(type_of% @false_imp_iff)∧(type_of% @if_true.{1})∧(type_of% @if_false.{1})∧(type_of% @and_self)∧(type_of% @or_self)∧(type_of% @not_true)∧(type_of% @not_false_eq_true)∧(type_of% @List.append_nil.{0})∧(type_of% @D.bool.injEq)∧(type_of% @D.int.injEq)∧(type_of% @D.str.injEq)∧(type_of% @D.list.injEq)∧(type_of% @D.agg.injEq)∧(type_of% @bne_self_eq_false.{0})∧(type_of% @CV.d.injEq)∧(type_of% @CV.own.injEq)∧(type_of% @CV.tup.injEq)∧(type_of% @List.cons.injEq.{0})∧(type_of% @List.toList_toArray.{0})∧(type_of% @Option.some.injEq.{0})∧(type_of% @Prod.mk.injEq.{0,0})∧(type_of% @List.take_succ_cons.{0})∧(type_of% @List.take_zero.{0})∧(type_of% @List.drop_succ_cons.{0})∧(type_of% @List.drop_zero.{0})∧(type_of% @List.getD_nil.{0})∧(type_of% @map_snoc)∧(type_of% @Zg9)∧(type_of% @Zha)∧(type_of% @Zg8)∧(type_of% @Zqd)∧(type_of% @List.not_mem_nil.{0})∧(type_of% @false_implies)∧(type_of% @implies_true.{1})∧(type_of% @List.mem_cons.{0})∧(type_of% @or_false)∧(type_of% @forall_eq_or_imp.{1})∧(type_of% @forall_eq.{1})∧(type_of% @ne_eq.{1})∧(type_of% @cond_true.{1})∧(type_of% @cond_false.{1})∧(type_of% @Bool.false_eq_true):=⟨@List.length_cons.{0},@List.length_nil.{0},@List.cons_append.{0},@List.nil_append.{0},@and_assoc,@true_and,@and_true,@List.map_cons.{0,0},@List.map_nil.{0,0},@aU,@D3,@aT,@D2,@Tk,@Zqs,@Zj3,@Zp4,@Zji,@iF,@bW,@iD,@bY,@iH,@iE,@iG,@bX,@bJ,@jP,@cA,@jM,@cW,@jR,@jO,@jS,@encI_def,@encB_def,@encS_def,@Zx4,@Zx6,@Zxu,@Zho,@Zdu,@Zhm,@Zhy,@Zie,@Zhz,@Zif,@Zhx,@Zid,@gU,@Zqi,@Rz,@bV,@cK,@Zb6,@jX,@Zb5,@jZ,@Zb4,@gO,@Zb3,@gN,@Jw,@J3,@Zql,@J2,@Xa,@Q9,@Qx,@aR,@Qbz,@Qb0,@Qbx,@Qby,@Zx5,@Qas,@Zzc,@Zx2,@Qat,@Qb9,@List.length_map.{0,0},@List.length_append.{0},@List.length_replicate.{0},@Int.toNat_natCast,@Bool.not_true,@Bool.not_false,@Bool.not_not,@decide_true,@decide_false,@Bool.and_true,@Bool.true_and,@Bool.and_false,@Bool.false_and,@Bool.or_true,@Bool.true_or,@Bool.or_false,@Bool.false_or,@List.length_singleton.{0},@decide_eq_true_eq,@decide_eq_false_iff_not,@beq_iff_eq.{0},@beq_eq_false_iff_ne.{0},@bne_iff_ne.{0},@bne_eq_false_iff_eq.{0},@Bool.not_eq_true',@Bool.not_eq_false',@forall_const.{1},@true_imp_iff,@false_imp_iff,@if_true.{1},@if_false.{1},@and_self,@or_self,@not_true,@not_false_eq_true,@List.append_nil.{0},@D.bool.injEq,@D.int.injEq,@D.str.injEq,@D.list.injEq,@D.agg.injEq,@bne_self_eq_false.{0},@CV.d.injEq,@CV.own.injEq,@CV.tup.injEq,@List.cons.injEq.{0},@List.toList_toArray.{0},@Option.some.injEq.{0},@Prod.mk.injEq.{0,0},@List.take_succ_cons.{0},@List.take_zero.{0},@List.drop_succ_cons.{0},@List.drop_zero.{0},@List.getD_nil.{0},@map_snoc,@Zg9,@Zha,@Zg8,@Zqd,@List.not_mem_nil.{0},@false_implies,@implies_true.{1},@List.mem_cons.{0},@or_false,@forall_eq_or_imp.{1},@forall_eq.{1},@ne_eq.{1},@cond_true.{1},@cond_false.{1},@Bool.false_eq_true⟩
def P7 (n:Nat):Nat:=n
theorem Kt:P7 0=0:=rfl
theorem Kc:P7 0=0:=rfl
theorem Kd:P7 0=0:=rfl
theorem Kb:P7 0=0:=rfl
theorem Ku:P7 0=0:=rfl
theorem Kw:P7 0=0:=rfl
theorem Ko:P7 0=0:=rfl
theorem W4:P7 0=0:=rfl
theorem Gd:P7 0=0:=rfl
theorem M4:P7 0=0:=rfl
theorem Ln:P7 0=0:=rfl
theorem Ek:P7 0=0:=rfl
theorem cL:P7 0=0:=rfl
theorem fW:P7 0=0:=rfl
theorem oB:P7 0=0:=rfl
theorem Zcc:P7 0=0:=rfl
theorem Zcb:P7 0=0:=rfl
theorem Qd:P7 0=0:=rfl
theorem Qe:P7 0=0:=rfl
theorem Z6:P7 0=0:=rfl
theorem Qa:P7 0=0:=rfl
theorem Qc:P7 0=0:=rfl
theorem Qh:P7 0=0:=rfl
theorem Qp:P7 0=0:=rfl
theorem Qz:P7 0=0:=rfl
theorem Qv:P7 0=0:=rfl
theorem Q4:P7 0=0:=rfl
theorem Z0:P7 0=0:=rfl
theorem Z3:P7 0=0:=rfl
theorem Zz:P7 0=0:=rfl
theorem Z7:P7 0=0:=rfl
theorem Z9:P7 0=0:=rfl
theorem Qg:P7 0=0:=rfl
theorem Zv:P7 0=0:=rfl
theorem Zw:P7 0=0:=rfl
theorem Qn:P7 0=0:=rfl
theorem Q6:P7 0=0:=rfl
theorem Q5:P7 0=0:=rfl
theorem Ja:P7 0=0:=rfl
theorem Q7:P7 0=0:=rfl
theorem Q0:P7 0=0:=rfl
theorem Jo:P7 0=0:=rfl
theorem Jj:P7 0=0:=rfl
theorem Wx:P7 0=0:=rfl
theorem X9:P7 0=0:=rfl
theorem Wq:P7 0=0:=rfl
theorem Wp:P7 0=0:=rfl
theorem Wo:P7 0=0:=rfl
theorem Ur:P7 0=0:=rfl
theorem Uq:P7 0=0:=rfl
theorem Up:P7 0=0:=rfl
theorem Kj:P7 0=0:=rfl
theorem Ki:P7 0=0:=rfl
theorem Kh:P7 0=0:=rfl
theorem Um:P7 0=0:=rfl
theorem Ix:P7 0=0:=rfl
theorem Zwc:P7 0=0:=rfl
theorem Zxr:P7 0=0:=rfl
theorem Zya:P7 0=0:=rfl
theorem Zx9:P7 0=0:=rfl
theorem Z1 {p:Prop} (h:p:=by first|with_reducible assumption|omega|(rw [Xy];omega)):p:=h
theorem Qk {p:Prop} (h:p:=by (try simp only [Gv,Np,Kv,P8,upd,B4,Nl,Bt,Nat.reduceDiv,Nat.reduceMod,Nat.reduceMul,Nat.reduceAdd,Nat.reduceEqDiff,Jy,J6,if_true,if_false,reduceIte]);(first|refine Wk.of_fl ?_|skip);simp only [Wk,Zke,Zit,kK,Zf9,AV.kept,keptAll,Zis,lk,Ul,and_true,true_and,and_self,Nat.reduceEqDiff,Nat.reduceLeDiff,if_true,if_false,reduceIte,reduceCtorEq,Option.isSome,false_implies];try simp [Wk,Zke,kK,Zf9,AV.kept,keptAll,Zis,lk,Ul,List.map_append,Zh,List.map_replicate,Nat.pow_zero,Nat.div_one,Um,Ix,Zwc,Zxr,Zya,Zx9]<;>rfl):p:=h
theorem Qcr {p q:Prop} (hq:q) (h:q→p:=by
 intro Kq
 (try simp only [Gv,Np,Kv,P8,upd,B4,Nl,Bt,Nat.reduceDiv,Nat.reduceMod,Nat.reduceMul,Nat.reduceAdd,Nat.reduceEqDiff,Jy,J6,if_true,if_false,reduceIte]);(first|refine Wk.of_fl ?_|skip);simp only [Wk,Zke,Zit,kK,Zf9,AV.kept,keptAll,Zis,lk,Ul,and_true,true_and,and_self,Nat.reduceEqDiff,Nat.reduceLeDiff,if_true,if_false,reduceIte,reduceCtorEq,Option.isSome,false_implies];try simp [Wk,Zke,kK,Zf9,AV.kept,keptAll,Zis,lk,Ul,List.map_append,Zh,List.map_replicate,Nat.pow_zero,Nat.div_one,Um,Ix,Zwc,Zxr,Zya,Zx9]
 exact Kq):p:=h hq
theorem Qcs {p:Prop} (h:p:=by (simp only [Zy0,iW,lG,B4,Nl,Bt,pur,lk,upd,List.getD_cons_zero,List.getD_cons_succ,Jy,J6,Nat.reduceDiv,Nat.reduceMod,Nat.reduceMul,Nat.reduceAdd,Nat.reduceEqDiff,if_true,if_false,reduceIte]);refine Zb (by simp) ?_;(try simp only [Gv,Np,Kv,P8,upd,B4,Nl,Bt,Nat.reduceDiv,Nat.reduceMod,Nat.reduceMul,Nat.reduceAdd,Nat.reduceEqDiff,Jy,J6,if_true,if_false,reduceIte]);(first|refine Wk.of_fl ?_|skip);simp only [Wk,Zke,Zit,kK,Zf9,AV.kept,keptAll,Zis,lk,Ul,and_true,true_and,and_self,Nat.reduceEqDiff,Nat.reduceLeDiff,if_true,if_false,reduceIte,reduceCtorEq,Option.isSome,false_implies];try simp [Wk,Zke,kK,Zf9,AV.kept,keptAll,Zis,lk,Ul,List.map_append,Zh,List.map_replicate,Nat.pow_zero,Nat.div_one,Um,Ix,Zwc,Zxr,Zya,Zx9]<;>rfl):p:=h
theorem Qdp {p:Prop} (h:p:=by (try simp only [Gv,Np,Kv,P8,upd,B4,Nl,Bt,Nat.reduceDiv,Nat.reduceMod,Nat.reduceMul,Nat.reduceAdd,Nat.reduceEqDiff,Jy,J6,if_true,if_false,reduceIte]);simp only [Qbm,pur,lk,upd,D.setCell,Zyt,List.set_set,Jy,J6,Nat.reduceDiv,Nat.reduceMod,Nat.reduceMul,Nat.reduceAdd,Nat.reduceEqDiff,if_true,if_false,reduceIte,Um,Ix,Zwc,Zxr,Zya,Zx9];refine Zb (by first|trivial|(simp;done)|omega) (Zb (by first|trivial|(simp;done)) (Zb (by first|trivial|omega|(simp;done)) (Zb (by first|trivial|omega|(simp;omega)) (Zb (by first|trivial|omega) ?_))));(try simp only [Gv,Np,Kv,P8,upd,B4,Nl,Bt,Nat.reduceDiv,Nat.reduceMod,Nat.reduceMul,Nat.reduceAdd,Nat.reduceEqDiff,Jy,J6,if_true,if_false,reduceIte]);(first|refine Wk.of_fl ?_|skip);simp only [Wk,Zke,Zit,kK,Zf9,AV.kept,keptAll,Zis,lk,Ul,and_true,true_and,and_self,Nat.reduceEqDiff,Nat.reduceLeDiff,if_true,if_false,reduceIte,reduceCtorEq,Option.isSome,false_implies];try simp [Wk,Zke,kK,Zf9,AV.kept,keptAll,Zis,lk,Ul,List.map_append,Zh,List.map_replicate,Nat.pow_zero,Nat.div_one,Um,Ix,Zwc,Zxr,Zya,Zx9]):p:=h
theorem Qct {p:Prop} (h:p:=by (try simp only [Gv,Np,Kv,P8,upd,B4,Nl,Bt,Nat.reduceDiv,Nat.reduceMod,Nat.reduceMul,Nat.reduceAdd,Nat.reduceEqDiff,Jy,J6,if_true,if_false,reduceIte]);simp only [Qbn,ren,lk,upd,Nat.reduceAdd,Nat.reduceEqDiff,if_true,if_false,reduceIte];refine Zb (by first|trivial|rfl) (Zb ?_ (Zb (by first|trivial|rfl|simp) (Zb (by first|trivial|simp [Zhn]) (Zb (by first|decide|omega) (Zb (by first|decide|omega) (Zb (by (first|refine eC ?_|skip);simp [keptAll,Zjj,AV.kept,lk]) (by simp [Pv,keptAll,AV.kept,lk])))))));(try simp only [Gv,Np,Kv,P8,upd,B4,Nl,Bt,Nat.reduceDiv,Nat.reduceMod,Nat.reduceMul,Nat.reduceAdd,Nat.reduceEqDiff,Jy,J6,if_true,if_false,reduceIte]);(first|refine Wk.of_fl ?_|skip);simp only [Wk,Zke,Zit,kK,Zf9,AV.kept,keptAll,Zis,lk,Ul,and_true,true_and,and_self,Nat.reduceEqDiff,Nat.reduceLeDiff,if_true,if_false,reduceIte,reduceCtorEq,Option.isSome,false_implies];try simp [Wk,Zke,kK,Zf9,AV.kept,keptAll,Zis,lk,Ul,List.map_append,Zh,List.map_replicate,Nat.pow_zero,Nat.div_one,Um,Ix,Zwc,Zxr,Zya,Zx9]):p:=h
theorem Qcb {p:Prop} (h:p:=by (try simp only [Gv,Np,Kv,P8,upd,B4,Nl,Bt,Nat.reduceDiv,Nat.reduceMod,Nat.reduceMul,Nat.reduceAdd,Nat.reduceEqDiff,Jy,J6,if_true,if_false,reduceIte]);simp only [Qbl,ren,iW,lG,B4,Nl,Bt,lk,upd,List.getD_cons_zero,List.getD_cons_succ,Jy,J6,Nat.reduceDiv,Nat.reduceMod,Nat.reduceMul,Nat.reduceAdd,Nat.reduceEqDiff,if_true,if_false,reduceIte];refine Zb (by first|trivial|rfl) (Zb ?_ (Zb (by first|trivial|rfl|simp) (Zb (by first|trivial|simp [Zhn]) (Zb (by first|decide|omega) (Zb (by first|decide|omega) (Zb (by (first|refine eC ?_|skip);simp [keptAll,Zjj,AV.kept,lk]) (by simp [Pv,keptAll,AV.kept,lk])))))));(try simp only [Gv,Np,Kv,P8,upd,B4,Nl,Bt,Nat.reduceDiv,Nat.reduceMod,Nat.reduceMul,Nat.reduceAdd,Nat.reduceEqDiff,Jy,J6,if_true,if_false,reduceIte]);(first|refine Wk.of_fl ?_|skip);simp only [Wk,Zke,Zit,kK,Zf9,AV.kept,keptAll,Zis,lk,Ul,and_true,true_and,and_self,Nat.reduceEqDiff,Nat.reduceLeDiff,if_true,if_false,reduceIte,reduceCtorEq,Option.isSome,false_implies];try simp [Wk,Zke,kK,Zf9,AV.kept,keptAll,Zis,lk,Ul,List.map_append,Zh,List.map_replicate,Nat.pow_zero,Nat.div_one,Um,Ix,Zwc,Zxr,Zya,Zx9]):p:=h
theorem Qo {ops:List Oper} {acc:List (Nat×List Nat×Bool)} (h:Zyh ops acc=true:=by kernel_rfl):Zyh ops acc=true:=h
def Gs (P:Program) (l:List (Nat×Con)) (m:List (Nat×BCon)) (E:Prop):Prop:=(∀ p∈l,Qq P p)∧(∀ p∈m,Nu P p)∧E
theorem X1 {P:Program}:Gs P [] [] True:=⟨by simp,by simp,trivial⟩
theorem Jh {P:Program} {n:Nat} {c d:Con} {l:List (Nat×Con)} {m:List (Nat×BCon)} {E:Prop} (h:Qq P (n,c)) (e:c=d) (r:Gs P l m E):Gs P ((n,c)::l) m (c=d∧E):=by
 refine ⟨fun p hp=>?_,r.2.1,e,r.2.2⟩;rcases (@List.mem_cons _ _ _ _).1 hp with h1|h1
 ·rw [h1];exact h
 ·exact r.1 p h1
theorem Zpj {P:Program} {n:Nat} {c d:BCon} {l:List (Nat×Con)} {m:List (Nat×BCon)} {E:Prop} (h:Nu P (n,c)) (e:c=d) (r:Gs P l m E):Gs P l ((n,c)::m) (c=d∧E):=by
 refine ⟨r.1,fun p hp=>?_,e,r.2.2⟩;rcases (@List.mem_cons _ _ _ _).1 hp with h1|h1
 ·rw [h1];exact h
 ·exact r.2.1 p h1
theorem X2 {P:Program} {τ:Nat→TI} (hT:W6 P τ) (hm:P.follows .mixedOrders=true) (cu:List Nat) (wr:Bool) {l:List (Nat×Con)} {m:List (Nat×BCon)} {E:Prop} (h:Gs P l m E):∃ C:Ctx,C.τ=τ∧C.Γ=Zw3 l∧C.dp=60∧C.Δ=Zw4 m∧C.cuts=cu∧C.wr=wr∧Bs P C∧E :=
 ⟨⟨τ,Zw3 l,60,Zw4 m,cu,wr⟩,rfl,rfl,rfl,rfl,rfl,rfl,Zvh hT hm h.1 h.2.1,h.2.2⟩
theorem Yv {C:Ctx} {c:Code} {Q:AExit→AS→Prop} {t:List AV} {o:Z5} (n:Nat) (h:Shut (Mi C c Q ⟨fl (Ztg n t).1 (Ztg n t).2,o⟩)) (hn:decide (16*n≤t.length)=true:=by kernel_rfl):Mi C c Q ⟨t,o⟩:=Zxj n (of_decide_eq_true hn) h
theorem Zyz {F:Func} (h:F.body.isNone=false):∃ c,F.body=some c:=by
 cases hb:F.body with
 | none=>rw [hb] at h;cases h
 | some c=>exact ⟨c,rfl⟩
theorem Wh {P : Program} {C : Ctx} {f : FuncId} {fn : Func} {con : Con} (K : Bs P C) (hf : P.funcs[f]? = some fn) (rs : List ResultVar) (hrs : fn.results.toList = rs) (nt : Nat) (hnt : fn.ntmps = nt)
    (h : ∀ c, fn.body = some c → ∀ cvs, con.pre cvs → Mi C c (Zxn C rs con.outs (con.fn cvs)) (cC nt cvs)) (h1 : (fn.name == "runtime.NumGoroutine") = false := by kernel_rfl) (h2 : fn.body.isNone = false := by rfl) : Qq P (f, con) := by
  obtain ⟨c, hc⟩ := Zyz h2
  exact ⟨Jz hf h1 h2, Zu3 K hf hc rs hrs nt hnt (h c hc)⟩
theorem Zfu {P : Program} {C : Ctx} {f : FuncId} {fn : Func} {bc : BCon} (K : Bs P C) (hf : P.funcs[f]? = some fn) (rs : List ResultVar) (hrs : fn.results.toList = rs) (nt : Nat) (hnt : fn.ntmps = nt)
    (h : ∀ c, fn.body = some c → ∀ x, bc.ok x → Xz (bc.args x) (bc.objs x) ∧ Zx (bc.objs x) ∧ Xz [] (bc.post x) ∧ (bc.objs x).length ≤ (bc.post x).length ∧
      Mi C c (P3 C rs (bc.objs x).length (bc.res x) (bc.post x)) ⟨bc.args x ++ U8 (nt - (bc.args x).length), Z8 (bc.objs x)⟩) (hout : ∀ x, bc.out x = none := by intro _; rfl) (h1 : (fn.name == "runtime.NumGoroutine") = false := by kernel_rfl) (h2 : fn.body.isNone = false := by rfl) : Nu P (f, bc) := by
  obtain ⟨c, hc⟩ := Zyz h2
  exact ⟨Jz hf h1 h2, Zs3 K hf hc rs hrs nt hnt (h c hc) hout⟩
theorem Qcf {P : Program} {C : Ctx} {f : FuncId} {fn : Func} {bc : BCon} {oj : bc.X → Nat} (K : Bs P C) (hf : P.funcs[f]? = some fn) (rs : List ResultVar) (hrs : fn.results.toList = rs) (nt : Nat) (hnt : fn.ntmps = nt)
    (h : ∀ c, fn.body = some c → ∀ x, bc.ok x → Xz (bc.args x) (bc.objs x) ∧ Zx (bc.objs x) ∧ Xz [] (bc.post x) ∧ (bc.objs x).length ≤ (bc.post x).length ∧
      Mi C c (Ze9 C rs (bc.objs x).length (oj x) (bc.post x)) ⟨bc.args x ++ U8 (nt - (bc.args x).length), Z8 (bc.objs x)⟩) (hout : ∀ x, bc.out x = some (oj x)) (h1 : (fn.name == "runtime.NumGoroutine") = false := by kernel_rfl) (h2 : fn.body.isNone = false := by rfl) : Nu P (f, bc) := by
  obtain ⟨c, hc⟩ := Zyz h2
  exact ⟨Jz hf h1 h2, Zo9 K hf hc rs hrs nt hnt (h c hc) hout⟩
end Go.Am
namespace Go.Am.Ty
open Go.Proofs
open Enc (enc dec)
def tt:List (Nat×TI):=[(1,⟨.func,1,8,.d .nilf,.nilf,[]⟩),(2,⟨.int .i64,1,8,.d (.int .i64 0),.int .i64 0,[]⟩),(3,⟨.int .i64,1,8,.d (.int .i64 0),.int .i64 0,[]⟩),(4,⟨.bool,1,1,.d (.bool false),.bool false,[]⟩),(5,⟨.int .u8,1,1,.d (.int .u8 0),.int .u8 0,[]⟩),(9,⟨.str,1,16,.d (.str []),.str [],[]⟩),(21,⟨.int .i32,1,4,.d (.int .i32 0),.int .i32 0,[]⟩),(22,⟨.slice 9,1,24,.nils 1,.list 1 [],[]⟩),(24,⟨.struct [(0,1),(1,1)],2,48,.agg [.nils 1,.nils 1],.agg [.list 1 [],.list 1 []],[]⟩),(25,⟨.array 2 3,2,16,.d (.agg [.int .i64 0,.int .i64 0]),.agg [.int .i64 0,.int .i64 0],[]⟩),(26,⟨.slice 43,1,24,.nils 4,.list 4 [],[]⟩),(30,⟨.int .i64,1,8,.d (.int .i64 0),.int .i64 0,[]⟩),(37,⟨.slice 51,1,24,.nils 2,.list 2 [],[]⟩),(40,⟨.slice 49,1,24,.nils 3,.list 3 [],[]⟩),(41,⟨.slice 166,1,24,.nils 3,.list 3 [],[]⟩),(43,⟨.struct [(0,1),(1,1),(2,1),(3,1)],4,88,.agg [.d (.str []),.nils 1,.nils 3,.nils 3],.agg [.str [],.list 1 [],.list 3 [],.list 3 []],[]⟩),(45,⟨.slice 82,1,24,.nils 3,.list 3 [],[]⟩),(47,⟨.slice 75,1,24,.nils 8,.list 8 [],[]⟩),(49,⟨.struct [(0,1),(1,1),(2,1)],3,64,.agg [.d (.str []),.nils 3,.nils 8],.agg [.str [],.list 3 [],.list 8 []],[]⟩),(51,⟨.struct [(0,1),(1,1)],2,40,.agg [.d (.str []),.nils 3],.agg [.str [],.list 3 []],[]⟩),(59,⟨.slice 72,1,24,.nils 2,.list 2 [],[]⟩),(65,⟨.slice 3,1,24,.nils 1,.list 1 [],[]⟩),(69,⟨.slice 45,1,24,.nils 1,.list 1 [],[]⟩),(70,⟨.slice 4,1,24,.nils 1,.list 1 [],[]⟩),(72,⟨.struct [(0,1),(1,1)],2,32,.agg [.d (.int .i64 0),.nils 3],.agg [.int .i64 0,.list 3 []],[]⟩),(75,⟨.struct [(0,1),(1,1),(2,1),(3,1),(4,1),(5,1),(6,1),(7,1)],8,120,.agg [.d (.int .i64 0),.d (.str []),.d (.str []),.d (.str []),.d (.int .i64 0),.d (.int .i64 0),.nils 3,.nils 3],.agg [.int .i64 0,.str [],.str [],.str [],.int .i64 0,.int .i64 0,.list 3 [],.list 3 []],[]⟩),(80,⟨.func,1,8,.d .nilf,.nilf,[]⟩),(82,⟨.struct [(0,1),(1,1),(2,1)],3,32,.d (.agg [.int .i64 0,.str [],.int .i64 0]),.agg [.int .i64 0,.str [],.int .i64 0],[.int .i64,.str,.int .i64]⟩),(86,⟨.func,1,8,.d .nilf,.nilf,[]⟩),(87,⟨.func,1,8,.d .nilf,.nilf,[]⟩),(88,⟨.map 9 43,1,8,.d .nilm,.nilm,[]⟩),(91,⟨.func,1,8,.d .nilf,.nilf,[]⟩),(92,⟨.func,1,8,.d .nilf,.nilf,[]⟩),(105,⟨.map 3 4,1,8,.d .nilm,.nilm,[]⟩),(109,⟨.func,1,8,.d .nilf,.nilf,[]⟩),(115,⟨.func,1,8,.d .nilf,.nilf,[]⟩),(124,⟨.map 9 4,1,8,.d .nilm,.nilm,[]⟩),(125,⟨.func,1,8,.d .nilf,.nilf,[]⟩),(130,⟨.func,1,8,.d .nilf,.nilf,[]⟩),(133,⟨.slice 141,1,24,.nils 4,.list 4 [],[]⟩),(137,⟨.struct [(0,1),(1,1),(2,1)],3,40,.agg [.d (.int .i64 0),.nils 3,.d (.int .i64 0)],.agg [.int .i64 0,.list 3 [],.int .i64 0],[]⟩),(141,⟨.struct [(0,1),(1,1),(2,1),(3,1)],4,40,.d (.agg [.int .i64 0,.str [],.int .i64 0,.int .i64 0]),.agg [.int .i64 0,.str [],.int .i64 0,.int .i64 0],[.int .i64,.str,.int .i64,.int .i64]⟩),(143,⟨.map 9 3,1,8,.d .nilm,.nilm,[]⟩),(152,⟨.map 3 45,1,8,.d .nilm,.nilm,[]⟩),(155,⟨.func,1,8,.d .nilf,.nilf,[]⟩),(157,⟨.func,1,8,.d .nilf,.nilf,[]⟩),(158,⟨.func,1,8,.d .nilf,.nilf,[]⟩),(160,⟨.struct [(0,1),(1,1),(2,1)],3,56,.agg [.nils 3,.nils 3,.d .nilf],.agg [.list 3 [],.list 3 [],.nilf],[]⟩),(166,⟨.struct [(0,1),(1,1),(2,1)],3,24,.d (.agg [.int .i64 0,.int .i64 0,.bool false]),.agg [.int .i64 0,.int .i64 0,.bool false],[.int .i64,.int .i64,.bool]⟩),(168,⟨.array 15 3,15,120,.d (.agg [.int .i64 0,.int .i64 0,.int .i64 0,.int .i64 0,.int .i64 0,.int .i64 0,.int .i64 0,.int .i64 0,.int .i64 0,.int .i64 0,.int .i64 0,.int .i64 0,.int .i64 0,.int .i64 0,.int .i64 0]),.agg [.int .i64 0,.int .i64 0,.int .i64 0,.int .i64 0,.int .i64 0,.int .i64 0,.int .i64 0,.int .i64 0,.int .i64 0,.int .i64 0,.int .i64 0,.int .i64 0,.int .i64 0,.int .i64 0,.int .i64 0],[]⟩),(185,⟨.func,1,8,.d .nilf,.nilf,[]⟩),(186,⟨.func,1,8,.d .nilf,.nilf,[]⟩),(196,⟨.int .u64,1,8,.d (.int .u64 0),.int .u64 0,[]⟩),(198,⟨.func,1,8,.d .nilf,.nilf,[]⟩),(213,⟨.int .i64,1,8,.d (.int .i64 0),.int .i64 0,[]⟩),(220,⟨.int .u32,1,4,.d (.int .u32 0),.int .u32 0,[]⟩),(222,⟨.int .u64,1,8,.d (.int .u64 0),.int .u64 0,[]⟩),(234,⟨.slice 5,1,24,.nils 1,.list 1 [],[]⟩),(236,⟨.func,1,8,.d .nilf,.nilf,[]⟩),(239,⟨.int .u64,1,8,.d (.int .u64 0),.int .u64 0,[]⟩),(243,⟨.ptr 3,1,8,.d .nilp,.nilp,[]⟩),(256,⟨.ptr 239,1,8,.d .nilp,.nilp,[]⟩),(261,⟨.struct [(0,1),(1,1),(2,1),(3,1)],4,48,.agg [.d (.int .i64 0),.d (.int .i64 0),.nils 3,.d (.int .i64 0)],.agg [.int .i64 0,.int .i64 0,.list 3 [],.int .i64 0],[]⟩),(264,⟨.slice 47,1,24,.nils 1,.list 1 [],[]⟩)]
def M5:Nat→TI:=Zx1 tt
theorem Tc:M5 1=⟨.func,1,8,.d .nilf,.nilf,[]⟩:=rfl
theorem Tb:M5 2=⟨.int .i64,1,8,.d (.int .i64 0),.int .i64 0,[]⟩:=rfl
theorem Ta:M5 3=⟨.int .i64,1,8,.d (.int .i64 0),.int .i64 0,[]⟩:=rfl
theorem S9:M5 4=⟨.bool,1,1,.d (.bool false),.bool false,[]⟩:=rfl
theorem S8:M5 5=⟨.int .u8,1,1,.d (.int .u8 0),.int .u8 0,[]⟩:=rfl
theorem S7:M5 9=⟨.str,1,16,.d (.str []),.str [],[]⟩:=rfl
theorem Nk:M5 21=⟨.int .i32,1,4,.d (.int .i32 0),.int .i32 0,[]⟩:=rfl
theorem Nj:M5 22=⟨.slice 9,1,24,.nils 1,.list 1 [],[]⟩:=rfl
theorem Ni:M5 24=⟨.struct [(0,1),(1,1)],2,48,.agg [.nils 1,.nils 1],.agg [.list 1 [],.list 1 []],[]⟩:=rfl
theorem Nh:M5 25=⟨.array 2 3,2,16,.d (.agg [.int .i64 0,.int .i64 0]),.agg [.int .i64 0,.int .i64 0],[]⟩:=rfl
theorem Ng:M5 26=⟨.slice 43,1,24,.nils 4,.list 4 [],[]⟩:=rfl
theorem Nf:M5 30=⟨.int .i64,1,8,.d (.int .i64 0),.int .i64 0,[]⟩:=rfl
theorem Nd:M5 37=⟨.slice 51,1,24,.nils 2,.list 2 [],[]⟩:=rfl
theorem Nc:M5 40=⟨.slice 49,1,24,.nils 3,.list 3 [],[]⟩:=rfl
theorem Nb:M5 41=⟨.slice 166,1,24,.nils 3,.list 3 [],[]⟩:=rfl
theorem Na:M5 43=⟨.struct [(0,1),(1,1),(2,1),(3,1)],4,88,.agg [.d (.str []),.nils 1,.nils 3,.nils 3],.agg [.str [],.list 1 [],.list 3 [],.list 3 []],[]⟩:=rfl
theorem H9:M5 45=⟨.slice 82,1,24,.nils 3,.list 3 [],[]⟩:=rfl
theorem H8:M5 47=⟨.slice 75,1,24,.nils 8,.list 8 [],[]⟩:=rfl
theorem H7:M5 49=⟨.struct [(0,1),(1,1),(2,1)],3,64,.agg [.d (.str []),.nils 3,.nils 8],.agg [.str [],.list 3 [],.list 8 []],[]⟩:=rfl
theorem H6:M5 51=⟨.struct [(0,1),(1,1)],2,40,.agg [.d (.str []),.nils 3],.agg [.str [],.list 3 []],[]⟩:=rfl
theorem H5:M5 59=⟨.slice 72,1,24,.nils 2,.list 2 [],[]⟩:=rfl
theorem H4:M5 65=⟨.slice 3,1,24,.nils 1,.list 1 [],[]⟩:=rfl
theorem H3:M5 69=⟨.slice 45,1,24,.nils 1,.list 1 [],[]⟩:=rfl
theorem H2:M5 70=⟨.slice 4,1,24,.nils 1,.list 1 [],[]⟩:=rfl
theorem H0:M5 72=⟨.struct [(0,1),(1,1)],2,32,.agg [.d (.int .i64 0),.nils 3],.agg [.int .i64 0,.list 3 []],[]⟩:=rfl
theorem Hz:M5 75=⟨.struct [(0,1),(1,1),(2,1),(3,1),(4,1),(5,1),(6,1),(7,1)],8,120,.agg [.d (.int .i64 0),.d (.str []),.d (.str []),.d (.str []),.d (.int .i64 0),.d (.int .i64 0),.nils 3,.nils 3],.agg [.int .i64 0,.str [],.str [],.str [],.int .i64 0,.int .i64 0,.list 3 [],.list 3 []],[]⟩:=rfl
theorem Hy:M5 80=⟨.func,1,8,.d .nilf,.nilf,[]⟩:=rfl
theorem Hx:M5 82=⟨.struct [(0,1),(1,1),(2,1)],3,32,.d (.agg [.int .i64 0,.str [],.int .i64 0]),.agg [.int .i64 0,.str [],.int .i64 0],[.int .i64,.str,.int .i64]⟩:=rfl
theorem Hw:M5 86=⟨.func,1,8,.d .nilf,.nilf,[]⟩:=rfl
theorem Hv:M5 87=⟨.func,1,8,.d .nilf,.nilf,[]⟩:=rfl
theorem Hu:M5 88=⟨.map 9 43,1,8,.d .nilm,.nilm,[]⟩:=rfl
theorem Ht:M5 91=⟨.func,1,8,.d .nilf,.nilf,[]⟩:=rfl
theorem Hs:M5 92=⟨.func,1,8,.d .nilf,.nilf,[]⟩:=rfl
theorem Uc:M5 105=⟨.map 3 4,1,8,.d .nilm,.nilm,[]⟩:=rfl
theorem Ub:M5 109=⟨.func,1,8,.d .nilf,.nilf,[]⟩:=rfl
theorem Ua:M5 115=⟨.func,1,8,.d .nilf,.nilf,[]⟩:=rfl
theorem V9:M5 124=⟨.map 9 4,1,8,.d .nilm,.nilm,[]⟩:=rfl
theorem V8:M5 125=⟨.func,1,8,.d .nilf,.nilf,[]⟩:=rfl
theorem V7:M5 130=⟨.func,1,8,.d .nilf,.nilf,[]⟩:=rfl
theorem V6:M5 133=⟨.slice 141,1,24,.nils 4,.list 4 [],[]⟩:=rfl
theorem V5:M5 137=⟨.struct [(0,1),(1,1),(2,1)],3,40,.agg [.d (.int .i64 0),.nils 3,.d (.int .i64 0)],.agg [.int .i64 0,.list 3 [],.int .i64 0],[]⟩:=rfl
theorem V4:M5 141=⟨.struct [(0,1),(1,1),(2,1),(3,1)],4,40,.d (.agg [.int .i64 0,.str [],.int .i64 0,.int .i64 0]),.agg [.int .i64 0,.str [],.int .i64 0,.int .i64 0],[.int .i64,.str,.int .i64,.int .i64]⟩:=rfl
theorem V3:M5 143=⟨.map 9 3,1,8,.d .nilm,.nilm,[]⟩:=rfl
theorem V2:M5 152=⟨.map 3 45,1,8,.d .nilm,.nilm,[]⟩:=rfl
theorem V0:M5 155=⟨.func,1,8,.d .nilf,.nilf,[]⟩:=rfl
theorem Vz:M5 157=⟨.func,1,8,.d .nilf,.nilf,[]⟩:=rfl
theorem Vy:M5 158=⟨.func,1,8,.d .nilf,.nilf,[]⟩:=rfl
theorem Vx:M5 160=⟨.struct [(0,1),(1,1),(2,1)],3,56,.agg [.nils 3,.nils 3,.d .nilf],.agg [.list 3 [],.list 3 [],.nilf],[]⟩:=rfl
theorem Vw:M5 166=⟨.struct [(0,1),(1,1),(2,1)],3,24,.d (.agg [.int .i64 0,.int .i64 0,.bool false]),.agg [.int .i64 0,.int .i64 0,.bool false],[.int .i64,.int .i64,.bool]⟩:=rfl
theorem Vv:M5 168=⟨.array 15 3,15,120,.d (.agg [.int .i64 0,.int .i64 0,.int .i64 0,.int .i64 0,.int .i64 0,.int .i64 0,.int .i64 0,.int .i64 0,.int .i64 0,.int .i64 0,.int .i64 0,.int .i64 0,.int .i64 0,.int .i64 0,.int .i64 0]),.agg [.int .i64 0,.int .i64 0,.int .i64 0,.int .i64 0,.int .i64 0,.int .i64 0,.int .i64 0,.int .i64 0,.int .i64 0,.int .i64 0,.int .i64 0,.int .i64 0,.int .i64 0,.int .i64 0,.int .i64 0],[]⟩:=rfl
theorem Vu:M5 185=⟨.func,1,8,.d .nilf,.nilf,[]⟩:=rfl
theorem Vt:M5 186=⟨.func,1,8,.d .nilf,.nilf,[]⟩:=rfl
theorem Vs:M5 196=⟨.int .u64,1,8,.d (.int .u64 0),.int .u64 0,[]⟩:=rfl
theorem Vr:M5 198=⟨.func,1,8,.d .nilf,.nilf,[]⟩:=rfl
theorem Vq:M5 213=⟨.int .i64,1,8,.d (.int .i64 0),.int .i64 0,[]⟩:=rfl
theorem Vp:M5 220=⟨.int .u32,1,4,.d (.int .u32 0),.int .u32 0,[]⟩:=rfl
theorem Vo:M5 222=⟨.int .u64,1,8,.d (.int .u64 0),.int .u64 0,[]⟩:=rfl
theorem Vn:M5 234=⟨.slice 5,1,24,.nils 1,.list 1 [],[]⟩:=rfl
theorem Vm:M5 236=⟨.func,1,8,.d .nilf,.nilf,[]⟩:=rfl
theorem Vl:M5 239=⟨.int .u64,1,8,.d (.int .u64 0),.int .u64 0,[]⟩:=rfl
theorem Vk:M5 243=⟨.ptr 3,1,8,.d .nilp,.nilp,[]⟩:=rfl
theorem Vj:M5 256=⟨.ptr 239,1,8,.d .nilp,.nilp,[]⟩:=rfl
theorem Vi:M5 261=⟨.struct [(0,1),(1,1),(2,1),(3,1)],4,48,.agg [.d (.int .i64 0),.d (.int .i64 0),.nils 3,.d (.int .i64 0)],.agg [.int .i64 0,.int .i64 0,.list 3 [],.int .i64 0],[]⟩:=rfl
theorem Vh:M5 264=⟨.slice 47,1,24,.nils 1,.list 1 [],[]⟩:=rfl
theorem Z4:W6 Tryz.prog M5:=Zt1 (by kernel_rfl)
theorem Zq:Tryz.prog.follows .mixedOrders=true:=by kernel_rfl
instance encU8:Enc UInt8:=⟨fun b=>.int .u8 b.toNat,fun x=>UInt8.ofNat x.i.toNat,fun b=>by simp [D.i]⟩
instance szU8:Sz UInt8:=⟨1⟩
theorem Zpd {b:UInt8}:(enc b:D)=.int .u8 b.toNat:=rfl
theorem Zow {b:UInt8}:K3 UInt8 (.int .u8 b.toNat)=True:=eq_true (Wg b)
theorem Zpf {b:UInt8}:(dec (.int .u8 b.toNat):UInt8)=b:=Enc.dec_enc b
def Wv (c a b:UInt8):Bool:=decide (a≤c)&&decide (c≤b)
theorem Nn {a b:UInt8}:Wf (a.toNat:Int) (b.toNat:Int)=decide (a≤b):=by
 unfold Wf
 congr 1
 rw [UInt8.le_iff_toNat_le];exact propext (by omega)
def Ha:Con:=Uj (fun (_ _ _:UInt8)=>True) (fun c a b=>Wv c a b)
theorem Zcd:type_of% @Ha.eq_def:=@Ha.eq_def
theorem Qdt {p:Prop} (h:p:=by (sym=>simp [Kt,Kc,Kd,Kb,Ku,Kw,Ko,W4,Gd,M4,Ln,Ek,cL,fW,oB,Zcc,Zcb,Qd,Qe,Z6,Qa,Qc,Qh,Qp,Qz,Qv,Q4,Z0,Z3,Zz,Z7,Z9,Qg,Zv,Zw,Qn,Q6,Q5,Ja,Q7,Q0,Jo,Jj,Wx,X9,Wq,Wp,Wo,Ur,Uq,Up,Kj,Ki,Kh,D.setCell.eq_1,Zf,Q2,Q1,Xr,Ji,Xb,Jw,J3,Nn,Zbv,Zbu,Zbt,Zbs,Zbr,Zbq,Zbp,Zbo,Zbn,Zbm,Zbl,Zbk,Zbj,Zbi,Zbh,Zbg,Zbf,Zbe,Zbd,Zbc,Zbb,Zba,Za9,Za8,Za7,Za6,Za5,Za4,Za3,Za2,Za1,Za0,Zaz,Zay,Zax,Zaw,Zav,Zau,Zat,Zas,Zar,Zaq,Zap,Zao,Zan,Zam,Zal,Zak,Zaj,Zai,Zah,Zag,Zaf,Zae,Zad,Zac,Zab,Zaa,zU,zT,zS,zR,zP,zO,zN,zM,zL,zI,zH,zG,zF,zE,zC,zB,zK,zW,zV,zY,zJ,zX,zZ,zQ,yU,yT,yS,yR,yP,yO,yN,yM,yL,yI,yH,yG,yF,yE,yD,yC,yB,yA,yK,yW,yV,yY,yJ,yX,yZ,yQ,xU,xT,xS,xR,xP,xO,xN,xM,xL,xI,xH,xG,xF,xE,xD,xC,xB,xA,xK,xW,xV,xY,xJ,xX,xZ,xQ,wU,wT,wS,wR,wL,wI,wH,wG,wF,wE,wD,wC,wA,wK,wW,wV,wY,wJ,wX,wZ,wQ,vU,vT,vS,vR,vP,vO,vN,vM,vL,vI,vH,vG,vF,vE,vD,vC,vB,vA,vK,vW,vV,vY,vJ,vX,vZ,vQ,uU,uT,uS,uR,uP,uO,uN,uM,uL,uI,uH,uG,uF,uE,uD,uC,uB,uA,uK,uW,uV,uY,uJ,uX,uZ,uQ,tU,tT,tS,tR,tP,tO,tN,tM,tL,tI,tH,tG,tF,tE,tD,tC,tB,tA,tK,tW,tV,tY,tJ,tX,tZ,tQ,sU,sT,sS,sR,sP,sO,sN,sM,sL,sI,sH,sG,sF,sE,sD,sC,sB,sA,sK,sW,sV,sY,sJ,sX,sZ,sQ,rU,rT,rS,rR,rP,rO,rN,rM,rL,rI,rH,rG,rF,rE,rD,rC,rB,rA,rK,rW,rV,rY,rJ,rX,rZ,rQ,qU,qT,qS,qR,qP,qO,qN,qM,qL,qI,qH,qG,qF,qE,qD,qC,qB,qA,qK,qW,qV,qY,qJ,qX,qZ,qQ,pU,pT,pS,pR,pL,pI,pH,pG,pF,pE,pD,pC,pA,pK,pW,pV,pY,pJ,pX,pZ,pQ,oU,oT,oS,oR,oP,oO,oN,oM,oL,oI,oH,oG,oF,oE,oD,oC,Tc,Tb,Ta,S9,S8,S7,Nk,Nj,Ni,Nh,Ng,Nf,Nd,Nc,Nb,Na,H9,H8,H7,H6,H5,H4,H3,H2,H0,Hz,Hy,Hx,Hw,Hv,Hu,Ht,Hs,Uc,Ub,Ua,V9,V8,V7,V6,V5,V4,V3,V2,V0,Vz,Vy,Vx,Vw,Vv,Vu,Vt,Vs,Vr,Vq,Vp,Vo,Vn,Vm,Vl,Vk,Vj,Vi,Vh])):p:=h
theorem mK {p:Prop} (h:p:=by
 (sym=>simp [Kt,Kc,Kd,Kb,Ku,Kw,Ko,W4,Gd,M4,Ln,Ek,cL,fW,oB,Zcc,Zcb,Qd,Qe,Z6,Qa,Qc,Qh,Qp,Qz,Qv,Q4,Z0,Z3,Zz,Z7,Z9,Qg,Zv,Zw,Qn,Q6,Q5,Ja,Q7,Q0,Jo,Jj,Wx,X9,Wq,Wp,Wo,Ur,Uq,Up,Kj,Ki,Kh,D.setCell.eq_1,Zf,Q2,Q1,Xr,Ji,Xb,Jw,J3,Nn,Zbv,Zbu,Zbt,Zbs,Zbr,Zbq,Zbp,Zbo,Zbn,Zbm,Zbl,Zbk,Zbj,Zbi,Zbh,Zbg,Zbf,Zbe,Zbd,Zbc,Zbb,Zba,Za9,Za8,Za7,Za6,Za5,Za4,Za3,Za2,Za1,Za0,Zaz,Zay,Zax,Zaw,Zav,Zau,Zat,Zas,Zar,Zaq,Zap,Zao,Zan,Zam,Zal,Zak,Zaj,Zai,Zah,Zag,Zaf,Zae,Zad,Zac,Zab,Zaa,zU,zT,zS,zR,zP,zO,zN,zM,zL,zI,zH,zG,zF,zE,zC,zB,zK,zW,zV,zY,zJ,zX,zZ,zQ,yU,yT,yS,yR,yP,yO,yN,yM,yL,yI,yH,yG,yF,yE,yD,yC,yB,yA,yK,yW,yV,yY,yJ,yX,yZ,yQ,xU,xT,xS,xR,xP,xO,xN,xM,xL,xI,xH,xG,xF,xE,xD,xC,xB,xA,xK,xW,xV,xY,xJ,xX,xZ,xQ,wU,wT,wS,wR,wL,wI,wH,wG,wF,wE,wD,wC,wA,wK,wW,wV,wY,wJ,wX,wZ,wQ,vU,vT,vS,vR,vP,vO,vN,vM,vL,vI,vH,vG,vF,vE,vD,vC,vB,vA,vK,vW,vV,vY,vJ,vX,vZ,vQ,uU,uT,uS,uR,uP,uO,uN,uM,uL,uI,uH,uG,uF,uE,uD,uC,uB,uA,uK,uW,uV,uY,uJ,uX,uZ,uQ,tU,tT,tS,tR,tP,tO,tN,tM,tL,tI,tH,tG,tF,tE,tD,tC,tB,tA,tK,tW,tV,tY,tJ,tX,tZ,tQ,sU,sT,sS,sR,sP,sO,sN,sM,sL,sI,sH,sG,sF,sE,sD,sC,sB,sA,sK,sW,sV,sY,sJ,sX,sZ,sQ,rU,rT,rS,rR,rP,rO,rN,rM,rL,rI,rH,rG,rF,rE,rD,rC,rB,rA,rK,rW,rV,rY,rJ,rX,rZ,rQ,qU,qT,qS,qR,qP,qO,qN,qM,qL,qI,qH,qG,qF,qE,qD,qC,qB,qA,qK,qW,qV,qY,qJ,qX,qZ,qQ,pU,pT,pS,pR,pL,pI,pH,pG,pF,pE,pD,pC,pA,pK,pW,pV,pY,pJ,pX,pZ,pQ,oU,oT,oS,oR,oP,oO,oN,oM,oL,oI,oH,oG,oF,oE,oD,oC,Tc,Tb,Ta,S9,S8,S7,Nk,Nj,Ni,Nh,Ng,Nf,Nd,Nc,Nb,Na,H9,H8,H7,H6,H5,H4,H3,H2,H0,Hz,Hy,Hx,Hw,Hv,Hu,Ht,Hs,Uc,Ub,Ua,V9,V8,V7,V6,V5,V4,V3,V2,V0,Vz,Vy,Vx,Vw,Vv,Vu,Vt,Vs,Vr,Vq,Vp,Vo,Vn,Vm,Vl,Vk,Vj,Vi,Vh];tactic =>
   try simp only [S4] at *
   try simp only [Znv] at *
   try simp (maxSteps:=4000000) only [Qd,Qe,Z6,Qa,Qc,Qh,Qp,Qz,Qv,Q4,Z0,Z3,Zz,Z7,Z9,Qg,Zv,Zw,Qn,Q6,Q5,Ja,Q7,Q0,Jo,Jj,Wx,X9,Wq,Wp,Wo,Ur,Uq,Up,Kj,Ki,Kh,D.setCell.eq_1,Zf,Q2,Q1,Xr,Ji,Xb,Jw,J3,Nn,cM]
   first|done|exact Kq.k)):p:=h
theorem Qdu {p:Prop} (h:p:=by
 (sym=>simp [Kt,Kc,Kd,Kb,Ku,Kw,Ko,W4,Gd,M4,Ln,Ek,cL,fW,oB,Zcc,Zcb,Qd,Qe,Z6,Qa,Qc,Qh,Qp,Qz,Qv,Q4,Z0,Z3,Zz,Z7,Z9,Qg,Zv,Zw,Qn,Q6,Q5,Ja,Q7,Q0,Jo,Jj,Wx,X9,Wq,Wp,Wo,Ur,Uq,Up,Kj,Ki,Kh,D.setCell.eq_1,Zf,Q2,Q1,Xr,Ji,Xb,Jw,J3,Nn,Zbv,Zbu,Zbt,Zbs,Zbr,Zbq,Zbp,Zbo,Zbn,Zbm,Zbl,Zbk,Zbj,Zbi,Zbh,Zbg,Zbf,Zbe,Zbd,Zbc,Zbb,Zba,Za9,Za8,Za7,Za6,Za5,Za4,Za3,Za2,Za1,Za0,Zaz,Zay,Zax,Zaw,Zav,Zau,Zat,Zas,Zar,Zaq,Zap,Zao,Zan,Zam,Zal,Zak,Zaj,Zai,Zah,Zag,Zaf,Zae,Zad,Zac,Zab,Zaa,zU,zT,zS,zR,zP,zO,zN,zM,zL,zI,zH,zG,zF,zE,zC,zB,zK,zW,zV,zY,zJ,zX,zZ,zQ,yU,yT,yS,yR,yP,yO,yN,yM,yL,yI,yH,yG,yF,yE,yD,yC,yB,yA,yK,yW,yV,yY,yJ,yX,yZ,yQ,xU,xT,xS,xR,xP,xO,xN,xM,xL,xI,xH,xG,xF,xE,xD,xC,xB,xA,xK,xW,xV,xY,xJ,xX,xZ,xQ,wU,wT,wS,wR,wL,wI,wH,wG,wF,wE,wD,wC,wA,wK,wW,wV,wY,wJ,wX,wZ,wQ,vU,vT,vS,vR,vP,vO,vN,vM,vL,vI,vH,vG,vF,vE,vD,vC,vB,vA,vK,vW,vV,vY,vJ,vX,vZ,vQ,uU,uT,uS,uR,uP,uO,uN,uM,uL,uI,uH,uG,uF,uE,uD,uC,uB,uA,uK,uW,uV,uY,uJ,uX,uZ,uQ,tU,tT,tS,tR,tP,tO,tN,tM,tL,tI,tH,tG,tF,tE,tD,tC,tB,tA,tK,tW,tV,tY,tJ,tX,tZ,tQ,sU,sT,sS,sR,sP,sO,sN,sM,sL,sI,sH,sG,sF,sE,sD,sC,sB,sA,sK,sW,sV,sY,sJ,sX,sZ,sQ,rU,rT,rS,rR,rP,rO,rN,rM,rL,rI,rH,rG,rF,rE,rD,rC,rB,rA,rK,rW,rV,rY,rJ,rX,rZ,rQ,qU,qT,qS,qR,qP,qO,qN,qM,qL,qI,qH,qG,qF,qE,qD,qC,qB,qA,qK,qW,qV,qY,qJ,qX,qZ,qQ,pU,pT,pS,pR,pL,pI,pH,pG,pF,pE,pD,pC,pA,pK,pW,pV,pY,pJ,pX,pZ,pQ,oU,oT,oS,oR,oP,oO,oN,oM,oL,oI,oH,oG,oF,oE,oD,oC,Tc,Tb,Ta,S9,S8,S7,Nk,Nj,Ni,Nh,Ng,Nf,Nd,Nc,Nb,Na,H9,H8,H7,H6,H5,H4,H3,H2,H0,Hz,Hy,Hx,Hw,Hv,Hu,Ht,Hs,Uc,Ub,Ua,V9,V8,V7,V6,V5,V4,V3,V2,V0,Vz,Vy,Vx,Vw,Vv,Vu,Vt,Vs,Vr,Vq,Vp,Vo,Vn,Vm,Vl,Vk,Vj,Vi,Vh];tactic =>
   try simp only [S4] at *
   try simp only [Znv] at *
   try simp (maxSteps:=4000000) only [Qd,Qe,Z6,Qa,Qc,Qh,Qp,Qz,Qv,Q4,Z0,Z3,Zz,Z7,Z9,Qg,Zv,Zw,Qn,Q6,Q5,Ja,Q7,Q0,Jo,Jj,Wx,X9,Wq,Wp,Wo,Ur,Uq,Up,Kj,Ki,Kh,D.setCell.eq_1,Zf,Q2,Q1,Xr,Ji,Xb,Jw,J3,Nn,cM]
   repeat' first|with_reducible assumption|with_reducible apply Zb|intro _|omega|(rw [Xy];omega)
   all_goals first|with_reducible exact Qo|omega|rfl|trivial|exact Or.inr trivial|assumption|contradiction|exact Qk)):p:=h
structure Kab:Prop
theorem Kab.k (_:Kab) (h:p:=by
 repeat' first|exact Z1|with_reducible apply Zb|intro _
 ·rename_i h;unfold Wv;simp [h]
 ·rename_i h;unfold Wv;rw [decide_eq_false h];rfl):p:=h
theorem good_within:Qq Tryz.prog (220,Ha):=by
 obtain ⟨Kx,Kt,Kc,Kd,Kb,Ku,Kw,K,_⟩:=X2 Z4 Zq [] false X1;have Ko:=Zcd;refine Wh K Tryz.func220 [.tmp 6] rfl 15 rfl (fun c hc cvs hpre=>?_);unfold Ha at hpre;obtain ⟨x,y,z,rfl,-⟩:=Mg hpre;cases hc;have Kf:=Kt;have Qd:=@Zpd;have Qe:=@Zow;have Z6:=@Zpf;have Kq:Kab:=⟨⟩;exact mK
def behind (c:UInt8):Bool:=Wv c 97 122||Wv c 65 90||Wv c 48 57||c==95
theorem Mb {a b:UInt8}:((a.toNat:Int)==(b.toNat:Int))=(a==b):=by
 rw [Bool.eq_iff_iff,Zm,Zm];constructor
 ·intro h;exact UInt8.toNat_inj.1 (by omega)
 ·intro h;rw [h]
theorem Qb5:D.int .u8 97=enc (97:UInt8):=rfl
theorem Qbj:D.int .u8 122=enc (122:UInt8):=rfl
theorem Qdn:D.int .u8 65=enc (65:UInt8):=rfl
theorem Qdm:D.int .u8 90=enc (90:UInt8):=rfl
theorem Qb7:D.int .u8 48=enc (48:UInt8):=rfl
theorem Qb6:D.int .u8 57=enc (57:UInt8):=rfl
theorem Kf {b:UInt8}:(.int .u8 b.toNat:D)=enc b:=rfl
theorem Wl {k:IntKind} {x:UInt8}:D.isInt k (enc x)=(.u8=k):=rfl
theorem Ex {x:UInt8}:D.i (enc x)=x.toNat:=rfl
theorem Yr {s:Nat} {x:UInt8}:D.fits s (enc x)=(s=1):=rfl
theorem Ys {f:Nat} {x:UInt8}:D.cell (enc x) f=enc x:=rfl
theorem Qch {x:UInt8}:((x.toNat:Int)==95)=(x==95):=Mb (b:=95)
def Av:Con:=Xj (fun (_:UInt8)=>True) (fun c=>behind c)
structure Kac:Prop
theorem Kac.k (_:Kac) (h:p:=by
 unfold behind;refine ⟨fun h1=>⟨fun h2=>⟨fun h3=>?_,fun h3=>?_⟩,fun h2=>?_⟩,fun h1=>?_⟩;all_goals simp only [*,Bool.false_or,Bool.true_or,Bool.or_true]):p:=h
theorem good_behind:Qq Tryz.prog (248,Av):=by
 obtain ⟨Kx,Kt,Kc,Kd,Kb,Ku,Kw,K,W4,_⟩:=X2 Z4 Zq [] false (Jh good_within Zcd X1);have Ko:=Av.eq_def;refine Wh K Tryz.func248 [.tmp 2] rfl 17 rfl (fun c hc cvs hpre=>?_);unfold Av at hpre;obtain ⟨x,rfl,-⟩:=Jr hpre;cases hc;have Qd:=@Qb5;have Qe:=@Qbj;have Z6:=@Qdn;have Qa:=@Qdm;have Qc:=@Qb7;have Qh:=@Qb6;have Qp:=@Kf;have Qz:=@Wl;have Qv:=@Ex;have Q4:=@Yr;have Z0:=@Ys;have Z3:=@Qch;have Kq:Kac:=⟨⟩;exact mK
def Fw (s:List UInt8):Bool:=s.all behind
theorem Zec {s:List UInt8} {j:Nat}:(s.drop 1).getD j 0=s.getD (j+1) 0:=by
 simp [Zd,Nat.add_comm]
def O6:Con:=Xj (fun (s:List UInt8)=>s.length≤9223372036854775807) (fun s=>Fw (s.drop 1))
structure Kae:Prop
theorem Kae.k (_:Kae) (h:p:=by
 repeat' first|exact Z1|with_reducible apply Zb|intro _
 ·rename_i hb;unfold Fw;rw [cF (p:=behind) 0 (k-1) (by rw [List.length_drop];omega) (by rw [Zec,show k-1+1=k by omega];exact hb)]
 ·rename_i hb;refine ⟨k+1,by exact Qk,by omega,by omega,fun j h1 hj=>?_,by omega⟩
  by_cases hjk:j=k
  ·subst hjk;exact hb
  ·exact hno j h1 (by omega)):p:=h
structure Kaf:Prop
theorem Kaf.k (_:Kaf) (h:p:=by
 unfold Fw;rw [Cd (p:=behind) 0 fun j hj=>?_];rw [Zec];rw [List.length_drop] at hj;exact hno (j+1) (by omega) (by omega)):p:=h
structure Kad:Prop
theorem Kad.k (_:Kad) (h:p:=by
 refine Zi [2,4,5,6,7,8,9,10,11,12,13,14] (fun k:Nat=>[(3,.d (.int .i64 k))]) (fun k:Nat=>[]) (fun k:Nat=>1≤k∧(k=1∨k≤s.length)∧∀ j,1≤j→j<k→behind (s.getD j 0)=true) (fun k:Nat=>s.length-k) 1 ?_ ?_ ?_
 ·simp;omega
 ·exact Qk
 rintro k ⟨hk1,hk,hno⟩;rcases Zn k s.length with ⟨hlt,Qd⟩|⟨hlt,Qd⟩
 ·have Qe:=@Kf;have Z6:=@Wl;have Qa:=@Ex;have Qc:=@Yr;have Qh:=@Ys;have Kq:Kae:=⟨⟩;exact mK
 ·have Kq:Kaf:=⟨⟩;exact mK):p:=h
theorem good_all1:Qq Tryz.prog (221,O6):=by
 obtain ⟨Kx,Kt,Kc,Kd,Kb,Ku,Kw,K,W4,_⟩:=X2 Z4 Zq [] false (Jh good_behind Av.eq_def X1);have Ko:=O6.eq_def;refine Wh K Tryz.func221 [.tmp 2] rfl 15 rfl (fun c hc cvs hpre=>?_);unfold O6 at hpre;obtain ⟨s,rfl,hs⟩:=Jr hpre;cases hc;have Kq:Kad:=⟨⟩;exact mK
def Yo (s:List UInt8):Bool:=match s with
 | []=>false
 | c::r=>Wv c 97 122&&Fw r
def Sa (s:List UInt8):Bool:=match s with
 | []=>false
 | c::r=>Wv c 65 90&&Fw r
def Un:Con:=Xj (fun (s:List UInt8)=>s.length≤9223372036854775807) (fun s=>Yo s)
theorem Dk:type_of% @Un.eq_def:=@Un.eq_def
structure Kag:Prop
theorem Kag.k (_:Kag) (h:p:=by
 cases s with
 | nil=>simp [Yo]
 | cons c r =>
  simp only [Zj] at hs;simp only [Zj,Yo,Int.toNat_zero,List.getD_cons_zero,List.drop_succ_cons,List.drop_zero];repeat' first|exact Z1|with_reducible apply Zb|intro _
  all_goals simp_all):p:=h
theorem good_IsWord1:Qq Tryz.prog (181,Un):=by
 obtain ⟨Kx,Kt,Kc,Kd,Kb,Ku,Kw,K,W4,Gd,_⟩:=X2 Z4 Zq [] false (Jh good_within Zcd (Jh good_all1 O6.eq_def X1));have Ko:=Dk;refine Wh K Tryz.func181 [.tmp 2] rfl 15 rfl (fun c hc cvs hpre=>?_);unfold Un at hpre;obtain ⟨s,rfl,hs⟩:=Jr hpre;cases hc;have Qd:=@Kf;have Qe:=@Wl;have Z6:=@Ex;have Qa:=@Yr;have Qc:=@Ys;have Qh:=@Qb5;have Qp:=@Qbj;have Kq:Kag:=⟨⟩;exact mK
def Hd:Con:=Xj (fun (s:List UInt8)=>s.length≤9223372036854775807) (fun s=>Sa s)
theorem Zce:type_of% @Hd.eq_def:=@Hd.eq_def
structure Kah:Prop
theorem Kah.k (_:Kah) (h:p:=by
 cases s with
 | nil=>simp [Sa]
 | cons c r =>
  simp only [Zj] at hs;simp only [Zj,Sa,Int.toNat_zero,List.getD_cons_zero,List.drop_succ_cons,List.drop_zero];repeat' first|exact Z1|with_reducible apply Zb|intro _
  all_goals simp_all):p:=h
theorem good_IsTag1:Qq Tryz.prog (179,Hd):=by
 obtain ⟨Kx,Kt,Kc,Kd,Kb,Ku,Kw,K,W4,Gd,_⟩:=X2 Z4 Zq [] false (Jh good_within Zcd (Jh good_all1 O6.eq_def X1));have Ko:=Zce;refine Wh K Tryz.func179 [.tmp 2] rfl 15 rfl (fun c hc cvs hpre=>?_);unfold Hd at hpre;obtain ⟨s,rfl,hs⟩:=Jr hpre;cases hc;have Qd:=@Kf;have Qe:=@Wl;have Z6:=@Ex;have Qa:=@Yr;have Qc:=@Ys;have Qh:=@Qdn;have Qp:=@Qdm;have Kq:Kah:=⟨⟩;exact mK
structure Node where
 kind:Int
 name:List UInt8
 n:Int
 deriving DecidableEq
instance encNode:Enc Node:=⟨fun a=>.agg [.int .i64 a.kind,.str a.name,.int .i64 a.n],fun x=>match x with
 | .agg [a,b,c]=>⟨a.i,b.s,c.i⟩
 | _=>⟨0,[],0⟩,fun a=>rfl⟩
instance szNode:Sz Node:=⟨3⟩
theorem Dl:Sz.sz Node=3:=rfl
theorem Q3 {n:Node}:(enc n:D)=.agg [.int .i64 n.kind,.str n.name,.int .i64 n.n]:=rfl
theorem Jf {a:Int} {b:List UInt8} {c:Int}:(dec (.agg [.int .i64 a,.str b,.int .i64 c]):Node)=⟨a,b,c⟩:=rfl
theorem Jd {a:Int} {b:List UInt8} {c:Int}:K3 Node (.agg [.int .i64 a,.str b,.int .i64 c])=True:=eq_true rfl
theorem Je {a b:Node}:((a.kind==b.kind)&&((a.name==b.name)&&(a.n==b.n)))=(a==b):=by
 rw [Bool.eq_iff_iff];cases a;cases b;simp
theorem Jc {n:Node}:Node.mk n.kind n.name n.n=n:=rfl
def K1 (n:Node):Int:=if n.kind=5 then 2 else if n.kind=6∨n.kind=7 then n.n else 0
def Ld:Con:=Xj (fun (_:Node)=>True) (fun n=>K1 n)
structure Kai:Prop
theorem Kai.k (_:Kai) (h:p:=by
 unfold K1;refine ⟨fun h=>by rw [if_pos h],fun h=>⟨fun h6=>⟨fun h7=>by rw [if_neg h,if_pos (.inr h7)],fun h7=>by rw [if_neg h,if_neg (by omega)]⟩,fun h6=>by rw [if_neg h,if_pos (.inl h6)]⟩⟩):p:=h
theorem good_many3:Qq Tryz.prog (191,Ld):=by
 obtain ⟨Kx,Kt,Kc,Kd,Kb,Ku,Kw,K,_⟩:=X2 Z4 Zq [] false X1;have Ko:=Ld.eq_def;refine Wh K Tryz.func191 [.tmp 2] rfl 16 rfl (fun c hc cvs hpre=>?_);unfold Ld at hpre;obtain ⟨n,rfl,-⟩:=Jr hpre;cases hc;have Qd:=@Q3;have Qe:=@Jd;have Z6:=@Jf;have Qa:=@Jc;have Qc:=@Dl;have Qh:=@Je;have Kq:Kai:=⟨⟩;exact mK
def Dt (n:Node):Bool :=
 if n.kind=0∨n.kind=8∨n.kind=9 then decide (0≤n.n)
 else if 1≤n.kind∧n.kind≤5 then decide (n.n=0)
 else if n.kind=6 then decide (0≤n.n)&&decide (n.n≤50)
 else if n.kind=7 then decide (1≤n.n)&&decide (n.n≤50)
 else false
def Lt:Con:=Xj (fun (_:Node)=>True) (fun n=>Dt n)
structure Kaj:Prop
theorem Kaj.k (_:Kaj) (h:p:=by
 unfold Dt;repeat' first|exact Z1|with_reducible apply Zb|intro _
 all_goals repeat (first|rw [if_pos (by omega)]|rw [if_neg (by omega)])
 all_goals try unfold Wf
 all_goals try unfold Yi
 all_goals rw [Bool.eq_iff_iff]
 all_goals simp only [Zk,Bool.or_eq_true,decide_eq_true_eq,Zm,Zt,iff_self,false_iff,iff_false,true_iff,iff_true]
 all_goals omega):p:=h
theorem good_numbered3:Qq Tryz.prog (155,Lt):=by
 obtain ⟨Kx,Kt,Kc,Kd,Kb,Ku,Kw,K,_⟩:=X2 Z4 Zq [] false X1;have Ko:=Lt.eq_def;refine Wh K Tryz.func155 [.tmp 2] rfl 41 rfl (fun c hc cvs hpre=>?_);unfold Lt at hpre;obtain ⟨n,rfl,-⟩:=Jr hpre;cases hc;refine Yv 2 ?_;have Qd:=@Q3;have Qe:=@Jd;have Z6:=@Jf;have Qa:=@Jc;have Qc:=@Dl;have Qh:=@Je;have Kq:Kaj:=⟨⟩;exact mK
def Zju:List Node→Int→Nat
 | [],_=>0
 | n::l,o=>if o-1+K1 n=0 then 1 else 1+Zju l (o-1+K1 n)
def iS (t:List Node) (i:Int):Int:=if i<0∨(t.length:Int)≤i then -1 else i+Zju (t.drop i.toNat) 1
def Zpu (t:List Node):Prop:=t.length≤100000∧∀ n∈t,0≤K1 n∧K1 n≤50
def aZ:Con:=Wr (fun (t:Sl Node) (i:Int)=>Zpu t.l∧Zhp .i64 i) (fun t i=>iS t.l i)
structure Kal:Prop
theorem Kal.k (_:Kal) (h:p:=by
 repeat' first|exact Z1|with_reducible apply Zb|intro _
 ·rename_i hz;rw [if_pos hz] at he;rw [e0];omega
 ·rename_i hz;rw [if_neg hz] at he;exact ⟨(k+1,o-1+K1 (t.getD k ⟨0,[],0⟩)),by exact Qk,by simp only;omega,by simp only;omega,by simp only;omega,by simp only;omega,by simp only;omega,by simp only;omega⟩):p:=h
structure Kam:Prop
theorem Kam.k (_:Kam) (h:p:=by
 rw [e0];omega):p:=h
structure Kak:Prop
theorem Kak.k (_:Kak) (h:p:=by
 repeat' first|exact Z1|with_reducible apply Zb|intro _
 ·unfold iS;rw [if_pos (.inr ‹_›)]
 ·obtain ⟨i,rfl⟩:∃ n:Nat,i=n:=⟨i.toNat,by omega⟩
  have hil:i<t.length:=by omega
  have e0:iS t i=i+Zju (t.drop i) 1:=by
   unfold iS;rw [if_neg (by omega)]
   rfl
  refine Zi [4,16,17,18,19,20,21,22,23,24,25,26,27,28,29,30,31,32,33] (fun p:Nat×Int=>[(5,.d (.int .i64 p.2)),(6,.d (.int .i64 p.1))]) (fun p:Nat×Int=>[]) (fun p:Nat×Int=>i≤p.1∧p.1≤t.length∧1≤p.2∧p.2≤1+50*p.1∧i+Zju (t.drop i) 1=p.1+Zju (t.drop p.1) p.2) (fun p:Nat×Int=>t.length-p.1) (i,1) ?_ ?_ ?_
  ·exact ⟨Zl _,by simp only;omega,by simp,by simp only;omega,rfl⟩
  ·exact Qk
  rintro ⟨k,o⟩ ⟨h1,h2,h3,h4,h5⟩;simp only at h1 h2 h3 h4 h5;rcases Zn k t.length with ⟨hlt,Qd⟩|⟨hlt,Qd⟩
  ·have hmk:=hm (t.getD k ⟨0,[],0⟩) (by simp [hlt])
   have he:Zju (t.drop k) o=if o-1+K1 (t.getD k ⟨0,[],0⟩)=0 then 1 else 1+Zju (t.drop (k+1)) (o-1+K1 (t.getD k ⟨0,[],0⟩)):=by
    rw [List.drop_eq_getElem_cons hlt,Zju];simp [hlt]
   have Qe:=Zr (⟨0,[],0⟩:Node) hlt;have Z6:=@Q3;have Qa:=@Jd;have Qc:=@Jf;have Qh:=@Jc;have Qp:=@Dl;have Qz:=@Je;have Kq:Kal:=⟨⟩;exact mK
  ·have hd:t.drop k=[]:=List.drop_eq_nil_of_le hlt;rw [hd,Zju] at h5;have Z6:=@Q3;have Qa:=@Jd;have Qc:=@Jf;have Qh:=@Jc;have Qp:=@Dl;have Qz:=@Je;have Kq:Kam:=⟨⟩;exact mK
 ·unfold iS;rw [if_pos (.inl ‹_›)]):p:=h
theorem good_End3:Qq Tryz.prog (156,aZ):=by
 obtain ⟨Kx,Kt,Kc,Kd,Kb,Ku,Kw,K,W4,_⟩:=X2 Z4 Zq [] false (Jh good_many3 Ld.eq_def X1);have Ko:=aZ.eq_def;refine Wh K Tryz.func156 [.tmp 4] rfl 36 rfl (fun c hc cvs hpre=>?_);unfold aZ at hpre;obtain ⟨⟨t⟩,i,rfl,⟨ht,hm⟩,hi⟩:=Jv hpre;simp only at ht hm;rw [Xy] at hi;cases hc;refine Yv 2 ?_;have Z6:=@Q3;have Qa:=@Jd;have Qc:=@Jf;have Qh:=@Jc;have Qp:=@Dl;have Qz:=@Je;have Kq:Kak:=⟨⟩;exact mK
theorem Km {α:Type} {l:List α} {k:Nat} (d:α) (h:k<l.length):l.take (k+1)=l.take k++[l.getD k d]:=by
 rw [List.take_succ_eq_append_getElem h];simp [h]
def I8 (t:List Node):Bool:=t.all fun n=>n.kind != 8&&n.kind != 9
def Az:Con:=Xj (fun (t:Sl Node)=>t.l.length≤9223372036854775807) (fun t=>I8 t.l)
structure Kao:Prop
theorem Kao.k (_:Kao) (h:p:=by
 have hbad:((t.getD k ⟨0,[],0⟩).kind != 8&&(t.getD k ⟨0,[],0⟩).kind != 9)=false→false=I8 t:=by
  intro h;unfold I8;rw [cF (p:=fun n:Node=>n.kind != 8&&n.kind != 9) ⟨0,[],0⟩ k hlt h]
 repeat' first|exact Z1|with_reducible apply Zb|intro _
 ·rename_i h8 h9;exact hbad (by rw [h9];simp)
 ·rename_i h8 h9;refine ⟨k+1,by exact Qk,by omega,fun j hj=>?_,by omega⟩
  by_cases hjk:j=k
  ·subst hjk;simp only [bne_iff_ne,ne_eq,Zk];exact ⟨h8,h9⟩
  ·exact hno j (by omega)
 ·rename_i h8;exact hbad (by rw [h8];simp)):p:=h
structure Kap:Prop
theorem Kap.k (_:Kap) (h:p:=by
 unfold I8;rw [Cd (p:=fun n:Node=>n.kind != 8&&n.kind != 9) ⟨0,[],0⟩ fun j hj=>hno j (by omega)]):p:=h
structure Kan:Prop
theorem Kan.k (_:Kan) (h:p:=by
 refine Zi [2,4,5,6,7,8,9,10,11,12,13,14,15,16,17,18,19,20,21,22,23] (fun k:Nat=>[(3,.d (.int .i64 k))]) (fun k:Nat=>[]) (fun k:Nat=>k≤t.length∧∀ j,j<k→((t.getD j ⟨0,[],0⟩).kind != 8&&(t.getD j ⟨0,[],0⟩).kind != 9)=true) (fun k:Nat=>t.length-k) 0 ?_ ?_ ?_
 ·simp
 ·exact Qk
 rintro k ⟨hk,hno⟩;rcases Zn k t.length with ⟨hlt,Qd⟩|⟨hlt,Qd⟩
 ·have Qe:=Zr (⟨0,[],0⟩:Node) hlt;have Z6:=@Q3;have Qa:=@Jd;have Qc:=@Jf;have Qh:=@Jc;have Qp:=@Dl;have Qz:=@Je;have Kq:Kao:=⟨⟩;exact mK
 ·have Z6:=@Q3;have Qa:=@Jd;have Qc:=@Jf;have Qh:=@Jc;have Qp:=@Dl;have Qz:=@Je;have Kq:Kap:=⟨⟩;exact mK):p:=h
theorem good_Plain3:Qq Tryz.prog (114,Az):=by
 obtain ⟨Kx,Kt,Kc,Kd,Kb,Ku,Kw,K,_⟩:=X2 Z4 Zq [] false X1;have Ko:=Az.eq_def;refine Wh K Tryz.func114 [.tmp 2] rfl 24 rfl (fun c hc cvs hpre=>?_);unfold Az at hpre;obtain ⟨⟨t⟩,rfl,ht⟩:=Jr hpre;simp only at ht;cases hc;have Z6:=@Q3;have Qa:=@Jd;have Qc:=@Jf;have Qh:=@Jc;have Qp:=@Dl;have Qz:=@Je;have Kq:Kan:=⟨⟩;exact mK
def O7:Con:=Wr (fun (a b:Sl Node)=>a.l.length≤9223372036854775807∧b.l.length≤9223372036854775807) (fun a b=>a.l==b.l)
structure Kar:Prop
theorem Kar.k (_:Kar) (h:p:=by
 repeat' first|exact Z1|with_reducible apply Zb|intro _
 ·kernel_rfl
 ·rename_i h;symm;rw [Za];intro e;exact h (by rw [e])
 ·rename_i h;refine ⟨k+1,by exact Qk,by omega,fun j hj=>?_,by omega⟩
  by_cases hjk:j=k
  ·subst hjk;exact h
  ·exact hno j (by omega)):p:=h
structure Kas:Prop
theorem Kas.k (_:Kas) (h:p:=by
 symm;rw [Zm];refine List.ext_getElem hlen fun j h1 h2=>?_;have:=hno j (by omega)
 simpa [h1,h2] using this):p:=h
structure Kaq:Prop
theorem Kaq.k (_:Kaq) (h:p:=by
 refine ⟨fun hne=>?_,fun heq=>?_⟩
 ·symm;rw [Za];intro h;exact hne (by rw [h])
 have hlen:a.length=b.length:=by omega
 refine Zi [4,11,12,13,14,15,16,17,18,19,20,21,22,23,24,25] (fun k:Nat=>[(5,.d (.int .i64 k))]) (fun k:Nat=>[]) (fun k:Nat=>k≤a.length∧∀ j,j<k→a.getD j ⟨0,[],0⟩=b.getD j ⟨0,[],0⟩) (fun k:Nat=>a.length-k) 0 ?_ ?_ ?_
 ·simp
 ·exact Qk
 rintro k ⟨hk,hno⟩;rcases Zn k a.length with ⟨hlt,Qd⟩|⟨hlt,Qd⟩
 ·have Qe:=Zr (⟨0,[],0⟩:Node) hlt;have Z6:=Zr (⟨0,[],0⟩:Node) (show k<b.length by omega)
  have Qa:=@Q3;have Qc:=@Jd;have Qh:=@Jf;have Qp:=@Jc;have Qz:=@Dl;have Qv:=@Je;have Kq:Kar:=⟨⟩;exact mK
 ·have Qa:=@Q3;have Qc:=@Jd;have Qh:=@Jf;have Qp:=@Jc;have Qz:=@Dl;have Qv:=@Je;have Kq:Kas:=⟨⟩;exact mK):p:=h
theorem good_One3:Qq Tryz.prog (49,O7):=by
 obtain ⟨Kx,Kt,Kc,Kd,Kb,Ku,Kw,K,_⟩:=X2 Z4 Zq [] false X1;have Ko:=O7.eq_def;refine Wh K Tryz.func49 [.tmp 4] rfl 26 rfl (fun c hc cvs hpre=>?_);unfold O7 at hpre;obtain ⟨⟨a⟩,⟨b⟩,rfl,ha,hb⟩:=Jv hpre;simp only at ha hb;cases hc;have Qa:=@Q3;have Qc:=@Jd;have Qh:=@Jf;have Qp:=@Jc;have Qz:=@Dl;have Qv:=@Je;have Kq:Kaq:=⟨⟩;exact mK
def cO (n:Node):Node:=if n.kind=0 then { n with n:=0 } else n
def E7 (a b:List Node):Bool:=a.map cO==b.map cO
def Fr:Con:=Wr (fun (a b:Sl Node)=>a.l.length≤9223372036854775807∧b.l.length≤9223372036854775807) (fun a b=>E7 a.l b.l)
structure Kau:Prop
theorem Kau.k (_:Kau) (h:p:=by
 revert hyes hbad;generalize a.getD k ⟨0,[],0⟩=x;generalize b.getD k ⟨0,[],0⟩=y;intro hyes hbad;repeat' first|exact Z1|with_reducible apply Zb|intro _
 ·kernel_rfl
 all_goals first|(refine hbad (fun e=>?_);revert e;clear hyes hbad hno;cases x;cases y;simp_all [cO];done)|exact ⟨k+1,by exact Qk,by omega,hyes (by clear hyes hbad hno;cases x;cases y;simp_all [cO]),by omega⟩):p:=h
structure Kav:Prop
theorem Kav.k (_:Kav) (h:p:=by
 symm;unfold E7;rw [Zm];refine List.ext_getElem (by simp [hlen]) fun j h1 h2=>?_
 rw [Zo] at h1 h2;have:=hno j (by omega)
 simpa [h1,h2] using this):p:=h
structure Kat:Prop
theorem Kat.k (_:Kat) (h:p:=by
 refine ⟨fun hne=>?_,fun heq=>?_⟩
 ·symm;unfold E7;rw [Za];intro h;have:=congrArg List.length h;rw [Zo,Zo] at this;exact hne (by rw [this])
 have hlen:a.length=b.length:=by omega
 refine Zi [4,6,7,13,14,15,16,17,18,19,20,21,22,23,24,25,26,27,28,29,30,31,32,33,34,35,36,37] (fun k:Nat=>[(5,.d (.int .i64 k))]) (fun k:Nat=>[]) (fun k:Nat=>k≤a.length∧∀ j,j<k→cO (a.getD j ⟨0,[],0⟩)=cO (b.getD j ⟨0,[],0⟩)) (fun k:Nat=>a.length-k) 0 ?_ ?_ ?_
 ·simp
 ·exact Qk
 rintro k ⟨hk,hno⟩;rcases Zn k a.length with ⟨hlt,Qd⟩|⟨hlt,Qd⟩
 ·have hyes:cO (a.getD k ⟨0,[],0⟩)=cO (b.getD k ⟨0,[],0⟩)→∀ j,j<k+1→cO (a.getD j ⟨0,[],0⟩)=cO (b.getD j ⟨0,[],0⟩):=by
   intro h j hj;by_cases hjk:j=k
   ·subst hjk;exact h
   ·exact hno j (by omega)
  have hbad:cO (a.getD k ⟨0,[],0⟩)≠cO (b.getD k ⟨0,[],0⟩)→false=E7 a b:=by
   intro h;symm;unfold E7;rw [Za];intro e;apply h;have h1:(a.map cO).getD k ⟨0,[],0⟩=(b.map cO).getD k ⟨0,[],0⟩:=by rw [e]
   simpa [hlt,show k<b.length by omega] using h1
  have Qe:=Zr (⟨0,[],0⟩:Node) hlt;have Z6:=Zr (⟨0,[],0⟩:Node) (show k<b.length by omega)
  have Qa:=@Q3;have Qc:=@Jd;have Qh:=@Jf;have Qp:=@Jc;have Qz:=@Dl;have Qv:=@Je;have Kq:Kau:=⟨⟩;exact mK
 ·have Qa:=@Q3;have Qc:=@Jd;have Qh:=@Jf;have Qp:=@Jc;have Qz:=@Dl;have Qv:=@Je;have Kq:Kav:=⟨⟩;exact mK):p:=h
theorem good_Same3:Qq Tryz.prog (134,Fr):=by
 obtain ⟨Kx,Kt,Kc,Kd,Kb,Ku,Kw,K,_⟩:=X2 Z4 Zq [] false X1;have Ko:=Fr.eq_def;refine Wh K Tryz.func134 [.tmp 4] rfl 38 rfl (fun c hc cvs hpre=>?_);unfold Fr at hpre;obtain ⟨⟨a⟩,⟨b⟩,rfl,ha,hb⟩:=Jv hpre;simp only at ha hb;cases hc;refine Yv 2 ?_;have Qa:=@Q3;have Qc:=@Jd;have Qh:=@Jf;have Qp:=@Jc;have Qz:=@Dl;have Qv:=@Je;have Kq:Kat:=⟨⟩;exact mK
def E1 (a b:List Node):List Node:=⟨5,[],0⟩::(a++b)
def A4:Con:=Wr (fun (a b:Sl Node)=>a.l.length≤1048576∧b.l.length≤1048576) (fun a b=>Sl.mk (E1 a.l b.l))
structure Kaw:Prop
theorem Kaw.k (_:Kaw) (h:p:=by
 repeat' first|exact Z1|with_reducible apply Zb|intro _
 rfl):p:=h
theorem good_Arrow3:Qq Tryz.prog (265,A4):=by
 obtain ⟨Kx,Kt,Kc,Kd,Kb,Ku,Kw,K,_⟩:=X2 Z4 Zq [] false X1;have Ko:=A4.eq_def;refine Wh K Tryz.func265 [.tmp 4] rfl 15 rfl (fun c hc cvs hpre=>?_);unfold A4 at hpre;obtain ⟨⟨a⟩,⟨b⟩,rfl,ha,hb⟩:=Jv hpre;simp only at ha hb;cases hc;have Qd:=@Q3;have Qe:=@Jd;have Z6:=@Jf;have Qa:=@Jc;have Qc:=@Dl;have Qh:=@Je;have Kq:Kaw:=⟨⟩;exact mK
theorem Zvd:∀ (l:List Node) (o:Int),Zju l o≤l.length
 | [],o=>by simp [Zju]
 | n::l,o=>by
  simp only [Zju];split
  ·simp
  ·have:=Zvd l (o-1+K1 n);simp only [Zj];omega
def Yt (t:List Node):Nat→Nat→List Int
 | 0,_=>[]
 | m+1,at_=>if at_<t.length then (at_:Int)::Yt t m (at_+Zju (t.drop at_) 1) else []
def D1 (t:List Node) (i:Int):List Int:=if i<0∨(t.length:Int)≤i then [] else Yt t (K1 (t.getD i.toNat ⟨0,[],0⟩)).toNat (i.toNat+1)
def cZ:Con:=Wr (fun (t:Sl Node) (i:Int)=>Zpu t.l∧Zhp .i64 i) (fun t i=>Sl.mk (D1 t.l i))
structure Kay:Prop
theorem Kay.k (_:Kay) (h:p:=by
 repeat' first|exact Z1|with_reducible apply Zb|intro _
 refine ⟨(k+1,q+Zju (t.drop q) 1,out++[(q:Int)]),by exact Qk,by simp only;omega,by simp only;omega,by simp [h3],?_,by simp only;omega⟩
 simp only;rw [←h4,show M-(k+1)=M-k-1 by omega]
 simp):p:=h
structure Kaz:Prop
theorem Kaz.k (_:Kaz) (h:p:=by
 repeat' first|exact Z1|with_reducible apply Zb|intro _
 rw [e0,h4]):p:=h
structure KaA:Prop
theorem KaA.k (_:KaA) (h:p:=by
 repeat' first|exact Z1|with_reducible apply Zb|intro _
 rw [e0,h4]):p:=h
structure Kax:Prop
theorem Kax.k (_:Kax) (h:p:=by
 repeat' first|exact Z1|with_reducible apply Zb|intro _
 ·unfold D1;rw [if_pos (.inr ‹_›)];rfl
 ·obtain ⟨i,rfl⟩:∃ n:Nat,i=n:=⟨i.toNat,by omega⟩
  have hil:i<t.length:=by omega
  have hmi:=hm (t.getD i ⟨0,[],0⟩) (by simp [hil])
  obtain ⟨M,Z6⟩:∃ M:Nat,K1 (t.getD i ⟨0,[],0⟩)=M:=⟨(K1 (t.getD i ⟨0,[],0⟩)).toNat,by omega⟩
  have e0:D1 t i=Yt t M (i+1):=by
   unfold D1;rw [if_neg (by omega)]
   simp only [Zf,Z6]
  refine Zi [20,21,22,23,24,25,26,27,28,29,30,31,32,33,34,35,36,37,38,39,40,41] (fun p:Nat×Nat×List Int=>[(5,.sl 8 (p.2.2.map enc).length),(6,.d (.int .i64 p.2.1)),(7,.d (.int .i64 p.1))]) (fun p:Nat×Nat×List Int=>[(8,.row 1 (p.2.2.map enc) 0)]) (fun p:Nat×Nat×List Int=>p.1≤M∧p.2.1≤t.length∧p.2.2.length=p.1∧p.2.2++Yt t (M-p.1) p.2.1=Yt t M (i+1)) (fun p:Nat×Nat×List Int=>M-p.1) (0,i+1,[]) ?_ ?_ ?_
  ·exact ⟨Nat.zero_le _,hil,rfl,rfl⟩
  ·exact Qk
  rintro ⟨k,q,out⟩ ⟨h1,h2,h3,h4⟩;simp only at h1 h2 h3 h4;rcases Zn k M with ⟨hk,Qd⟩|⟨hk,Qd⟩
  ·rcases Zn q t.length with ⟨hq,Qe⟩|⟨hq,Qe⟩
   ·have e1:M-k=(M-k-1)+1:=by omega
    rw [e1,Yt,if_pos hq] at h4;have hle:=Zvd (t.drop q) 1;rw [List.length_drop] at hle;have Qa:iS t q=((q+Zju (t.drop q) 1:Nat):Int):=by
     unfold iS;rw [if_neg (by omega)]
     simp
    have hT:Zpu t:=⟨ht,hm⟩;have Qc:=Zr (⟨0,[],0⟩:Node) hil;have Qz:=@Q3;have Qv:=@Jd;have Q4:=@Jf;have Z0:=@Jc;have Z3:=@Dl;have Zz:=@Je;have Kq:Kay:=⟨⟩;exact mK
   ·have hz:Yt t (M-k) q=[]:=by
     cases hc:M-k with
     | zero=>rfl
     | succ c=>rw [Yt,if_neg (by omega)]
    rw [hz,List.append_nil] at h4;have Qh:=Zr (⟨0,[],0⟩:Node) hil;have Qz:=@Q3;have Qv:=@Jd;have Q4:=@Jf;have Z0:=@Jc;have Z3:=@Dl;have Zz:=@Je;have Kq:Kaz:=⟨⟩;exact mK
  ·have hz:Yt t (M-k) q=[]:=by
    rw [show M-k=0 by omega]
    rfl
   rw [hz,List.append_nil] at h4;have Qp:=Zr (⟨0,[],0⟩:Node) hil;have Qz:=@Q3;have Qv:=@Jd;have Q4:=@Jf;have Z0:=@Jc;have Z3:=@Dl;have Zz:=@Je;have Kq:KaA:=⟨⟩;exact mK
 ·unfold D1;rw [if_pos (.inl ‹_›)];rfl):p:=h
theorem good_Kids3:Qq Tryz.prog (159,cZ):=by
 obtain ⟨Kx,Kt,Kc,Kd,Kb,Ku,Kw,K,W4,Gd,_⟩:=X2 Z4 Zq [] false (Jh good_End3 aZ.eq_def (Jh good_many3 Ld.eq_def X1));have Ko:=cZ.eq_def;refine Wh K Tryz.func159 [.tmp 4] rfl 43 rfl (fun c hc cvs hpre=>?_);unfold cZ at hpre;obtain ⟨⟨t⟩,i,rfl,⟨ht,hm⟩,hi⟩:=Jv hpre;simp only at ht hm;rw [Xy] at hi;cases hc;refine Yv 2 ?_;have Qz:=@Q3;have Qv:=@Jd;have Q4:=@Jf;have Z0:=@Jc;have Z3:=@Dl;have Zz:=@Je;have Kq:Kax:=⟨⟩;exact mK
def Io:Int→List Int→List Int
 | x,[]=>if x=0 then [] else [x]
 | x,y::r=>if x=0 then Io (y-1) r else x::y::r
def Zr6:List Int→List Int
 | []=>[]
 | x::r=>Io x r
def nR:List Node→List Int→Bool
 | [],_=>true
 | n::l,rs=>if 100≤rs.length then false else nR l (Io (K1 n) rs)
def Cm (t:List Node):Bool:=nR t []
def Zy5 (rs:List Int):Prop:=(∀ x∈rs,0≤x∧x≤50)∧∀ x∈rs.tail,1≤x
theorem fM {x:Int} {r:List Int}:el ((x::r).reverse.map enc) r.length=.int .i64 x:=by
 simp [el]
theorem Zk1 {x:Int} {r:List Int}:((x::r).reverse.map (enc:Int→D)).take r.length=r.reverse.map enc:=by
 rw [List.reverse_cons,List.map_append,List.take_left' (by simp)]
theorem fL {x y:Int} {r:List Int}:((x::r).reverse.map (enc:Int→D)).set r.length (.int .i64 y)=(y::r).reverse.map enc:=by
 rw [List.reverse_cons,List.map_append,List.set_append];simp
theorem aL {x:Int} {r:List Int} (h:x≠0):Io x r=x::r:=by
 cases r<;>simp [Io,h]
def Ts:Con:=Xj (fun (t:Sl Node)=>Zpu t.l) (fun t=>Cm t.l)
theorem Qdr {p:Prop} (h:p:=by (sym=>simp [Kt,Kc,Kd,Kb,Ku,Kw,Ko,W4,Gd,M4,Ln,Ek,cL,fW,oB,Zcc,Zcb,Qd,Qe,Z6,Qa,Qc,Qh,Qp,Qz,Qv,Q4,Z0,Z3,Zz,Z7,Z9,Qg,Zv,Zw,Qn,Q6,Q5,Ja,Q7,Q0,Jo,Jj,Wx,X9,Wq,Wp,Wo,Ur,Uq,Up,Kj,Ki,Kh,D.setCell.eq_1,Zf,Ys,Q2,Q1,Xr,Ji,Xb,Jf,Jw,Q3,Je,Yr,Ex,Jd,J3,Wl,Nn,Jc,fL,Dl,Kf,Zbv,Zbu,Zbt,Zbs,Zbr,Zbq,Zbp,Zbo,Zbn,Zbm,Zbl,Zbk,Zbj,Zbi,Zbh,Zbg,Zbf,Zbe,Zbd,Zbc,Zbb,Zba,Za9,Za8,Za7,Za6,Za5,Za4,Za3,Za2,Za1,Za0,Zaz,Zay,Zax,Zaw,Zav,Zau,Zat,Zas,Zar,Zaq,Zap,Zao,Zan,Zam,Zal,Zak,Zaj,Zai,Zah,Zag,Zaf,Zae,Zad,Zac,Zab,Zaa,zU,zT,zS,zR,zP,zO,zN,zM,zL,zI,zH,zG,zF,zE,zC,zB,zK,zW,zV,zY,zJ,zX,zZ,zQ,yU,yT,yS,yR,yP,yO,yN,yM,yL,yI,yH,yG,yF,yE,yD,yC,yB,yA,yK,yW,yV,yY,yJ,yX,yZ,yQ,xU,xT,xS,xR,xP,xO,xN,xM,xL,xI,xH,xG,xF,xE,xD,xC,xB,xA,xK,xW,xV,xY,xJ,xX,xZ,xQ,wU,wT,wS,wR,wL,wI,wH,wG,wF,wE,wD,wC,wA,wK,wW,wV,wY,wJ,wX,wZ,wQ,vU,vT,vS,vR,vP,vO,vN,vM,vL,vI,vH,vG,vF,vE,vD,vC,vB,vA,vK,vW,vV,vY,vJ,vX,vZ,vQ,uU,uT,uS,uR,uP,uO,uN,uM,uL,uI,uH,uG,uF,uE,uD,uC,uB,uA,uK,uW,uV,uY,uJ,uX,uZ,uQ,tU,tT,tS,tR,tP,tO,tN,tM,tL,tI,tH,tG,tF,tE,tD,tC,tB,tA,tK,tW,tV,tY,tJ,tX,tZ,tQ,sU,sT,sS,sR,sP,sO,sN,sM,sL,sI,sH,sG,sF,sE,sD,sC,sB,sA,sK,sW,sV,sY,sJ,sX,sZ,sQ,rU,rT,rS,rR,rP,rO,rN,rM,rL,rI,rH,rG,rF,rE,rD,rC,rB,rA,rK,rW,rV,rY,rJ,rX,rZ,rQ,qU,qT,qS,qR,qP,qO,qN,qM,qL,qI,qH,qG,qF,qE,qD,qC,qB,qA,qK,qW,qV,qY,qJ,qX,qZ,qQ,pU,pT,pS,pR,pL,pI,pH,pG,pF,pE,pD,pC,pA,pK,pW,pV,pY,pJ,pX,pZ,pQ,oU,oT,oS,oR,oP,oO,oN,oM,oL,oI,oH,oG,oF,oE,oD,oC,Tc,Tb,Ta,S9,S8,S7,Nk,Nj,Ni,Nh,Ng,Nf,Nd,Nc,Nb,Na,H9,H8,H7,H6,H5,H4,H3,H2,H0,Hz,Hy,Hx,Hw,Hv,Hu,Ht,Hs,Uc,Ub,Ua,V9,V8,V7,V6,V5,V4,V3,V2,V0,Vz,Vy,Vx,Vw,Vv,Vu,Vt,Vs,Vr,Vq,Vp,Vo,Vn,Vm,Vl,Vk,Vj,Vi,Vh])):p:=h
theorem L5 {p:Prop} (h:p:=by
 (sym=>simp [Kt,Kc,Kd,Kb,Ku,Kw,Ko,W4,Gd,M4,Ln,Ek,cL,fW,oB,Zcc,Zcb,Qd,Qe,Z6,Qa,Qc,Qh,Qp,Qz,Qv,Q4,Z0,Z3,Zz,Z7,Z9,Qg,Zv,Zw,Qn,Q6,Q5,Ja,Q7,Q0,Jo,Jj,Wx,X9,Wq,Wp,Wo,Ur,Uq,Up,Kj,Ki,Kh,D.setCell.eq_1,Zf,Ys,Q2,Q1,Xr,Ji,Xb,Jf,Jw,Q3,Je,Yr,Ex,Jd,J3,Wl,Nn,Jc,fL,Dl,Kf,Zbv,Zbu,Zbt,Zbs,Zbr,Zbq,Zbp,Zbo,Zbn,Zbm,Zbl,Zbk,Zbj,Zbi,Zbh,Zbg,Zbf,Zbe,Zbd,Zbc,Zbb,Zba,Za9,Za8,Za7,Za6,Za5,Za4,Za3,Za2,Za1,Za0,Zaz,Zay,Zax,Zaw,Zav,Zau,Zat,Zas,Zar,Zaq,Zap,Zao,Zan,Zam,Zal,Zak,Zaj,Zai,Zah,Zag,Zaf,Zae,Zad,Zac,Zab,Zaa,zU,zT,zS,zR,zP,zO,zN,zM,zL,zI,zH,zG,zF,zE,zC,zB,zK,zW,zV,zY,zJ,zX,zZ,zQ,yU,yT,yS,yR,yP,yO,yN,yM,yL,yI,yH,yG,yF,yE,yD,yC,yB,yA,yK,yW,yV,yY,yJ,yX,yZ,yQ,xU,xT,xS,xR,xP,xO,xN,xM,xL,xI,xH,xG,xF,xE,xD,xC,xB,xA,xK,xW,xV,xY,xJ,xX,xZ,xQ,wU,wT,wS,wR,wL,wI,wH,wG,wF,wE,wD,wC,wA,wK,wW,wV,wY,wJ,wX,wZ,wQ,vU,vT,vS,vR,vP,vO,vN,vM,vL,vI,vH,vG,vF,vE,vD,vC,vB,vA,vK,vW,vV,vY,vJ,vX,vZ,vQ,uU,uT,uS,uR,uP,uO,uN,uM,uL,uI,uH,uG,uF,uE,uD,uC,uB,uA,uK,uW,uV,uY,uJ,uX,uZ,uQ,tU,tT,tS,tR,tP,tO,tN,tM,tL,tI,tH,tG,tF,tE,tD,tC,tB,tA,tK,tW,tV,tY,tJ,tX,tZ,tQ,sU,sT,sS,sR,sP,sO,sN,sM,sL,sI,sH,sG,sF,sE,sD,sC,sB,sA,sK,sW,sV,sY,sJ,sX,sZ,sQ,rU,rT,rS,rR,rP,rO,rN,rM,rL,rI,rH,rG,rF,rE,rD,rC,rB,rA,rK,rW,rV,rY,rJ,rX,rZ,rQ,qU,qT,qS,qR,qP,qO,qN,qM,qL,qI,qH,qG,qF,qE,qD,qC,qB,qA,qK,qW,qV,qY,qJ,qX,qZ,qQ,pU,pT,pS,pR,pL,pI,pH,pG,pF,pE,pD,pC,pA,pK,pW,pV,pY,pJ,pX,pZ,pQ,oU,oT,oS,oR,oP,oO,oN,oM,oL,oI,oH,oG,oF,oE,oD,oC,Tc,Tb,Ta,S9,S8,S7,Nk,Nj,Ni,Nh,Ng,Nf,Nd,Nc,Nb,Na,H9,H8,H7,H6,H5,H4,H3,H2,H0,Hz,Hy,Hx,Hw,Hv,Hu,Ht,Hs,Uc,Ub,Ua,V9,V8,V7,V6,V5,V4,V3,V2,V0,Vz,Vy,Vx,Vw,Vv,Vu,Vt,Vs,Vr,Vq,Vp,Vo,Vn,Vm,Vl,Vk,Vj,Vi,Vh];tactic =>
   try simp only [S4] at *
   try simp only [Znv] at *
   try simp (maxSteps:=4000000) only [Qd,Qe,Z6,Qa,Qc,Qh,Qp,Qz,Qv,Q4,Z0,Z3,Zz,Z7,Z9,Qg,Zv,Zw,Qn,Q6,Q5,Ja,Q7,Q0,Jo,Jj,Wx,X9,Wq,Wp,Wo,Ur,Uq,Up,Kj,Ki,Kh,D.setCell.eq_1,Zf,Ys,Q2,Q1,Xr,Ji,Xb,Jf,Jw,Q3,Je,Yr,Ex,Jd,J3,Wl,Nn,Jc,fL,Dl,Kf,cM]
   first|done|exact Kq.k)):p:=h
theorem Zzd {p:Prop} (h:p:=by
 (sym=>simp [Kt,Kc,Kd,Kb,Ku,Kw,Ko,W4,Gd,M4,Ln,Ek,cL,fW,oB,Zcc,Zcb,Qd,Qe,Z6,Qa,Qc,Qh,Qp,Qz,Qv,Q4,Z0,Z3,Zz,Z7,Z9,Qg,Zv,Zw,Qn,Q6,Q5,Ja,Q7,Q0,Jo,Jj,Wx,X9,Wq,Wp,Wo,Ur,Uq,Up,Kj,Ki,Kh,D.setCell.eq_1,Zf,Ys,Q2,Q1,Xr,Ji,Xb,Jf,Jw,Q3,Je,Yr,Ex,Jd,J3,Wl,Nn,Jc,fL,Dl,Kf,Zbv,Zbu,Zbt,Zbs,Zbr,Zbq,Zbp,Zbo,Zbn,Zbm,Zbl,Zbk,Zbj,Zbi,Zbh,Zbg,Zbf,Zbe,Zbd,Zbc,Zbb,Zba,Za9,Za8,Za7,Za6,Za5,Za4,Za3,Za2,Za1,Za0,Zaz,Zay,Zax,Zaw,Zav,Zau,Zat,Zas,Zar,Zaq,Zap,Zao,Zan,Zam,Zal,Zak,Zaj,Zai,Zah,Zag,Zaf,Zae,Zad,Zac,Zab,Zaa,zU,zT,zS,zR,zP,zO,zN,zM,zL,zI,zH,zG,zF,zE,zC,zB,zK,zW,zV,zY,zJ,zX,zZ,zQ,yU,yT,yS,yR,yP,yO,yN,yM,yL,yI,yH,yG,yF,yE,yD,yC,yB,yA,yK,yW,yV,yY,yJ,yX,yZ,yQ,xU,xT,xS,xR,xP,xO,xN,xM,xL,xI,xH,xG,xF,xE,xD,xC,xB,xA,xK,xW,xV,xY,xJ,xX,xZ,xQ,wU,wT,wS,wR,wL,wI,wH,wG,wF,wE,wD,wC,wA,wK,wW,wV,wY,wJ,wX,wZ,wQ,vU,vT,vS,vR,vP,vO,vN,vM,vL,vI,vH,vG,vF,vE,vD,vC,vB,vA,vK,vW,vV,vY,vJ,vX,vZ,vQ,uU,uT,uS,uR,uP,uO,uN,uM,uL,uI,uH,uG,uF,uE,uD,uC,uB,uA,uK,uW,uV,uY,uJ,uX,uZ,uQ,tU,tT,tS,tR,tP,tO,tN,tM,tL,tI,tH,tG,tF,tE,tD,tC,tB,tA,tK,tW,tV,tY,tJ,tX,tZ,tQ,sU,sT,sS,sR,sP,sO,sN,sM,sL,sI,sH,sG,sF,sE,sD,sC,sB,sA,sK,sW,sV,sY,sJ,sX,sZ,sQ,rU,rT,rS,rR,rP,rO,rN,rM,rL,rI,rH,rG,rF,rE,rD,rC,rB,rA,rK,rW,rV,rY,rJ,rX,rZ,rQ,qU,qT,qS,qR,qP,qO,qN,qM,qL,qI,qH,qG,qF,qE,qD,qC,qB,qA,qK,qW,qV,qY,qJ,qX,qZ,qQ,pU,pT,pS,pR,pL,pI,pH,pG,pF,pE,pD,pC,pA,pK,pW,pV,pY,pJ,pX,pZ,pQ,oU,oT,oS,oR,oP,oO,oN,oM,oL,oI,oH,oG,oF,oE,oD,oC,Tc,Tb,Ta,S9,S8,S7,Nk,Nj,Ni,Nh,Ng,Nf,Nd,Nc,Nb,Na,H9,H8,H7,H6,H5,H4,H3,H2,H0,Hz,Hy,Hx,Hw,Hv,Hu,Ht,Hs,Uc,Ub,Ua,V9,V8,V7,V6,V5,V4,V3,V2,V0,Vz,Vy,Vx,Vw,Vv,Vu,Vt,Vs,Vr,Vq,Vp,Vo,Vn,Vm,Vl,Vk,Vj,Vi,Vh];tactic =>
   try simp only [S4] at *
   try simp only [Znv] at *
   try simp (maxSteps:=4000000) only [Qd,Qe,Z6,Qa,Qc,Qh,Qp,Qz,Qv,Q4,Z0,Z3,Zz,Z7,Z9,Qg,Zv,Zw,Qn,Q6,Q5,Ja,Q7,Q0,Jo,Jj,Wx,X9,Wq,Wp,Wo,Ur,Uq,Up,Kj,Ki,Kh,D.setCell.eq_1,Zf,Ys,Q2,Q1,Xr,Ji,Xb,Jf,Jw,Q3,Je,Yr,Ex,Jd,J3,Wl,Nn,Jc,fL,Dl,Kf,cM]
   repeat' first|with_reducible assumption|with_reducible apply Zb|intro _|omega|(rw [Xy];omega)
   all_goals first|with_reducible exact Qo|omega|rfl|trivial|exact Or.inr trivial|assumption|contradiction|exact Qk)):p:=h
structure KaD:Prop
theorem KaD.k (_:KaD) (h:p:=by
 repeat' first|exact Z1|with_reducible apply Zb|intro _
 simp only [Zr6] at g4;exact ⟨(k+1,[]),by exact Qk,by simp only;omega,by simp,by simp,by simp only;rw [←h4,e1,g4],by simp only;omega⟩):p:=h
structure KaE:Prop
theorem KaE.k (_:KaE) (h:p:=by
 repeat' first|exact Z1|with_reducible apply Zb|intro _
 exact ⟨[],by exact Qk,⟨by simp,by simp⟩,by simp,by rw [←g4];rfl,by simp⟩):p:=h
structure KaF:Prop
theorem KaF.k (_:KaF) (h:p:=by
 repeat' first|exact Z1|with_reducible apply Zb|intro _
 refine ⟨(y-1)::r,by exact Qk,⟨fun z Z6=>?_,fun z Z6=>g2 z (List.mem_cons_of_mem _ Z6)⟩,by simp only [Zj];omega,by rw [←g4];simp only [Zr6,Io,if_true],by simp only [Zj];omega⟩
 rcases Zu.1 Z6 with rfl|Z6
 ·omega
 ·exact g1 z (List.mem_cons_of_mem _ (List.mem_cons_of_mem _ Z6))):p:=h
structure KaG:Prop
theorem KaG.k (_:KaG) (h:p:=by
 repeat' first|exact Z1|with_reducible apply Zb|intro _
 have e3:Io M rs=x::r:=by rw [←g4];exact aL hx0
 refine ⟨(k+1,x::r),by exact Qk,by simp only;omega,by simp only [Zj];omega,fun z Z6=>?_,by simp only;rw [←h4,e1,e3],by simp only;omega⟩
 rcases Zu.1 Z6 with rfl|Z6
 ·omega
 ·exact ⟨g2 z Z6,(g1 z (List.mem_cons_of_mem _ Z6)).2⟩):p:=h
structure KaC:Prop
theorem KaC.k (_:KaC) (h:p:=by
 revert e1 hmk;generalize K1 (t.getD k ⟨0,[],0⟩)=M;intro hmk e1;repeat' first|exact Z1|with_reducible apply Zb|intro _
 ·rw [if_pos (by omega)] at e1
  rw [←h4,e1]
 ·rw [if_neg (by omega)] at e1
  have e2:rs.reverse++[M]=(M::rs).reverse:=by simp
  have hS:∀ (q:List Int),q≠[]→((q.length:Nat):Int)-1=((q.length-1:Nat):Int):=by
   intro q hq;have:=List.length_pos_iff.2 hq;omega
  refine Zi [23,24,25,26,27,28,29,30,31,32,33,34,35,36,37,38,39,40,41,42,43,44,45,46,47,48,49,50] (fun q:List Int=>[(3,.sl 5 (q.reverse.map enc).length),(5,.dead),(12,.dead),(15,.dead),(22,.dead)]) (fun q:List Int=>[(5,.row 1 (q.reverse.map enc) 0)]) (fun q:List Int=>Zy5 q∧q.length≤101∧Zr6 q=Io M rs) (fun q:List Int=>q.length) (M::rs) ?_ ?_ ?_
  ·refine ⟨⟨fun x hx=>?_,fun x hx=>(h3 x hx).1⟩,by simp only [Zj];omega,rfl⟩
   rcases Zu.1 hx with rfl|hx
   ·exact hmk
   ·have:=h3 x hx;omega
  ·exact Qk
  rintro q ⟨⟨g1,g2⟩,g3,g4⟩;cases q with
  | nil =>
   have Z6:Yi 0 ((0:Nat):Int)=false:=rfl;have Z3:=@List.length_reverse.{0};have Zz:=@List.reverse_nil.{0};have Kq:KaD:=⟨⟩;exact L5
  | cons x r =>
   have Z6:Yi 0 ((r.length+1:Nat):Int)=true:=by rw [Xa];omega
   have Qa:((r.length+1:Nat):Int)-1=(r.length:Int):=by omega
   have hx1:=g1 x (by simp)
   have Qc:el (List.map enc (x::r).reverse) r.length=.int .i64 x:=fM;have Qh:List.take r.length (List.map (enc:Int→D) (x::r).reverse)=List.map enc r.reverse:=Zk1;simp only [Zj] at g3;by_cases hx0:x=0
   ·subst hx0;cases r with
    | nil =>
     have Qp:Yi 0 ((0:Nat):Int)=false:=rfl;simp only [List.length_nil] at Z6 Qa Qc Qh;have Z3:=@List.length_reverse.{0};have Zz:=@List.reverse_nil.{0};have Kq:KaE:=⟨⟩;exact L5
    | cons y r =>
     have hy1:=g2 y (by simp)
     have hy2:=g1 y (by simp)
     have Qz:Yi 0 ((r.length+1:Nat):Int)=true:=by rw [Xa];omega
     have Qv:((r.length+1:Nat):Int)-1=(r.length:Int):=by omega
     have Q4:el (List.map enc (y::r).reverse) r.length=.int .i64 y:=fM;simp only [Zj] at Z6 Qa Qc Qh g3;have Z3:=@List.length_reverse.{0};have Kq:KaF:=⟨⟩;exact L5
   ·have Z0:(x==(0:Int))=false:=by simpa using hx0
    have Z3:=@List.length_reverse.{0};have Kq:KaG:=⟨⟩;exact L5):p:=h
structure KaH:Prop
theorem KaH.k (_:KaH) (h:p:=by
 rw [←h4,List.drop_eq_nil_of_le hlt];rfl):p:=h
structure KaB:Prop
theorem KaB.k (_:KaB) (h:p:=by
 refine Zi [2,6,7,8,9,10,11,12,13,14,15,16,17,18,19,20,21,22,23,24,25,26,27,28,29,30,31,32,33,34,35,36,37,38,39,40,41,42,43,44,45,46,47,48,49,50] (fun p:Nat×List Int=>[(3,.sl 5 (p.2.reverse.map enc).length),(4,.d (.int .i64 p.1)),(5,.dead)]) (fun p:Nat×List Int=>[(5,.row 1 (p.2.reverse.map enc) 0)]) (fun p:Nat×List Int=>p.1≤t.length∧p.2.length≤101∧(∀ x∈p.2,1≤x∧x≤50)∧nR (t.drop p.1) p.2=Cm t) (fun p:Nat×List Int=>t.length-p.1) (0,[]) ?_ ?_ ?_
 ·exact ⟨Nat.zero_le _,by simp,by simp,rfl⟩
 ·exact Qk
 rintro ⟨k,rs⟩ ⟨h1,h2,h3,h4⟩;simp only at h1 h2 h3 h4;rcases Zn k t.length with ⟨hlt,Qd⟩|⟨hlt,Qd⟩
 ·have hmk:=hm (t.getD k ⟨0,[],0⟩) (by simp [hlt])
  have e1:nR (t.drop k) rs=if 100≤rs.length then false else nR (t.drop (k+1)) (Io (K1 (t.getD k ⟨0,[],0⟩)) rs):=by
   rw [List.drop_eq_getElem_cons hlt,nR];simp [hlt]
  have Qe:=Zr (⟨0,[],0⟩:Node) hlt;have Z3:=@List.length_reverse.{0};have Kq:KaC:=⟨⟩;exact L5
 ·have Kq:KaH:=⟨⟩;exact L5):p:=h
theorem good_shallow3:Qq Tryz.prog (157,Ts):=by
 obtain ⟨Kx,Kt,Kc,Kd,Kb,Ku,Kw,K,W4,_⟩:=X2 Z4 Zq [39] false (Jh good_many3 Ld.eq_def X1);have Ko:=Ts.eq_def;refine Wh K Tryz.func157 [.tmp 2] rfl 51 rfl (fun c hc cvs hpre=>?_);unfold Ts at hpre;obtain ⟨⟨t⟩,rfl,⟨ht,hm⟩⟩:=Jr hpre;simp only at ht hm;cases hc;refine Yv 3 ?_;have Kq:KaB:=⟨⟩;exact L5
abbrev n0:Node:=⟨0,[],0⟩
def Zds (n:Node):Bool:=n.kind==6||n.kind==7
def Zov (p x prev:Node) (pos last:Bool):Bool :=
 cond (x.kind==9) (Zds p&&(last&&x.name==[]))
  (!((p.kind==6&&!Yo x.name)||(p.kind==7&&!Sa x.name))&&(!(!Zds p&&!(x.name==[]))&&!(Zds p&&(pos&&!Op.bytesLess prev.name x.name))))
def Fj (t:List Node) (l:List Int) (k:Nat):Node:=t.getD (l.getD k 0).toNat n0
def dC (t:List Node) (i:Nat) (l:List Int) (k:Nat):Bool:=Zov (t.getD i n0) (Fj t l k) (Fj t l (k-1)) (Yi 0 k) ((k:Int)==(l.length:Int)-1)
def eK (t:List Node) (i:Nat):Bool:=(((D1 t i).length:Int)==K1 (t.getD i n0))&&(List.range (D1 t i).length).all fun k=>dC t i (D1 t i) k
def Y5 (t:List Node):Prop:=∀ n∈t,n.name.length≤9223372036854775807
theorem mS (t:List Node):∀ (m q:Nat),∀ x∈Yt t m q,(q:Int)≤x∧x<t.length
 | 0,q,x,hx=>by simp [Yt] at hx
 | m+1,q,x,hx=>by
  unfold Yt at hx;split at hx
  ·rcases Zu.1 hx with rfl|hx
   ·omega
   ·have:=mS t m _ x hx;omega
  ·cases hx
theorem Zuw {t:List Node} {i:Nat}:∀ x∈D1 t i,(i:Int)<x∧x<t.length:=by
 intro x hx;unfold D1 at hx;split at hx
 ·cases hx
 ·have:=mS t _ _ x hx;omega
theorem gI (t:List Node):∀ (m q:Nat),(Yt t m q).length≤m
 | 0,q=>by simp [Yt]
 | m+1,q=>by
  unfold Yt;split
  ·simp only [Zj];have:=gI t m (q+Zju (t.drop q) 1);omega
  ·simp
def Lv:Con:=Wr (fun (t:Sl Node) (i:Int)=>Zpu t.l∧Y5 t.l∧0≤i∧i<t.l.length) (fun t i=>eK t.l i.toNat)
structure KaJ:Prop
theorem KaJ.k (_:KaJ) (h:p:=by
 repeat' first|exact Z1|with_reducible apply Zb|intro _
 all_goals first|with_reducible exact Qo|exact hbad (by clear hyes hbad heq hlab hlab' hno;simp_all [Zov,Zds,Yi])|exact ⟨k+1,by exact Qk,by omega,hyes (by clear hyes hbad heq hlab hlab' hno;simp_all [Zov,Zds,Yi]),by omega⟩):p:=h
structure KaK:Prop
theorem KaK.k (_:KaK) (h:p:=by
 rw [hlab',eq_comm,List.all_eq_true];intro j hj;exact hno j (by have:=List.mem_range.1 hj;omega)):p:=h
structure KaI:Prop
theorem KaI.k (_:KaI) (h:p:=by
 repeat' first|exact Z1|with_reducible apply Zb|intro _
 ·rename_i hne;rw [hlab];rw [show ((l.length:Int)==K1 (t.getD i n0))=false by simpa using hne]
  rfl
 ·rename_i heq;have hlab':eK t i=(List.range l.length).all fun k=>dC t i l k:=by
   rw [hlab,show ((l.length:Int)==K1 (t.getD i n0))=true by simpa using heq]
   rfl
  refine Zi [4,7,8,9,21,22,23,24,25,26,27,28,29,30,31,32,33,34,35,36,37,38,39,40,41,42,43,44,45,46,47,48,49,50,51,52,53,54,55,56,57,58,59,60,61,62,63,64,65,66,67,68,69,70,71,72,73,74,75,76,77,78,79,80,81,82,83,84,85,86,87,88,89,90,91,92,93,94,95,96,97,98,99,100,101,102,103,104,105,106,107,108,109,110,111,112,113,114,115,116,117,118,119,120,121,122] (fun k:Nat=>[(6,.d (.int .i64 k))]) (fun k:Nat=>[]) (fun k:Nat=>k≤l.length∧∀ j,j<k→dC t i l j=true) (fun k:Nat=>l.length-k) 0 ?_ ?_ ?_
  ·simp
  ·exact Qk
  rintro k ⟨hk,hno⟩;rcases Zn k l.length with ⟨hlt,Z6⟩|⟨hlt,Z6⟩
  ·have hki:=hin (l.getD k 0) (by simp [hlt])
   have hkt:(l.getD k 0).toNat<t.length:=by omega
   have hkn:=hN (Fj t l k) (by
    show t.getD _ n0∈t;rw [Zd,Zg hkt];exact List.getElem_mem hkt)
   have hyes:dC t i l k=true→∀ j,j<k+1→dC t i l j=true:=by
    intro h j hj;by_cases hjk:j=k
    ·subst hjk;exact h
    ·exact hno j (by omega)
   have hbad:dC t i l k=false→false=eK t i:=by
    intro h;rw [hlab',eq_comm,Bool.eq_false_iff];intro hc;rw [List.all_eq_true] at hc;have:=hc k (List.mem_range.2 hlt);rw [h] at this;cases this
   have Q4:t.getD (l.getD k 0).toNat ⟨0,[],0⟩=Fj t l k:=rfl;have hyes:Zov (t.getD i n0) (Fj t l k) (Fj t l (k-1)) (Yi 0 k) ((k:Int)==(l.length:Int)-1)=true→∀ j,j<k+1→dC t i l j=true:=hyes;have hbad:Zov (t.getD i n0) (Fj t l k) (Fj t l (k-1)) (Yi 0 k) ((k:Int)==(l.length:Int)-1)=false→false=eK t i:=hbad;have Z7:t.getD (l.getD (k-1) 0).toNat ⟨0,[],0⟩=Fj t l (k-1):=rfl;obtain ⟨x,hx⟩:=exq (Fj t l k);obtain ⟨prev,hp0⟩:=exq (Fj t l (k-1));obtain ⟨p,hp⟩:=exq (t.getD i n0);rw [hx,hp0,hp] at hyes hbad;rw [hx] at hkn Q4;rw [hp0] at Z7;have Qa:t.getD i ⟨0,[],0⟩=p:=hp;have hk1:k-1<l.length:=by omega
   have hpi:=hin (l.getD (k-1) 0) (by simp [hk1])
   have hpt:(l.getD (k-1) 0).toNat<t.length:=by omega
   have Z0:((k:Int)-1).toNat=k-1:=by omega
   have hc:((p.kind==6)=true∧(p.kind==7)=false)∨((p.kind==6)=false∧(p.kind==7)=true)∨((p.kind==6)=false∧(p.kind==7)=false):=by
    simp only [Zm,Za,ne_eq];omega
   rcases hc with ⟨Qc,Qh⟩|⟨Qc,Qh⟩|⟨Qc,Qh⟩
   all_goals
    have Qp:=Zr (0:Int) hlt;have Qz:=Zr n0 hkt;have Qv:=Zr n0 hil;have Z3:=Zr (0:Int) hk1;have Zz:=Zr n0 hpt;have Kq:KaJ:=⟨⟩;exact L5
  ·have Kq:KaK:=⟨⟩;exact L5):p:=h
theorem good_labelled3:Qq Tryz.prog (158,Lv):=by
 obtain ⟨Kx,Kt,Kc,Kd,Kb,Ku,Kw,K,W4,Gd,M4,Ln,_⟩:=X2 Z4 Zq [] false (Jh good_Kids3 cZ.eq_def (Jh good_IsTag1 Zce (Jh good_IsWord1 Dk (Jh good_many3 Ld.eq_def X1))));have Ko:=Lv.eq_def;refine Wh K Tryz.func158 [.tmp 4] rfl 123 rfl (fun c hc cvs hpre=>?_);unfold Lv at hpre;obtain ⟨⟨t⟩,i,rfl,hT,hN,hi0,hi1⟩:=Jv hpre;simp only at hT hN hi0 hi1;obtain ⟨i,rfl⟩:∃ n:Nat,i=n:=⟨i.toNat,by omega⟩
 have hil:i<t.length:=by omega
 have hlen:=hT.1;obtain ⟨l,Qd⟩:=exq (D1 t i);have hin:∀ x∈l,(i:Int)<x∧x<t.length:=by rw [←Qd];exact Zuw
 have hll:l.length≤100000:=by
  rw [←Qd];unfold D1;split
  ·simp
  ·have h1:=gI t (K1 (t.getD (Int.toNat i) ⟨0,[],0⟩)).toNat ((Int.toNat i)+1);have h2:=(hT.2 (t.getD i ⟨0,[],0⟩) (by simp [hil])).2
   simp only [Zf] at h1 ⊢;omega
 have hlab:eK t i=(((l.length:Int)==K1 (t.getD i n0))&&(List.range l.length).all fun k=>dC t i l k):=by
  unfold eK;rw [Qd]
 cases hc;refine Yv 7 ?_;have Qe:=Zr n0 hil;have Kq:KaI:=⟨⟩;exact L5
end Go.Am.Ty
namespace Go.Rose
inductive Rose (α:Type) where
 | mk (n:α) (ks:List (Rose α))
namespace Rose
variable {α:Type}
def root:Rose α→α
 | mk n _=>n
def kids:Rose α→List (Rose α)
 | mk _ ks=>ks
mutual
def nds:Rose α→List α
 | mk n ks=>n::ndss ks
def ndss:List (Rose α)→List α
 | []=>[]
 | x::xs=>nds x++ndss xs
end
mutual
def wf (ar:α→Nat):Rose α→Prop
 | mk n ks=>ks.length=ar n∧wfs ar ks
def wfs (ar:α→Nat):List (Rose α)→Prop
 | []=>True
 | x::xs=>wf ar x∧wfs ar xs
end
mutual
def depth:Rose α→Nat
 | mk _ ks=>1+depths ks
def depths:List (Rose α)→Nat
 | []=>0
 | x::xs=>max (depth x) (depths xs)
end
end Rose
open Rose
variable {α:Type} {ar:α→Nat}
theorem N0:∀ (a b:List (Rose α)),ndss (a++b)=ndss a++ndss b
 | [],b=>by simp [ndss]
 | x::a,b=>by simp [ndss,N0 a b]
theorem dL:∀ {a b:List (Rose α)},wfs ar (a++b)↔wfs ar a∧wfs ar b
 | [],b=>by simp [wfs]
 | x::a,b=>by simp only [List.cons_append,wfs,dL (a:=a),and_assoc]
theorem Rp (n:α) (ks:List (Rose α)):nds (mk n ks)=n::ndss ks:=by simp [nds]
theorem Zb0 (x:Rose α):1≤(nds x).length:=by cases x;simp [nds]
theorem Zqa (x:Rose α):nds x=x.root::ndss x.kids:=by cases x;simp [nds,root,kids]
theorem Zx8 {x:Rose α}:wf ar x↔x.kids.length=ar x.root∧wfs ar x.kids:=by cases x;simp [wf,root,kids]
def Af (ar:α→Nat):List α→Nat→Option Nat
 | _,0=>some 0
 | [],_+1=>none
 | n::l,o+1=>(Af ar l (o+ar n)).map (·+1)
theorem lN (ar:α→Nat):∀ (m:Nat) (ts:List (Rose α)) (r:List α),(ndss ts).length≤m→wfs ar ts→∀ o,Af ar (ndss ts++r) (ts.length+o)=(Af ar r o).map (·+(ndss ts).length)
 | m,[],r,_,_,o=>by simp [ndss,Af]
 | 0,mk n ks::ts,r,hm,_,o=>by simp [ndss,nds] at hm
 | m+1,mk n ks::ts,r,hm,hw,o=>by
  obtain ⟨⟨h1,h2⟩,h3⟩:=hw;simp only [ndss,nds,List.cons_append,Zj,Zh] at hm ⊢;rw [show ts.length+1+o=(ts.length+o)+1 by omega,Af,List.append_assoc]
  rw [show ts.length+o+ar n=ks.length+(ts.length+o) by omega,lN ar m ks (ndss ts++r) (by omega) h2 (ts.length+o),lN ar m ts r (by omega) h3 o]
  cases Af ar r o with
  | none=>rfl
  | some k=>simp only [Option.map_some];congr 1;omega
theorem Zvf {x:Rose α} (h:wf ar x) (r:List α):Af ar (nds x++r) 1=some (nds x).length:=by
 have:=lN ar _ [x] r (Zl _) ⟨h,trivial⟩ 0;simpa [ndss,Af] using this
theorem Zlj:∀ (m:Nat) {ts us:List (Rose α)} {r s:List α},(ndss ts).length≤m→wfs ar ts→wfs ar us→ts.length=us.length→ndss ts++r=ndss us++s→ts=us∧r=s
 | m,[],us,r,s,_,_,_,hl,h=>by
  have:us=[]:=List.length_eq_zero_iff.1 hl.symm;subst this;exact ⟨rfl,by simpa [ndss] using h⟩
 | m,_::_,[],_,_,_,_,_,hl,_=>by simp at hl
 | 0,mk n ks::ts,_,_,_,hm,_,_,_,_=>by simp [ndss,nds] at hm
 | m+1,mk n ks::ts,mk p qs::us,r,s,hm,ht,hu,hl,h=>by
  obtain ⟨⟨h1,h2⟩,h3⟩:=ht;obtain ⟨⟨g1,g2⟩,g3⟩:=hu;simp only [ndss,nds,List.cons_append,List.cons.injEq,Zj,Zh] at h hm hl;obtain ⟨rfl,h⟩:=h;rw [←N0,←N0] at h;obtain ⟨e1,e2⟩:=Zlj m (ts:=ks++ts) (us:=qs++us) (by rw [N0,Zh];omega) (dL.2 ⟨h2,h3⟩) (dL.2 ⟨g2,g3⟩) (by simp only [Zh];omega) h
  obtain ⟨e3,e4⟩:=List.append_inj e1 (by rw [h1,g1])
  exact ⟨by rw [e3,e4],e2⟩
theorem Zw1 {x y:Rose α} {r s:List α} (hx:wf ar x) (hy:wf ar y) (h:nds x++r=nds y++s):x=y∧r=s:=by
 obtain ⟨h1,h2⟩:=Zlj (ar:=ar) _ (ts:=[x]) (us:=[y]) (Zl _) ⟨hx,trivial⟩ ⟨hy,trivial⟩ rfl (by simpa [ndss] using h)
 injection h1 with h1
 exact ⟨h1,h2⟩
def At (ar:α→Nat) (l:List α) (i:Nat) (x:Rose α):Prop:=wf ar x∧∃ r,l.drop i=nds x++r
theorem At.inj {l:List α} {i:Nat} {x y:Rose α} (hx:At ar l i x) (hy:At ar l i y):x=y:=by
 obtain ⟨h1,r,h2⟩:=hx;obtain ⟨g1,s,g2⟩:=hy;exact (Zw1 h1 g1 (h2.symm.trans g2)).1
theorem At.le {l:List α} {i:Nat} {x:Rose α} (h:At ar l i x):i+(nds x).length≤l.length:=by
 obtain ⟨_,r,h2⟩:=h;have h3:=congrArg List.length h2;rw [List.length_drop,Zh] at h3;have:=Zb0 x;omega
theorem At.lt {l:List α} {i:Nat} {x:Rose α} (h:At ar l i x):i<l.length:=by
 have:=h.le;have:=Zb0 x;omega
theorem At.root {l:List α} {i:Nat} {x:Rose α} (h:At ar l i x) (d:α):l.getD i d=x.root:=by
 obtain ⟨_,r,h2⟩:=h;have h3:(l.drop i).getD 0 d=x.root:=by rw [h2,Zqa];rfl
 simpa [Zd] using h3
def Zv9 (ar:α→Nat) (l:List α) (i:Nat) (xs:List (Rose α)):Prop:=wfs ar xs∧∃ r,l.drop i=ndss xs++r
theorem At.kids {l:List α} {i:Nat} {x:Rose α} (h:At ar l i x):Zv9 ar l (i+1) x.kids∧x.kids.length=ar x.root:=by
 obtain ⟨h1,r,h2⟩:=h;rw [Zx8] at h1;refine ⟨⟨h1.2,r,?_⟩,h1.1⟩;rw [Zqa] at h2;have h3:(l.drop i).drop 1=(ndss x.kids++r):=by rw [h2];rfl
 rwa [List.drop_drop] at h3
theorem Zv9.head {l:List α} {i:Nat} {x:Rose α} {xs:List (Rose α)} (h:Zv9 ar l i (x::xs)):At ar l i x∧Zv9 ar l (i+(nds x).length) xs:=by
 obtain ⟨⟨h1,h2⟩,r,h3⟩:=h;refine ⟨⟨h1,ndss xs++r,by rw [h3];simp [ndss]⟩,h2,r,?_⟩
 rw [←List.drop_drop,h3];simp [ndss]
theorem Zv1 {x:Rose α} (h:wf ar x):At ar (nds x) 0 x:=⟨h,[],by simp⟩
theorem Zre {l:List α} {i:Nat} {x:Rose α} (h:At ar l i x):Af ar (l.drop i) 1=some (nds x).length:=by
 obtain ⟨h1,r,h2⟩:=h;rw [h2];exact Zvf h1 r
open Classical in
noncomputable def El [Inhabited α] (ar:α→Nat) (l:List α) (i:Nat):Rose α:=if h:∃ x,At ar l i x then Classical.choose h else mk default []
theorem Ps [Inhabited α] {l:List α} {i:Nat} {x:Rose α} (h:At ar l i x):El ar l i=x:=by
 unfold El;rw [dif_pos ⟨x,h⟩];exact At.inj (Classical.choose_spec (⟨x,h⟩:∃ x,At ar l i x)) h
theorem At.mem {l:List α} {i:Nat} {x:Rose α} (h:At ar l i x):∀ n∈nds x,n∈l:=fun n hn=>by
 obtain ⟨_,r,h2⟩:=h;exact List.mem_of_mem_drop (i:=i) (by rw [h2];exact List.mem_append_left _ hn)
end Go.Rose
namespace Go.Am.Ty
open Go.Proofs
open Enc (enc dec)
theorem Zc9 {n:Node} (h:Dt n=true):0≤K1 n∧K1 n≤50:=by
 unfold Dt at h;unfold K1;by_cases h5:n.kind=5
 ·rw [if_pos h5];omega
 ·rw [if_neg h5];by_cases h67:n.kind=6∨n.kind=7
  ·rw [if_pos h67];rw [if_neg (by omega),if_neg (by omega)] at h
   by_cases h6:n.kind=6
   ·rw [if_pos h6] at h;simpa using h
   ·rw [if_neg h6,if_pos (by omega)] at h
    simp only [Zk,decide_eq_true_eq] at h;omega
  ·rw [if_neg h67];omega
def Bj (t:List Node):Bool:=t.length==0||Yi 10000 t.length||!((t.getD 0 n0).name==[])||(t.getD 0 n0).kind==9
def Y6 (t:List Node):Bool:=!Bj t&&(t.all Dt&&((iS t 0==(t.length:Int)&&Cm t)&&(List.range t.length).all fun i=>eK t i))
theorem Mj {p:Nat→Bool} {n:Nat} (h:∀ j,j<n→p j=true):(List.range n).all p=true:=by
 rw [List.all_eq_true];intro j hj;exact h j (List.mem_range.1 hj)
theorem Lq {p:Nat→Bool} {n:Nat} (j:Nat) (hj:j<n) (h:p j=false):(List.range n).all p=false:=by
 rw [Bool.eq_false_iff];intro hc;rw [List.all_eq_true] at hc;have:=hc j (List.mem_range.2 hj);rw [h] at this;cases this
def Dc:Con:=Xj (fun (t:Sl Node)=>t.l.length≤9223372036854775807∧Y5 t.l) (fun t=>Y6 t.l)
structure KaL:Prop
theorem KaL.k (_:KaL) (h:p:=by
 unfold Y6 Bj;simp [h0]):p:=h
structure KaN:Prop
theorem KaN.k (_:KaN) (h:p:=by
 repeat' first|exact Z1|with_reducible apply Zb|intro _
 ·rename_i hb;rw [hr,cF (p:=Dt) n0 k hlt hb];rfl
 ·rename_i hb;refine ⟨k+1,by exact Qk,by omega,fun j hj=>?_,by omega⟩
  by_cases hjk:j=k
  ·subst hjk;exact hb
  ·exact hno j (by omega)):p:=h
structure KaP:Prop
theorem KaP.k (_:KaP) (h:p:=by
 repeat' first|exact Z1|with_reducible apply Zb|intro _
 ·rename_i hb;rw [hr2,Lq k hlt2 hb]
 ·rename_i hb;refine ⟨k+1,by exact Qk,by omega,fun j hj=>?_,by omega⟩
  by_cases hjk:j=k
  ·subst hjk;exact hb
  ·exact hno2 j (by omega)):p:=h
structure KaQ:Prop
theorem KaQ.k (_:KaQ) (h:p:=by
 rw [hr2,Mj fun j hj=>hno2 j (by omega)]):p:=h
structure KaO:Prop
theorem KaO.k (_:KaO) (h:p:=by
 repeat' first|exact Z1|with_reducible apply Zb|intro _
 ·rename_i he hs;rw [hr,hs];simp
 ·rename_i he hs;have hr2:Y6 t=(List.range t.length).all fun i=>eK t i:=by
   rw [hr,hs,show (iS t 0==(t.length:Int))=true by simpa using he]
   rfl
  refine Zi [2,49,50,51,52,53,54,55,56,57,58] (fun k:Nat=>[(4,.d (.int .i64 k))]) (fun k:Nat=>[]) (fun k:Nat=>k≤t.length∧∀ j,j<k→eK t j=true) (fun k:Nat=>t.length-k) 0 ?_ ?_ ?_
  ·simp
  ·exact Qk
  rintro k ⟨hk2,hno2⟩;rcases Zn k t.length with ⟨hlt2,Qh⟩|⟨hlt2,Qh⟩
  ·have Kq:KaP:=⟨⟩;exact L5
  ·have Kq:KaQ:=⟨⟩;exact L5
 ·rename_i he;rw [hr,show (iS t 0==(t.length:Int))=false by simpa using he]
  rfl):p:=h
structure KaM:Prop
theorem KaM.k (_:KaM) (h:p:=by
 repeat' first|exact Z1|with_reducible apply Zb|intro _
 ·rename_i h1 h2 h9;exact heb (by unfold Bj;rw [show ((t.getD 0 n0).kind==9)=true by rw [Zm];exact h9];simp only [Bool.or_true])
 ·rename_i h1 h3 h9;have hle:t.length≤10000:=by omega
  have hnb:Bj t=false:=by
   unfold Bj;simp only [Bool.or_eq_false_iff,Q9,Za];refine ⟨⟨⟨by omega,by omega⟩,?_⟩,h9⟩
   simpa using h3
  have hr:Y6 t=(t.all Dt&&((iS t 0==(t.length:Int)&&Cm t)&&(List.range t.length).all fun i=>eK t i)):=by
   unfold Y6;rw [hnb];rfl
  refine Zi [2,27,28,29,30,31,32,33,34,35,36,37,38] (fun k:Nat=>[(3,.d (.int .i64 k))]) (fun k:Nat=>[]) (fun k:Nat=>k≤t.length∧∀ j,j<k→Dt (t.getD j n0)=true) (fun k:Nat=>t.length-k) 0 ?_ ?_ ?_
  ·simp
  ·exact Qk
  rintro k ⟨hk,hno⟩;rcases Zn k t.length with ⟨hlt,Z6⟩|⟨hlt,Z6⟩
  ·have Qa:=Zr n0 hlt;have Kq:KaN:=⟨⟩;exact L5
  ·have hall:t.all Dt=true:=Cd (p:=Dt) n0 fun j hj=>hno j (by omega)
   have Qc:Zpu t:=⟨by omega,fun n hn=>Zc9 (List.all_eq_true.1 hall n hn)⟩
   rw [hall,Bool.true_and] at hr;have hT2:Zpu t∧Zhp .i64 0:=⟨Qc,by rw [Xy];omega⟩
   have Kq:KaO:=⟨⟩;exact L5
 ·rename_i h1 h3;exact heb (by unfold Bj;rw [show ((t.getD 0 n0).name==[])=false by rw [Za];exact h3];simp only [Bool.not_false,Bool.or_true,Bool.true_or])
 ·rename_i h1;exact heb (by unfold Bj;rw [show Yi 10000 (t.length:Int)=true by rw [Xa];exact h1];simp only [Bool.or_true,Bool.true_or])):p:=h
theorem good_Right3:Qq Tryz.prog (113,Dc):=by
 obtain ⟨Kx,Kt,Kc,Kd,Kb,Ku,Kw,K,W4,Gd,M4,Ln,_⟩:=X2 Z4 Zq [] false (Jh good_numbered3 Lt.eq_def (Jh good_End3 aZ.eq_def (Jh good_shallow3 Ts.eq_def (Jh good_labelled3 Lv.eq_def X1))));have Ko:=Dc.eq_def;refine Wh K Tryz.func113 [.tmp 2] rfl 59 rfl (fun c hc cvs hpre=>?_);unfold Dc at hpre;obtain ⟨⟨t⟩,rfl,ht,hN⟩:=Jr hpre;simp only at ht hN;cases hc;refine Yv 3 ?_;by_cases h0:t.length=0
 ·have Qd:((t.length:Int)==0)=true:=by simp [h0]
  have Kq:KaL:=⟨⟩;exact L5
 have Qd:((t.length:Int)==0)=false:=by rw [Za];omega
 have hlt0:0<t.length:=by omega
 have heb:Bj t=true→false=Y6 t:=by
  intro h;unfold Y6;rw [h];rfl
 have Qe:=Zr n0 hlt0;have Kq:KaM:=⟨⟩;exact L5
open Go.Proofs Go.Rose Go.Rose.Rose
instance inhSl {α:Type}:Inhabited (Sl α):=⟨⟨[]⟩⟩
instance inhNode:Inhabited Node:=⟨n0⟩
def ar (n:Node):Nat:=if n.kind=5 then 2 else if n.kind=6∨n.kind=7 then n.n.toNat else 0
theorem Zv3 {n:Node} (h:0≤K1 n):(ar n:Int)=K1 n:=by
 unfold ar K1 at *;split
 ·rfl
 ·rename_i h5;rw [if_neg h5] at h;split
  ·rename_i h6;rw [if_pos h6] at h;omega
  ·rfl
def Zyq (t:List Node) (i:Int):Int:=if i<0∨(t.length:Int)≤i then -1 else i+((Af ar (t.drop i.toNat) 1).getD 0:Nat)
def Whole (t:List Node) (i:Int):Prop:=0≤i→i<t.length→(Af ar (t.drop i.toNat) 1).isSome=true
def Cu:Nat→List (Rose Node)→List Int
 | _,[]=>[]
 | q,x::xs=>(q:Int)::Cu (q+(nds x).length) xs
theorem eA:∀ (q:Nat) (xs:List (Rose Node)),(Cu q xs).length=xs.length
 | _,[]=>rfl
 | q,x::xs=>by simp [Cu,eA _ xs]
theorem Zhi:∀ (q:Nat) (xs:List (Rose Node)) (j:Nat),j<xs.length→(Cu q xs).getD j 0=((q+(ndss (xs.take j)).length:Nat):Int)
 | _,[],j,h=>by simp at h
 | q,x::xs,0,_=>by simp [Cu,ndss]
 | q,x::xs,j+1,h=>by
  simp only [Cu,List.getD_cons_succ,List.take_succ_cons,ndss,Zh];rw [Zhi _ xs j (by simpa using h)]
  congr 1
  omega
theorem Zv0 {t:List Node}:∀ {xs:List (Rose Node)} {i j:Nat},Zv9 ar t i xs→∀ h:j<xs.length,At ar t (i+(ndss (xs.take j)).length) xs[j]
 | [],_,_,_,h=>by simp at h
 | x::xs,i,0,ha,_=>by simpa [ndss] using ha.head.1
 | x::xs,i,j+1,ha,h=>by
  have:=Zv0 ha.head.2 (j:=j) (by simpa using h)
  simpa [ndss,Nat.add_assoc] using this
structure MS where
 out:Option (List Node)
 done:Nat
noncomputable def Qaq (a b:List Node) (i k:Nat) (s:MS):MS :=
 ⟨some (s.out.getD []++(a.take i).drop s.done++(if (b.getD k n0).kind=0 then (a.take (Zyq a i).toNat).drop i else (b.take (Zyq b k).toNat).drop k)),(Zyq a i).toNat⟩
theorem Zyy:nD 5 [90000,90001,90002,90003,90004]:=by
 intro j hj
 match j,hj with
 | 0,_=>rfl
 | 1,_=>rfl
 | 2,_=>rfl
 | 3,_=>rfl
 | 4,_=>rfl
mutual
noncomputable def mv (a b:List Node):Rose Node→Rose Node→Nat→Nat→MS→Bool×MS
 | mk n ks,y,i,k,s=>cond (n.kind==0||y.root.kind==0) (true,Qaq a b i k s)
   (cond (n.kind==y.root.kind&&(n.name==y.root.name&&n.n==y.root.n)) (mvs a b ks y.kids (i+1) (k+1) s) (false,s))
noncomputable def mvs (a b:List Node):List (Rose Node)→List (Rose Node)→Nat→Nat→MS→Bool×MS
 | [],_,_,_,s=>(true,s)
 | _::_,[],_,_,s=>(false,s)
 | x::xs,y::ys,i,k,s=>cond (x.root.name==y.root.name)
   (cond (mv a b x y i k s).1 (mvs a b xs ys (i+(nds x).length) (k+(nds y).length) (mv a b x y i k s).2) (false,(mv a b x y i k s).2)) (false,s)
end
def kY (l:List Node):Prop:=∀ n∈l,Dt n=true
theorem Zb1 {n:Node} (h:Dt n=true):K1 n=(ar n:Int):=(Zv3 (Zc9 h).1).symm
theorem Zmt:∀ {l:List Node} {o k:Nat},kY l→1≤o→Af ar l o=some k→Zju l o=k
 | [],o+1,k,_,_,h=>by simp [Af] at h
 | n::l,o+1,k,hn,_,h=>by
  rw [Af,Option.map_eq_some_iff] at h;obtain ⟨k',h1,rfl⟩:=h;have hm:=Zb1 (hn n (by simp))
  have e:((o+1:Nat):Int)-1+K1 n=((o+ar n:Nat):Int):=by rw [hm];omega
  rw [Zju,e];by_cases hz:o+ar n=0
  ·rw [if_pos (by omega)]
   rw [hz] at h1;cases l<;>(simp only [Af,Zc] at h1;omega)
  ·rw [if_neg (by omega),Zmt (fun m hm=>hn m (List.mem_cons_of_mem _ hm)) (by omega) h1]
   omega
theorem Zsc {l:List Node} {i:Nat} (h:kY l):kY (l.drop i):=fun n hn=>h n (List.mem_of_mem_drop hn)
theorem Zve {t:List Node} {i:Nat} {x:Rose Node} (hn:kY t) (h:At ar t i x):Zju (t.drop i) 1=(nds x).length:=Zmt (o:=1) (Zsc hn) (Zl _) (Zre h)
theorem Zxg {t:List Node} {i:Nat} {x:Rose Node} (hn:kY t) (h:At ar t i x):iS t i=((i+(nds x).length:Nat):Int):=by
 unfold iS;have:=h.lt;rw [if_neg (by omega),Zf,Zve hn h]
 simp
theorem gL {t:List Node} (hn:kY t):∀ {ks:List (Rose Node)} {q:Nat},Zv9 ar t q ks→Yt t ks.length q=Cu q ks
 | [],_,_=>rfl
 | x::ks,q,h=>by
  have hx:=h.head;rw [Zj,Yt,if_pos hx.1.lt,Zve hn hx.1,Cu,gL hn hx.2]
theorem Zux {t:List Node} {i:Nat} {x:Rose Node} (hn:kY t) (h:At ar t i x):D1 t i=Cu (i+1) x.kids:=by
 unfold D1;have hl:=h.lt;have hk:=h.kids;have hm:=Zb1 (hn (t.getD i n0) (by simp [hl]))
 rw [if_neg (by omega)]
 simp only [Zf];rw [show (⟨0,[],0⟩:Node)=n0 from rfl,hm,h.root n0,Zf,←hk.2,gL hn hk.1]
def O1 (r d:Nat):Bool:=decide (r+d≤100)
theorem Zed {r d:Nat} (h:r+d≤100):O1 r d=true:=decide_eq_true h
theorem lO {r d:Nat} (h:¬ r+d≤100):O1 r d=false:=decide_eq_false h
theorem Zxi {r d r' d':Nat} (h:r+d=r'+d'):O1 r d=O1 r' d':=by unfold O1;rw [h]
mutual
theorem shal_tree:∀ (x:Rose Node) (l:List Node) (rs:List Int),wf ar x→kY (nds x)→nR (nds x++l) rs=(O1 rs.length (depth x)&&nR l (Io 0 rs))
 | mk n ks,l,rs,hw,hn=>by
  have hm:=Zb1 (hn n (by simp [nds]))
  rw [Rp,List.cons_append,nR,hm,←hw.1];cases ks with
  | nil =>
   have hd:depth (mk n [])=1:=by simp [depth,depths]
   rw [hd];simp only [ndss,List.nil_append,List.length_nil];by_cases h:100≤rs.length
   ·rw [if_pos h,lO (by omega)];rfl
   ·rw [if_neg h,Zed (by omega)];rfl
  | cons y ys =>
   have hd:depth (mk n (y::ys))=1+depths (y::ys):=by rw [depth]
   rw [hd,aL (by simp only [Zj];omega),shal_forest (y::ys) l rs (by simp) hw.2 (fun m hm=>hn m (by rw [Rp];exact List.mem_cons_of_mem _ hm))]
   by_cases h:100≤rs.length
   ·rw [if_pos h,lO (by omega)];rfl
   ·rw [if_neg h]
theorem shal_forest:∀ (xs:List (Rose Node)) (l:List Node) (rs:List Int),xs≠[]→wfs ar xs→kY (ndss xs)→nR (ndss xs++l) ((xs.length:Int)::rs)=(O1 rs.length (1+depths xs)&&nR l (Io 0 rs))
 | [],_,_,h,_,_=>absurd rfl h
 | x::ts,l,rs,_,hw,hn=>by
  have h0:=shal_tree x;cases ts with
  | nil =>
   simp only [ndss,List.append_nil] at hn ⊢;have hd:depths [x]=depth x:=by simp [depths]
   rw [h0 l _ hw.1 hn,hd];simp only [Zj,List.length_nil];rw [Zxi (r:=rs.length+1) (d:=depth x) (r':=rs.length) (d':=1+depth x) (by omega)]
   rfl
  | cons y ts =>
   have h2:=shal_forest (y::ts) l rs (by simp) hw.2 (fun m hm=>hn m (by rw [ndss];exact List.mem_append_right _ hm))
   rw [ndss,List.append_assoc,h0 _ _ hw.1 (fun m hm=>hn m (by rw [ndss];exact List.mem_append_left _ hm))]
   have e:Io 0 ((((x::y::ts).length:Nat):Int)::rs)=(((y::ts).length:Nat):Int)::rs:=by
    rw [Io,if_pos rfl,show (((x::y::ts).length:Nat):Int)-1=(((y::ts).length:Nat):Int) by simp only [Zj];omega,aL (by simp only [Zj];omega)]
   have hd:depths (x::y::ts)=max (depth x) (depths (y::ts)):=by rw [depths]
   rw [e,h2,hd];simp only [Zj];by_cases h1:rs.length+1+depth x≤100
   ·rw [Zed h1,Bool.true_and];by_cases h2:rs.length+(1+depths (y::ts))≤100
    ·rw [Zed h2,Zed (r:=rs.length) (d:=1+max (depth x) (depths (y::ts))) (by omega)]
    ·rw [lO h2,lO (r:=rs.length) (d:=1+max (depth x) (depths (y::ts))) (by omega)]
   ·rw [lO h1,lO (r:=rs.length) (d:=1+max (depth x) (depths (y::ts))) (by omega)]
    rfl
end
theorem Zfh {x:Rose Node} (hw:wf ar x) (hn:kY (nds x)):Cm (nds x)=O1 0 (depth x):=by
 have:=shal_tree x [] [] hw hn;simp only [List.append_nil,List.length_nil] at this;unfold Cm;rw [this,nR];simp
def Zym (n:Node) (ks:List (Rose Node)):Bool:=(List.range ks.length).all fun k=>Zov n (ks.getD k (mk n0 [])).root (ks.getD (k-1) (mk n0 [])).root (Yi 0 k) ((k:Int)==(ks.length:Int)-1)
mutual
def labT:Rose Node→Bool
 | mk n ks=>Zym n ks&&labTs ks
def labTs:List (Rose Node)→Bool
 | []=>true
 | x::xs=>labT x&&labTs xs
end
theorem Zxa {t:List Node} {i:Nat} {x:Rose Node} (hn:kY t) (h:At ar t i x):eK t i=Zym x.root x.kids:=by
 have hk:=h.kids;have hl:=h.lt;have hm:=Zb1 (hn (t.getD i n0) (by simp [hl]))
 have hr:=h.root n0;unfold eK;rw [Zux hn h,eA,hr];rw [hr] at hm;rw [hm,hk.2];rw [show ((ar x.root:Int)==(ar x.root:Int))=true by simp,Bool.true_and]
 unfold Zym;rw [hk.2];apply Bool.eq_iff_iff.2;simp only [List.all_eq_true,List.mem_range];have key:∀ k,k<x.kids.length→Fj t (Cu (i+1) x.kids) k=(x.kids.getD k (mk n0 [])).root:=by
  intro k hk';unfold Fj;rw [Zhi _ _ k hk',Zf];have:=(Zv0 hk.1 hk').root n0;rw [this];simp [hk']
 have e:∀ k,k<ar x.root→dC t i (Cu (i+1) x.kids) k=Zov x.root (x.kids.getD k (mk n0 [])).root (x.kids.getD (k-1) (mk n0 [])).root (Yi 0 k) ((k:Int)==(ar x.root:Int)-1):=by
  intro k hk';unfold dC;rw [hr,key k (by omega),key (k-1) (by omega),eA,hk.2]
 constructor
 ·intro g k hk';rw [←e k hk'];exact g k hk'
 ·intro g k hk';rw [e k hk'];exact g k hk'
mutual
theorem labT_at {t:List Node} (hn:kY t):∀ {x:Rose Node} {i:Nat},At ar t i x→(labT x=true↔∀ j,i≤j→j<i+(nds x).length→eK t j=true)
 | mk n ks,i,h=>by
  have h1:=Zxa hn h;have hk:Zv9 ar t (i+1) ks:=h.kids.1;rw [labT,Zk,labTs_at hn hk,Rp,Zj];simp only [root,kids] at h1 ⊢;constructor
  ·rintro ⟨g1,g2⟩ j hj1 hj2;by_cases hji:j=i
   ·subst hji;rw [h1];exact g1
   ·exact g2 j (by omega) (by omega)
  ·intro g;exact ⟨by rw [←h1];exact g i (Zl _) (by omega),fun j hj1 hj2=>g j (by omega) (by omega)⟩
theorem labTs_at {t:List Node} (hn:kY t):∀ {xs:List (Rose Node)} {i:Nat},Zv9 ar t i xs→(labTs xs=true↔∀ j,i≤j→j<i+(ndss xs).length→eK t j=true)
 | [],i,_=>by simp only [labTs,ndss,List.length_nil,true_iff];intro j h1 h2;omega
 | x::xs,i,h=>by
  rw [labTs,Zk,labT_at hn h.head.1,labTs_at hn h.head.2];simp only [ndss,Zh];constructor
  ·rintro ⟨g1,g2⟩ j hj1 hj2;rcases Nat.lt_or_ge j (i+(nds x).length) with hlt|hge
   ·exact g1 j hj1 hlt
   ·exact g2 j hge (by omega)
  ·intro g;exact ⟨fun j hj1 hj2=>g j hj1 (by omega),fun j hj1 hj2=>g j (by omega) (by omega)⟩
end
structure RT (x:Rose Node):Prop where
 wf:wf ar x
 numb:kY (nds x)
 depth:depth x≤100
 lab:labT x=true
 name:x.root.name=[]
 kind:x.root.kind≠9
 len:(nds x).length≤10000
theorem Zry {x:Rose Node} (h:RT x):Y6 (nds x)=true:=by
 have ha:=Zv1 h.wf;have hp:=Zb0 x;have hr:=ha.root n0;unfold Y6;have h1:Bj (nds x)=false:=by
  unfold Bj;rw [hr,h.name];have e1:((nds x).length==0)=false:=by rw [Za];omega
  have e2:Yi 10000 ((nds x).length:Int)=false:=by rw [Q9];have:=h.len;omega
  have e3:(x.root.kind==9)=false:=by rw [Za];exact h.kind
  rw [e1,e2,e3];rfl
 have h2:(nds x).all Dt=true:=List.all_eq_true.2 h.numb;have h3:iS (nds x) 0=((nds x).length:Int):=by have:=Zxg h.numb ha;simpa using this
 have h4:Cm (nds x)=true:=by rw [Zfh h.wf h.numb];exact Zed (by have:=h.depth;omega)
 have h5:((List.range (nds x).length).all fun i=>eK (nds x) i)=true:=Mj fun j hj=>(labT_at h.numb ha).1 h.lab j (Nat.zero_le _) (by omega)
 rw [h1,h2,h3,h4,h5];simp
def nC (a:List Node) (s:MS) (i:Nat):List Node:=s.out.getD []++(a.take i).drop s.done
def G3 {A B:Type} [Enc A] [Enc B] [Sz B] (p:A→Prop) (f:A→List B):Con:=⟨[false],[true],fun c=>match c with
 | [.d x]=>K3 A x∧p (dec x)
 | _=>False,fun c=>match c with
 | [.d x]=>.own (Sz.sz B) ((f (dec x)).map enc)
 | _=>.d .nilp⟩
theorem Wt:type_of% @G3.eq_def:=@G3.eq_def
theorem cY {A B:Type} [Enc A] [Enc B] [Sz B] {p:A→Prop} {f:A→List B} {c:List CV} (h:(G3 p f).pre c):∃ a,c=[.d (enc a)]∧p a:=by
 unfold G3 at h;simp only at h;split at h
 ·next x=>exact ⟨dec x,by rw [←h.1],h.2⟩
 ·exact h.elim
def Qds:List Node→List Node
 | []=>[]
 | n::r=>⟨n.kind,[],n.n⟩::r
def n5:Node:=⟨5,[],0⟩
def Uk {A B R S:Type} [Enc A] [Enc B] [Enc R] [Enc S] (p:A→Prop) (f:A→B×R×S):Con:=⟨[false],[false,false,false],fun c=>match c with
 | [.d x]=>K3 A x∧p (dec x)
 | _=>False,fun c=>match c with
 | [.d x]=>.tup [.d (enc (f (dec x)).1),.d (enc (f (dec x)).2.1),.d (enc (f (dec x)).2.2)]
 | _=>.d .nilp⟩
theorem X0:type_of% @Uk.eq_def:=@Uk.eq_def
theorem Zer {A B R S:Type} [Enc A] [Enc B] [Enc R] [Enc S] {p:A→Prop} {f:A→B×R×S} {c:List CV} (h:(Uk p f).pre c):∃ a,c=[.d (enc a)]∧p a:=by
 unfold Uk at h;simp only at h;split at h
 ·next x=>exact ⟨dec x,by rw [←h.1],h.2⟩
 ·exact h.elim
def Y3 {A R S:Type} [Enc A] [Enc R] [Enc S] (p:A→Prop) (f:A→R×S):Con:=⟨[false],[false,false],fun c=>match c with
 | [.d x]=>K3 A x∧p (dec x)
 | _=>False,fun c=>match c with
 | [.d x]=>.tup [.d (enc (f (dec x)).1),.d (enc (f (dec x)).2)]
 | _=>.d .nilp⟩
theorem Jp:type_of% @Y3.eq_def:=@Y3.eq_def
theorem Zic {A R S:Type} [Enc A] [Enc R] [Enc S] {p:A→Prop} {f:A→R×S} {c:List CV} (h:(Y3 p f).pre c):∃ a,c=[.d (enc a)]∧p a:=by
 unfold Y3 at h;simp only at h;split at h
 ·next x=>exact ⟨dec x,by rw [←h.1],h.2⟩
 ·exact h.elim
def Nw (ks:List (Rose Node)):List (Sl Node):=ks.map fun k=>Sl.mk (Qds (nds k))
def Yf {α:Type} (p:α→Bool) (l:List α):Int:=match l.findIdx? p with
 | some i=>(i:Int)
 | none=>-1
theorem hK {α:Type} {p:α→Bool} {l:List α} {k:Nat} (d:α) (hk:k<l.length) (hno:∀ j,j<k→p (l.getD j d)=false) (hp:p (l.getD k d)=true):Yf p l=k:=by
 have h:l.findIdx? p=some k:=by
  rw [List.findIdx?_eq_some_iff_getElem];refine ⟨hk,by simpa [hk] using hp,fun j hj=>?_⟩
  have:=hno j hj;simpa [show j<l.length by omega] using this
 unfold Yf;rw [h]
theorem Fl {α:Type} {p:α→Bool} {l:List α} (d:α) (hno:∀ j,j<l.length→p (l.getD j d)=false):Yf p l=-1:=by
 have h:l.findIdx? p=none:=by
  rw [List.findIdx?_eq_none_iff];intro x hx;obtain ⟨j,hj,rfl⟩:=List.getElem_of_mem hx;have:=hno j hj;simpa [hj] using this
 unfold Yf;rw [h]
theorem iQ {α:Type} {p:α→Bool} {l:List α}:Wf 0 (Yf p l)=l.any p:=by
 unfold Yf;cases h:l.findIdx? p with
 | none =>
  rw [List.findIdx?_eq_none_iff] at h;have:l.any p=false:=by rw [List.any_eq_false];intro x hx;rw [h x hx];simp
  rw [this];rfl
 | some i =>
  rw [List.findIdx?_eq_some_iff_getElem] at h;obtain ⟨hi,hp,_⟩:=h;have:l.any p=true:=by rw [List.any_eq_true];exact ⟨_,List.getElem_mem hi,hp⟩
  rw [this];simp [Wf]
theorem less_not (x y:List UInt8):(Op.bytesLess x y||x==y)=!Op.bytesLess y x:=by
 rw [bytesLess_eq,bytesLess_eq,Bool.eq_iff_iff];simp only [Bool.or_eq_true,decide_eq_true_eq,Zm,Bool.not_eq_true',decide_eq_false_iff_not,List.not_lt];constructor
 ·rintro (h|rfl)
  ·exact List.le_of_lt h
  ·exact List.le_refl _
 ·intro h;rcases List.le_iff_lt_or_eq.1 h with h|h
  ·exact .inl h
  ·exact .inr h
theorem Zup (x:List UInt8):Op.bytesLess x []=false:=by
 rw [bytesLess_eq];simp
structure Part where
 kind:Int
 label:List UInt8
 name:List UInt8
 bind:List UInt8
 many:Int
 num:Int
 t:List Node
 u:List Node
 deriving DecidableEq
instance encPart:Enc Part:=⟨fun a=>.agg [.int .i64 a.kind,.str a.label,.str a.name,.str a.bind,.int .i64 a.many,.int .i64 a.num,.list 3 (a.t.map enc),.list 3 (a.u.map enc)],fun x=>match x with
 | .agg [a,b,c,d,e,f,g,h]=>⟨a.i,b.s,c.s,d.s,e.i,f.i,g.l.map dec,h.l.map dec⟩
 | _=>⟨0,[],[],[],0,0,[],[]⟩,fun a=>by
  have h:∀ l:List Node,(l.map (enc:Node→D)).map dec=l:=fun l=>J2;cases a;simp [D.l,D.i,D.s,h]⟩
instance szPart:Sz Part:=⟨8⟩
theorem Pe:Sz.sz Part=8:=rfl
theorem Qb {n:Part}:(enc n:D)=.agg [.int .i64 n.kind,.str n.label,.str n.name,.str n.bind,.int .i64 n.many,.int .i64 n.num,.list 3 (n.t.map enc),.list 3 (n.u.map enc)]:=rfl
theorem Qj {a:Int} {b c d:List UInt8} {e f:Int} {g h:List Node}:(dec (.agg [.int .i64 a,.str b,.str c,.str d,.int .i64 e,.int .i64 f,.list 3 (g.map enc),.list 3 (h.map enc)]):Part)=⟨a,b,c,d,e,f,g,h⟩:=Enc.dec_enc (Part.mk a b c d e f g h)
theorem Qi {a:Int} {b c d:List UInt8} {e f:Int} {g h:List Node}:K3 Part (.agg [.int .i64 a,.str b,.str c,.str d,.int .i64 e,.int .i64 f,.list 3 (g.map enc),.list 3 (h.map enc)])=True:=eq_true (Wg (Part.mk a b c d e f g h))
theorem Ql {n:Part}:Part.mk n.kind n.label n.name n.bind n.many n.num n.t n.u=n:=rfl
def e0:Part:=⟨0,[],[],[],0,0,[],[]⟩
def Zy7 (p:Part):Prop:=(p.t.length≤9223372036854775807∧Y5 p.t)∧(p.u.length≤9223372036854775807∧Y5 p.u)∧p.label.length≤9223372036854775807∧p.name.length≤9223372036854775807∧p.bind.length≤9223372036854775807
theorem Ks {p:Nat→Prop} {k:Nat} (h:∀ j,j<k→p j) (hk:p k):∀ j,j<k+1→p j:=fun j hj=>by
 rcases Nat.lt_or_ge j k with h1|h1
 ·exact h j h1
 ·have:j=k:=by omega
  exact this▸hk
def Yj (p:Part):Int :=
 if p.kind=2∨p.kind=8∨p.kind=11∨p.kind=12∨p.kind=13∨p.kind=14 then 1
 else if p.kind=3∨p.kind=4∨p.kind=5∨p.kind=9 then 2
 else if p.kind=6 then 3
 else if p.kind=7 then Zdf p.many 0+1
 else if p.kind=10 then Zdf p.many 0
 else 0
def Lj:Con:=Xj (fun (p:Part)=>p.many≤1000000) (fun p=>Yj p)
structure KaR:Prop
theorem KaR.k (_:KaR) (h:p:=by
 repeat' first|exact Z1|with_reducible apply Zb|intro _
 all_goals first|(rw [Xy,hmx];split<;>omega)|(unfold Yj;simp_all;done)):p:=h
theorem good_Many5:Qq Tryz.prog (140,Lj):=by
 obtain ⟨Kx,Kt,Kc,Kd,Kb,Ku,Kw,K,_⟩:=X2 Z4 Zq [] false X1;have Ko:=Lj.eq_def;refine Wh K Tryz.func140 [.tmp 2] rfl 30 rfl (fun c hc cvs hpre=>?_);unfold Lj at hpre;obtain ⟨p,rfl,hm⟩:=Jr hpre;have hmx:Zdf p.many 0=if p.many<0 then 0 else p.many:=rfl
 cases hc;have Qd:=@Qb;have Qe:=@Qi;have Z6:=@Qj;have Qa:=@Ql;have Qc:=@Pe;have Kq:KaR:=⟨⟩;exact L5
def Is:List Part→Int→Nat
 | [],_=>0
 | n::l,o=>if o-1+Yj n=0 then 1 else 1+Is l (o-1+Yj n)
def iR (t:List Part) (i:Int):Int:=if i<0∨(t.length:Int)≤i then -1 else i+Is (t.drop i.toNat) 1
def kJ (t:List Part):Prop:=t.length≤100000∧∀ n∈t,0≤Yj n∧Yj n≤60∧n.many≤1000000
def aQ:Con:=Wr (fun (t:Sl Part) (i:Int)=>kJ t.l∧Zhp .i64 i) (fun t i=>iR t.l i)
structure KaT:Prop
theorem KaT.k (_:KaT) (h:p:=by
 repeat' first|exact Z1|with_reducible apply Zb|intro _
 ·rename_i hz;rw [if_pos hz] at he;rw [e00];omega
 ·rename_i hz;rw [if_neg hz] at he;exact ⟨(k+1,o-1+Yj x),by exact Qk,by simp only;omega,by simp only;omega,by simp only;omega,by simp only;omega,by simp only;omega,by simp only;omega⟩):p:=h
structure KaU:Prop
theorem KaU.k (_:KaU) (h:p:=by
 rw [e00];omega):p:=h
structure KaS:Prop
theorem KaS.k (_:KaS) (h:p:=by
 repeat' first|exact Z1|with_reducible apply Zb|intro _
 ·unfold iR;rw [if_pos (.inr ‹_›)]
 ·obtain ⟨i,rfl⟩:∃ n:Nat,i=n:=⟨i.toNat,by omega⟩
  have hil:i<t.length:=by omega
  have e00:iR t i=i+Is (t.drop i) 1:=by
   unfold iR;rw [if_neg (by omega)]
   rfl
  refine Zi [4,16,17,18,19,20,21,22,23,24,25,26,27,28,29,30,31,32,33] (fun p:Nat×Int=>[(5,.d (.int .i64 p.2)),(6,.d (.int .i64 p.1))]) (fun p:Nat×Int=>[]) (fun p:Nat×Int=>i≤p.1∧p.1≤t.length∧1≤p.2∧p.2≤1+60*p.1∧i+Is (t.drop i) 1=p.1+Is (t.drop p.1) p.2) (fun p:Nat×Int=>t.length-p.1) (i,1) ?_ ?_ ?_
  ·exact ⟨Zl _,by simp only;omega,by simp,by simp only;omega,rfl⟩
  ·exact Qk
  rintro ⟨k,o⟩ ⟨h1,h2,h3,h4,h5⟩;simp only at h1 h2 h3 h4 h5;rcases Zn k t.length with ⟨hlt,Qd⟩|⟨hlt,Qd⟩
  ·have hmk:=hm (t.getD k e0) (by simp [hlt])
   have Qe:=Zr e0 hlt;have he:Is (t.drop k) o=if o-1+Yj (t.getD k e0)=0 then 1 else 1+Is (t.drop (k+1)) (o-1+Yj (t.getD k e0)):=by
    rw [List.drop_eq_getElem_cons hlt,Is];simp [hlt]
   obtain ⟨x,hx⟩:=exq (t.getD k e0);rw [hx] at hmk Qe he;have Z6:=@Qb;have Qa:=@Qi;have Qc:=@Qj;have Qh:=@Ql;have Qp:=@Pe;have Kq:KaT:=⟨⟩;exact L5
  ·have hd:t.drop k=[]:=List.drop_eq_nil_of_le hlt;rw [hd,Is] at h5;have Z6:=@Qb;have Qa:=@Qi;have Qc:=@Qj;have Qh:=@Ql;have Qp:=@Pe;have Kq:KaU:=⟨⟩;exact L5
 ·unfold iR;rw [if_pos (.inl ‹_›)]):p:=h
theorem good_End5:Qq Tryz.prog (141,aQ):=by
 obtain ⟨Kx,Kt,Kc,Kd,Kb,Ku,Kw,K,W4,_⟩:=X2 Z4 Zq [] false (Jh good_Many5 Lj.eq_def X1);have Ko:=aQ.eq_def;refine Wh K Tryz.func141 [.tmp 4] rfl 36 rfl (fun c hc cvs hpre=>?_);unfold aQ at hpre;obtain ⟨⟨t⟩,i,rfl,⟨ht,hm⟩,hi⟩:=Jv hpre;simp only at ht hm;rw [Xy] at hi;cases hc;refine Yv 2 ?_;have Z6:=@Qb;have Qa:=@Qi;have Qc:=@Qj;have Qh:=@Ql;have Qp:=@Pe;have Kq:KaS:=⟨⟩;exact L5
theorem Zq4:∀ (l:List Part) (o:Int),Is l o≤l.length
 | [],_=>Zl _
 | n::l,o=>by
  have:=Zq4 l (o-1+Yj n);simp only [Is,Zj];split<;>omega
def X8 (t:List Part):Nat→Nat→List Int
 | 0,_=>[]
 | m+1,at_=>if at_<t.length then (at_:Int)::X8 t m (at_+Is (t.drop at_) 1) else []
def L9 (t:List Part) (i:Int):List Int:=if i<0∨(t.length:Int)≤i then [] else X8 t (Yj (t.getD i.toNat e0)).toNat (i.toNat+1)
def Fs:Con:=Wr (fun (t:Sl Part) (i:Int)=>kJ t.l∧Zhp .i64 i) (fun t i=>Sl.mk (L9 t.l i))
structure KaW:Prop
theorem KaW.k (_:KaW) (h:p:=by
 repeat' first|exact Z1|with_reducible apply Zb|intro _
 refine ⟨(k+1,q+Is (t.drop q) 1,out++[(q:Int)]),by exact Qk,by simp only;omega,by simp only;omega,by simp [h3],?_,by simp only;omega⟩
 simp only;rw [←h4,show M-(k+1)=M-k-1 by omega]
 simp):p:=h
structure KaX:Prop
theorem KaX.k (_:KaX) (h:p:=by
 repeat' first|exact Z1|with_reducible apply Zb|intro _
 rw [e00,h4]):p:=h
structure KaY:Prop
theorem KaY.k (_:KaY) (h:p:=by
 repeat' first|exact Z1|with_reducible apply Zb|intro _
 rw [e00,h4]):p:=h
structure KaV:Prop
theorem KaV.k (_:KaV) (h:p:=by
 repeat' first|exact Z1|with_reducible apply Zb|intro _
 ·unfold L9;rw [if_pos (.inr ‹_›)];rfl
 ·obtain ⟨i,rfl⟩:∃ n:Nat,i=n:=⟨i.toNat,by omega⟩
  have hil:i<t.length:=by omega
  have hmi:=hm (t.getD i e0) (by simp [hil])
  have Qc:=Zr e0 hil;obtain ⟨M,Z6⟩:∃ M:Nat,Yj (t.getD i e0)=M:=⟨(Yj (t.getD i e0)).toNat,by omega⟩
  have e00:L9 t i=X8 t M (i+1):=by
   unfold L9;rw [if_neg (by omega)]
   simp only [Zf,Z6]
  obtain ⟨x,hx⟩:=exq (t.getD i e0);rw [hx] at hmi Qc Z6;refine Zi [20,21,22,23,24,25,26,27,28,29,30,31,32,33,34,35,36,37,38,39,40,41] (fun p:Nat×Nat×List Int=>[(5,.sl 8 (p.2.2.map enc).length),(6,.d (.int .i64 p.2.1)),(7,.d (.int .i64 p.1))]) (fun p:Nat×Nat×List Int=>[(8,.row 1 (p.2.2.map enc) 0)]) (fun p:Nat×Nat×List Int=>p.1≤M∧p.2.1≤t.length∧p.2.2.length=p.1∧p.2.2++X8 t (M-p.1) p.2.1=X8 t M (i+1)) (fun p:Nat×Nat×List Int=>M-p.1) (0,i+1,[]) ?_ ?_ ?_
  ·exact ⟨Nat.zero_le _,hil,rfl,rfl⟩
  ·exact Qk
  rintro ⟨k,q,out⟩ ⟨h1,h2,h3,h4⟩;simp only at h1 h2 h3 h4;rcases Zn k M with ⟨hk,Qd⟩|⟨hk,Qd⟩
  ·rcases Zn q t.length with ⟨hq,Qe⟩|⟨hq,Qe⟩
   ·have e1:M-k=(M-k-1)+1:=by omega
    rw [e1,X8,if_pos hq] at h4;have hle:=Zq4 (t.drop q) 1;rw [List.length_drop] at hle;have Qa:iR t q=((q+Is (t.drop q) 1:Nat):Int):=by
     unfold iR;rw [if_neg (by omega)]
     simp
    have hT:kJ t:=⟨ht,hm⟩;have Qh:=@Qb;have Qp:=@Qi;have Qz:=@Qj;have Qv:=@Ql;have Q4:=@Pe;have Kq:KaW:=⟨⟩;exact L5
   ·have hz:X8 t (M-k) q=[]:=by
     cases hc:M-k with
     | zero=>rfl
     | succ c=>rw [X8,if_neg (by omega)]
    rw [hz,List.append_nil] at h4;have Qh:=@Qb;have Qp:=@Qi;have Qz:=@Qj;have Qv:=@Ql;have Q4:=@Pe;have Kq:KaX:=⟨⟩;exact L5
  ·have hz:X8 t (M-k) q=[]:=by
    rw [show M-k=0 by omega]
    rfl
   rw [hz,List.append_nil] at h4;have Qh:=@Qb;have Qp:=@Qi;have Qz:=@Qj;have Qv:=@Ql;have Q4:=@Pe;have Kq:KaY:=⟨⟩;exact L5
 ·unfold L9;rw [if_pos (.inl ‹_›)];rfl):p:=h
theorem good_Kids5:Qq Tryz.prog (102,Fs):=by
 obtain ⟨Kx,Kt,Kc,Kd,Kb,Ku,Kw,K,W4,Gd,_⟩:=X2 Z4 Zq [] false (Jh good_Many5 Lj.eq_def (Jh good_End5 aQ.eq_def X1));have Ko:=Fs.eq_def;refine Wh K Tryz.func102 [.tmp 4] rfl 43 rfl (fun c hc cvs hpre=>?_);unfold Fs at hpre;obtain ⟨⟨t⟩,i,rfl,⟨ht,hm⟩,hi⟩:=Jv hpre;simp only at ht hm;rw [Xy] at hi;cases hc;refine Yv 2 ?_;have Qh:=@Qb;have Qp:=@Qi;have Qz:=@Qj;have Qv:=@Ql;have Q4:=@Pe;have Kq:KaV:=⟨⟩;exact L5
def Zww:List (List UInt8):=[[43],[45],[42],[47],[60],[61,61],[38,38],[124,124],[43,43]]
def Qao (s:List UInt8):Bool:=Zww.any fun o=>o==s
theorem Zwv:([.str [43],.str [45],.str [42],.str [47],.str [60],.str [61,61],.str [38,38],.str [124,124],.str [43,43]]:List D)=Zww.map enc:=rfl
theorem Zni:∀ {l:List (List UInt8)},E3 1 (l.map enc)=True
 | []=>rfl
 | x::l=>by
  show (D.fits 1 (.str x)∧E3 1 (l.map enc))=True;rw [Zni,and_true];exact eq_true rfl
def Zb7:Con:=Xj (fun (_:List UInt8)=>True) (fun s=>Qao s)
structure Kba:Prop
theorem Kba.k (_:Kba) (h:p:=by
 repeat' first|exact Z1|with_reducible apply Zb|intro _
 all_goals first|with_reducible exact Qo|omega|exact ⟨k+1,by exact Qk,by omega,h2,by omega⟩|skip):p:=h
structure KaZ:Prop
theorem KaZ.k (_:KaZ) (h:p:=by
 repeat' first|exact Z1|with_reducible apply Zb|intro _
 ·cases l with
  | nil=>trivial
  | cons x l=>exact ⟨rfl,of_eq_true Zni⟩
 refine Zi [2,6,7,8,9,10,11,12,13,14,15,16,17] (fun k:Nat=>[(4,.d (.int .i64 k))]) (fun k:Nat=>[]) (fun k:Nat=>k≤9∧∀ j,j<k→l.getD j []≠s) (fun k:Nat=>9-k) 0 ?_ ?_ ?_
 ·simp
 ·exact Qk
 rintro k ⟨hk,hno⟩;by_cases hlt:k<9
 ·have Z6:Yi (k:Int) 9=true:=by rw [Xa];omega
  have Qa:=Zr ([]:List UInt8) (show k<l.length by omega)
  have hst:l.getD k []≠s→∀ j,j<k+1→l.getD j []≠s:=fun h=>Ks hno h;have hit:(l.getD k []==s)=true→R=true:=fun h=>by rw [←hR2];exact A8 (p:=fun o=>o==s) [] k (by omega) h
  obtain ⟨y,hy⟩:=exq (l.getD k []);rw [hy] at Qa hst hit;cases Qc:(y==s) with
  | true =>
   have hr:=hit Qc;subst hr;exact Zzd
  | false =>
   have h2:=hst (Za.1 Qc);have Kq:Kba:=⟨⟩;exact L5
 ·have Z6:Yi (k:Int) 9=false:=by rw [Q9];omega
  have hr:R=false:=by rw [←hR2];exact Ly (p:=fun o=>o==s) [] fun j hj=>Za.2 (hno j (by omega))
  subst hr;exact Zzd):p:=h
theorem good_op5:Qq Tryz.prog (190,Zb7):=by
 obtain ⟨Kx,Kt,Kc,Kd,Kb,Ku,Kw,K,_⟩:=X2 Z4 Zq [] false X1;have Ko:=Zb7.eq_def;refine Wh K Tryz.func190 [.tmp 2] rfl 18 rfl (fun c hc cvs hpre=>?_);unfold Zb7 at hpre;obtain ⟨s,rfl,-⟩:=Jr hpre;obtain ⟨R,Qh⟩:=exq (Qao s);have hR2:=Qh;unfold Qao at hR2;have hl:Zww.length=9:=rfl;have Qd:=Zwv;obtain ⟨l,hll⟩:=exq (Zww);rw [hll] at hR2 hl Qd;have Qe:(l.length:Int)=9:=by rw [hl];rfl
 cases hc;have Kq:KaZ:=⟨⟩;exact L5
def Zpg:List UInt8→Option Nat
 | []=>none
 | c::s=>if c=33 then some 0 else (Zpg s).map (·+1)
theorem Zq8:∀ {s:List UInt8} {k:Nat},k<s.length→(∀ j,j<k→s.getD j 0≠33)→s.getD k 0=33→Zpg s=some k
 | [],k,h,_,_=>by simp at h
 | c::s,0,_,_,h=>by
  simp only [List.getD_cons_zero] at h;simp [Zpg,h]
 | c::s,k+1,h,hno,hk=>by
  have h0:=hno 0 (by omega)
  simp only [List.getD_cons_zero] at h0;rw [Zpg,if_neg h0,Zq8 (k:=k) (by simpa using h) (fun j hj=>by simpa using hno (j+1) (by omega)) (by simpa using hk)]
  rfl
theorem Zh8:∀ {s:List UInt8},(∀ j,j<s.length→s.getD j 0≠33)→Zpg s=none
 | [],_=>rfl
 | c::s,hno=>by
  have h0:=hno 0 (by simp)
  simp only [List.getD_cons_zero] at h0;rw [Zpg,if_neg h0,Zh8 fun j hj=>by simpa using hno (j+1) (by simpa using hj)]
  rfl
def Zll (s:List UInt8):Bool:=match Zpg s with
 | some k=>Yo (s.take k)&&Yo (s.drop (k+1))
 | none=>Yo s
theorem Zxt {c:UInt8}:((c.toNat:Int)==33)=true↔c=33:=by
 rw [Zm];constructor
 ·intro h;have:c.toNat=33:=by omega
  exact UInt8.toNat_inj.1 (by rw [this];rfl)
 ·rintro rfl;rfl
def bH:Con:=Xj (fun (s:List UInt8)=>s.length≤9223372036854775806) (fun s=>Zll s)
structure Kbc:Prop
theorem Kbc.k (_:Kbc) (h:p:=by
 repeat' first|exact Z1|with_reducible apply Zb|intro _
 all_goals first|with_reducible exact Qo|omega|exact ⟨k+1,by exact Qk,by omega,h2,by omega⟩|skip):p:=h
structure Kbb:Prop
theorem Kbb.k (_:Kbb) (h:p:=by
 repeat' first|exact Z1|with_reducible apply Zb|intro _
 refine Zi [2,4,5,6,7,8,9,10,11,12,13,14,15,16,17,18,19,20,21,22,23,24] (fun k:Nat=>[(3,.d (.int .i64 k))]) (fun k:Nat=>[]) (fun k:Nat=>k≤s.length∧∀ j,j<k→s.getD j 0≠33) (fun k:Nat=>s.length-k) 0 ?_ ?_ ?_
 ·simp
 ·exact Qk
 rintro k ⟨hk,hno⟩;rcases Zn k s.length with ⟨hlt,Qd⟩|⟨hlt,Qd⟩
 ·have hst:s.getD k 0≠33→∀ j,j<k+1→s.getD j 0≠33:=fun h=>Ks hno h;have hit:s.getD k 0=33→R=(Yo (s.take k)&&Yo (s.drop (k+1))):=fun h=>by
   rw [Zq8 hlt hno h] at hR2;exact hR2.symm
  obtain ⟨y,Qe⟩:=exq (s.getD k 0);rw [Qe] at hst hit;have Qc:(k:Int)+1=((k+1:Nat):Int):=rfl;cases Z6:((y.toNat:Int)==33) with
  | true =>
   have hr:=hit (Zxt.1 Z6);have l1:(s.take k).length≤9223372036854775807:=by rw [List.length_take];omega
   have l2:(s.drop (k+1)).length≤9223372036854775807:=by rw [List.length_drop];omega
   obtain ⟨w1,Qa⟩:=exq (Yo (s.take k));obtain ⟨w2,Qh⟩:=exq (Yo (s.drop (k+1)));rw [Qa,Qh] at hr;cases w1 with
   | true =>
    rw [Bool.true_and] at hr;subst hr;exact Zzd
   | false =>
    rw [Bool.false_and] at hr;subst hr;exact Zzd
  | false =>
   have h2:=hst (fun e=>by rw [Zxt.2 e] at Z6;cases Z6)
   have Kq:Kbc:=⟨⟩;exact L5
 ·have hr:R=Yo s:=by
   rw [Zh8 fun j hj=>hno j (by omega)] at hR2
   exact hR2.symm
  subst hr;exact Zzd):p:=h
theorem good_name5:Qq Tryz.prog (189,bH):=by
 obtain ⟨Kx,Kt,Kc,Kd,Kb,Ku,Kw,K,W4,_⟩:=X2 Z4 Zq [] false (Jh good_IsWord1 Dk X1);have Ko:=bH.eq_def;refine Wh K Tryz.func189 [.tmp 2] rfl 27 rfl (fun c hc cvs hpre=>?_);unfold bH at hpre;obtain ⟨s,rfl,hs⟩:=Jr hpre;obtain ⟨R,Qp⟩:=exq (Zll s);have hR2:=Qp;unfold Zll at hR2;cases hc;have Kq:Kbb:=⟨⟩;exact L5
def kT (t:List Node):Bool:=Y6 t&&I8 t
def An:Con:=Xj (fun (t:Sl Node)=>t.l.length≤9223372036854775807∧Y5 t.l) (fun t=>kT t.l)
structure Kbd:Prop
theorem Kbd.k (_:Kbd) (h:p:=by
 repeat' first|exact Z1|with_reducible apply Zb|intro _
 all_goals (unfold kT;simp_all)):p:=h
theorem good_plain5:Qq Tryz.prog (187,An):=by
 obtain ⟨Kx,Kt,Kc,Kd,Kb,Ku,Kw,K,W4,Gd,_⟩:=X2 Z4 Zq [] false (Jh good_Right3 Dc.eq_def (Jh good_Plain3 Az.eq_def X1));have Ko:=An.eq_def;refine Wh K Tryz.func187 [.tmp 2] rfl 9 rfl (fun c hc cvs hpre=>?_);unfold An at hpre;obtain ⟨⟨t⟩,rfl,ht,hN⟩:=Jr hpre;simp only at ht hN;cases hc;have Kq:Kbd:=⟨⟩;exact L5
def Zuo (p:Part) (n:Node):Bool :=
 if p.t.length≠1∨n.name≠[]∨n.n≠0∨p.num<0∨999999999999999999<p.num then false
 else if n.kind=1 then p.name==[]
 else if n.kind=2 then p.name==[]&&Yi p.num 2
 else if n.kind=3 then p.num==0
 else if n.kind=4 then p.name==[]&&p.num==0
 else false
def Oi (p:Part):Bool:=Zuo p (p.t.getD 0 n0)
def Tv:Con:=Xj (fun (p:Part)=>Zy7 p) (fun p=>Oi p)
structure Kbe:Prop
theorem Kbe.k (_:Kbe) (h:p:=by
 repeat' first|exact Z1|with_reducible apply Zb|intro _
 all_goals first|omega|(symm;rw [←hR2];clear hR2 Z6;unfold Zuo;simp_all;done)|(symm;rw [←hR2];clear hR2 Z6;unfold Zuo;simp_all;omega)|(symm;rw [←hR2];clear hR2 Z6;unfold Zuo;rw [if_neg (by simp_all;omega)];simp_all [Yi];done)|skip):p:=h
theorem good_literal5:Qq Tryz.prog (188,Tv):=by
 obtain ⟨Kx,Kt,Kc,Kd,Kb,Ku,Kw,K,_⟩:=X2 Z4 Zq [] false X1;have Ko:=Tv.eq_def;refine Wh K Tryz.func188 [.tmp 2] rfl 68 rfl (fun c hc cvs hpre=>?_);unfold Tv at hpre;obtain ⟨p,rfl,hF⟩:=Jr hpre;clear hpre;obtain ⟨R,Z6⟩:=exq (Oi p);have hR2:=Z6;unfold Oi at hR2;cases hc;refine Yv 4 ?_;by_cases h1:p.t.length=1
 ·have Qd:((p.t.length:Int) != 1)=false:=by rw [bne_eq_false_iff_eq];omega
  have Qe:=Zr n0 (show 0<p.t.length by omega)
  obtain ⟨x,hx⟩:=exq (p.t.getD 0 n0);rw [hx] at Qe hR2;clear hx;have Qa:=@Qb;have Qc:=@Qi;have Qh:=@Qj;have Qp:=@Ql;have Qz:=@Pe;have Kq:Kbe:=⟨⟩;exact L5
 ·have Qd:((p.t.length:Int) != 1)=true:=by rw [bne_iff_ne];omega
  unfold Zuo at hR2;rw [if_pos (.inl h1)] at hR2;subst hR2;have Qa:=@Qb;have Qc:=@Qi;have Qh:=@Qj;have Qp:=@Ql;have Qz:=@Pe;exact Qdr
end Go.Am.Ty
