/- Contracts of functions that the law reaches, and plain laws. Conditions: those that each contract states. -/
import Derived.Test.YtilpfkjhahnfaaaGreatH4
import Derived.Test.YtilpfkjhahnfaaaGreatChecked
set_option maxHeartbeats 1000000
set_option linter.unusedVariables false
set_option linter.unusedSimpArgs false
variable {p:Prop}
set_option maxRecDepth 100000
namespace Go.Am
open Enc (enc dec)
theorem Zll:type_of% @dQ.eq_def:=@dQ.eq_def
theorem Zlk:type_of% @kW.eq_def:=@kW.eq_def
theorem Zlj:type_of% @H9.eq_def:=@H9.eq_def
theorem Zli:type_of% @Xk.eq_def:=@Xk.eq_def
theorem Zlh:type_of% @AS.put.eq_def:=@AS.put.eq_def
theorem Zlg:type_of% @kV.eq_def:=@kV.eq_def
theorem Zlf:type_of% @uP.eq_def:=@uP.eq_def
theorem Zle:type_of% @Ctx.one.eq_def:=@Ctx.one.eq_def
theorem Zld:type_of% @S9.eq_def:=@S9.eq_def
theorem Zlc:type_of% @Jl.eq_def:=@Jl.eq_def
theorem Zlb:type_of% @Zap.eq_def:=@Zap.eq_def
theorem Zla:type_of% @F5.eq_def:=@F5.eq_def
theorem Zk9:type_of% @Fk.eq_def:=@Fk.eq_def
theorem Zk8:type_of% @Ctx.esize.eq_def:=@Ctx.esize.eq_def
theorem Zk7:type_of% @Ctx.size.eq_def:=@Ctx.size.eq_def
theorem Zk6:type_of% @Ctx.ag.eq_def:=@Ctx.ag.eq_def
theorem Zk5:type_of% @TK.ag.eq_def:=@TK.ag.eq_def
theorem Zk4:type_of% @Ctx.elemT.eq_def:=@Ctx.elemT.eq_def
theorem Zk3:type_of% @Ctx.fieldAt.eq_def:=@Ctx.fieldAt.eq_def
theorem Zk2:type_of% @Ztj.eq_def:=@Ztj.eq_def
theorem Zk1:type_of% @Ay.eq_def:=@Ay.eq_def
theorem Zk0:type_of% @dO.eq_def:=@dO.eq_def
theorem Zkz:type_of% @fJ.eq_def:=@fJ.eq_def
theorem Zky:type_of% @Nh.eq_def:=@Nh.eq_def
theorem Zkx:type_of% @aZ.eq_def:=@aZ.eq_def
theorem Zkw:type_of% @Ng.eq_def:=@Ng.eq_def
theorem Zkv:type_of% @aQ.eq_def:=@aQ.eq_def
theorem Zku:type_of% @fY.eq_def:=@fY.eq_def
theorem Zkt:type_of% @Ni.eq_def:=@Ni.eq_def
theorem Zks:type_of% @fV.eq_def:=@fV.eq_def
theorem Zkr:type_of% @Mt.eq_def:=@Mt.eq_def
theorem Zkq:type_of% @Hz.eq_def:=@Hz.eq_def
theorem Zkp:type_of% @Ax.eq_def:=@Ax.eq_def
theorem Zko:type_of% @Znz.eq_def:=@Znz.eq_def
theorem Zkn:type_of% @Zq2.eq_def:=@Zq2.eq_def
theorem Zkm:type_of% @Zq3.eq_def:=@Zq3.eq_def
theorem Zkl:type_of% @dP.eq_def:=@dP.eq_def
theorem Zkk:type_of% @S6.eq_def:=@S6.eq_def
theorem Zkj:type_of% @iK.eq_def:=@iK.eq_def
theorem Zki:type_of% @sD.eq_def:=@sD.eq_def
theorem Zkh:type_of% @lR.eq_def:=@lR.eq_def
theorem Zkg:type_of% @Qd6.eq_def:=@Qd6.eq_def
theorem Zkf:type_of% @Vf.eq_def:=@Vf.eq_def
theorem Zke:type_of% @gK.eq_def:=@gK.eq_def
theorem Zkd:type_of% @Lr.eq_def:=@Lr.eq_def
theorem Zkc:type_of% @xV.eq_def:=@xV.eq_def
theorem Zkb:type_of% @nW.eq_def:=@nW.eq_def
theorem Zka:type_of% @Znb.eq_def:=@Znb.eq_def
theorem Zj9:type_of% @Ztn.eq_def:=@Ztn.eq_def
theorem Zj8:type_of% @Fi.eq_def:=@Fi.eq_def
theorem Zj7:type_of% @AV.fits.eq_def:=@AV.fits.eq_def
theorem Zj6:type_of% @Obj.isBox.eq_def:=@Obj.isBox.eq_def
theorem Zj5:type_of% @Zmj.eq_def:=@Zmj.eq_def
theorem Zj4:type_of% @wR.eq_def:=@wR.eq_def
theorem Zj3:type_of% @Qca.eq_def:=@Qca.eq_def
theorem Zj2:type_of% @Zbr.eq_def:=@Zbr.eq_def
theorem Zj1:type_of% @I0.eq_def:=@I0.eq_def
theorem Zj0:type_of% @Qan.eq_def:=@Qan.eq_def
theorem Zjz:type_of% @Tq.eq_def:=@Tq.eq_def
theorem Zjy:type_of% @rk.eq_def:=@rk.eq_def
theorem Zjx:type_of% @oA.eq_def:=@oA.eq_def
theorem Zjw:type_of% @Zx9.eq_def:=@Zx9.eq_def
theorem Zjv:type_of% @xJ.eq_def:=@xJ.eq_def
theorem Zju:type_of% @qK.eq_def:=@qK.eq_def
theorem Zjt:type_of% @SK.is.eq_def:=@SK.is.eq_def
theorem Zjs:type_of% @wY.eq_def:=@wY.eq_def
theorem Zjr:type_of% @Zor.eq_def:=@Zor.eq_def
theorem Zjq:type_of% @AS.ev.eq_def:=@AS.ev.eq_def
theorem Zjp:type_of% @Jc.eq_def:=@Jc.eq_def
theorem Zjo:type_of% @Zbq.eq_def:=@Zbq.eq_def
theorem Zjn:type_of% @keysAll.eq_def:=@keysAll.eq_def
theorem Zjm:type_of% @AV.keys.eq_def:=@AV.keys.eq_def
theorem Zjl:type_of% @Ut.eq_def:=@Ut.eq_def
theorem Zjk:type_of% @Vs.eq_def:=@Vs.eq_def
theorem Zjj:type_of% @Mp.eq_def:=@Mp.eq_def
theorem Zji:type_of% @wJ.eq_def:=@wJ.eq_def
theorem Zjh:type_of% @H5.eq_def:=@H5.eq_def
theorem Zjg:type_of% @oW.eq_def:=@oW.eq_def
theorem Zjf:type_of% @Fj.eq_def:=@Fj.eq_def
theorem Zje:type_of% @Fu.eq_def:=@Fu.eq_def
theorem Zjd:type_of% @kC.eq_def:=@kC.eq_def
theorem Zjc:type_of% @Vh.eq_def:=@Vh.eq_def
theorem Zjb:type_of% @lk.eq_def:=@lk.eq_def
theorem Zja:type_of% @upd.eq_def:=@upd.eq_def
theorem Zi9:type_of% @Qbd.eq_def:=@Qbd.eq_def
theorem Zi8:type_of% @Ah.eq_def:=@Ah.eq_def
theorem Zi7:type_of% @Qbe.eq_def:=@Qbe.eq_def
theorem Zi6:type_of% @Mq.eq_def:=@Mq.eq_def
theorem Zi5:type_of% @rnA.eq_def:=@rnA.eq_def
theorem Zi4:type_of% @rnAs.eq_def:=@rnAs.eq_def
theorem Zi3:type_of% @Q3.eq_def:=@Q3.eq_def
theorem Zi2:type_of% @X6.eq_def:=@X6.eq_def
theorem Zi1:type_of% @Yn.eq_def:=@Yn.eq_def
theorem Zi0:type_of% @Ot.eq_def:=@Ot.eq_def
theorem Ziz:type_of% @Zny.eq_def:=@Zny.eq_def
theorem Ziy:type_of% @AV.off.eq_def:=@AV.off.eq_def
theorem Zix:type_of% @offAll.eq_def:=@offAll.eq_def
theorem Ziw:type_of% @U3.eq_def:=@U3.eq_def
theorem Ziv:type_of% @sJ.eq_def:=@sJ.eq_def
theorem Ziu:type_of% @Yu.eq_def:=@Yu.eq_def
theorem Zit:type_of% @Option.toList.eq_def:=@Option.toList.eq_def
theorem Zis:type_of% @Hw.eq_def:=@Hw.eq_def
theorem Zir:type_of% @Um.eq_def:=@Um.eq_def
theorem Ziq:type_of% @Pq.eq_def:=@Pq.eq_def
theorem Zip:type_of% @Nc.eq_1:=@Nc.eq_1
theorem Zio:type_of% @Nc.eq_2:=@Nc.eq_2
theorem Zin:type_of% @P6.eq_1:=@P6.eq_1
theorem Zim:type_of% @P6.eq_2:=@P6.eq_2
theorem Zil:type_of% @Bj.eq_1:=@Bj.eq_1
theorem Zik:type_of% @Bj.eq_2:=@Bj.eq_2
theorem Zij:type_of% @Bj.eq_3:=@Bj.eq_3
theorem Zii:type_of% @Bj.eq_4:=@Bj.eq_4
theorem Zih:type_of% @lT.eq_1:=@lT.eq_1
theorem Zig:type_of% @lT.eq_2:=@lT.eq_2
theorem Zif:type_of% @lT.eq_3:=@lT.eq_3
theorem Zie:type_of% @Hu.eq_1:=@Hu.eq_1
theorem Zid:type_of% @Hu.eq_2:=@Hu.eq_2
theorem Zic:type_of% @Hu.eq_3:=@Hu.eq_3
theorem Zib:type_of% @Db.eq_1:=@Db.eq_1
theorem Zia:type_of% @Db.eq_2:=@Db.eq_2
theorem Zh9:type_of% @Se.eq_1:=@Se.eq_1
theorem Zh8:type_of% @Se.eq_2:=@Se.eq_2
theorem Zh7:type_of% @pur.eq_1:=@pur.eq_1
theorem Zh6:type_of% @pur.eq_2:=@pur.eq_2
theorem Zh5:type_of% @pur.eq_3:=@pur.eq_3
theorem Zh4:type_of% @pur.eq_4:=@pur.eq_4
theorem Zh3:type_of% @pur.eq_5:=@pur.eq_5
theorem Zh2:type_of% @pur.eq_6:=@pur.eq_6
theorem Zh1:type_of% @pur.eq_7:=@pur.eq_7
theorem Zh0:type_of% @pur.eq_8:=@pur.eq_8
theorem Zhz:type_of% @purs.eq_1:=@purs.eq_1
theorem Zhy:type_of% @purs.eq_2:=@purs.eq_2
theorem Zhx:type_of% @purs.eq_3:=@purs.eq_3
theorem Zhw:type_of% @Zwo.eq_1:=@Zwo.eq_1
theorem Zhv:type_of% @Zwo.eq_2:=@Zwo.eq_2
theorem Zhu:type_of% @D.asAgg.eq_1:=@D.asAgg.eq_1
theorem Zht:type_of% @D.setCell.eq_1:=@D.setCell.eq_1
theorem Zhs:type_of% @AV.cells.eq_1:=@AV.cells.eq_1
theorem Zhr:type_of% @AV.cells.eq_2:=@AV.cells.eq_2
theorem Zhq:type_of% @Hr.eq_1:=@Hr.eq_1
theorem Zhp:type_of% @J7.eq_1:=@J7.eq_1
theorem Zho:type_of% @Xc.eq_1:=@Xc.eq_1
theorem Zhn:type_of% @Vp.eq_1:=@Vp.eq_1
theorem Zhm:type_of% @zJ.eq_1:=@zJ.eq_1
theorem Zhl:type_of% @Y1.eq_1:=@Y1.eq_1
theorem Zhk:type_of% @P4.eq_1:=@P4.eq_1
theorem Zhj:type_of% @P4.eq_2:=@P4.eq_2
theorem Zhi:type_of% @D.eqb.eq_1:=@D.eqb.eq_1
theorem Zhh:type_of% @D.eqb.eq_2:=@D.eqb.eq_2
theorem Zhg:type_of% @D.eqb.eq_3:=@D.eqb.eq_3
theorem Zhf:type_of% @Zo8:=@Zo8
theorem Zhe:type_of% @uI:=@uI
theorem Zhd:type_of% @Zpb:=@Zpb
theorem Zhc:type_of% @Zty:=@Zty
theorem Zhb:type_of% @qG:=@qG
theorem Zha:type_of% @qH:=@qH
theorem Zg9:type_of% @zH:=@zH
theorem Zg8:type_of% @Zo9:=@Zo9
theorem Zg7:type_of% @Zpa:=@Zpa
theorem Zg6:type_of% @Ztz:=@Ztz
theorem Zg5:type_of% @Qhw:=@Qhw
theorem Zg4:type_of% @qF:=@qF
theorem Zg3:type_of% @mR:=@mR
theorem Zg2:type_of% @Qh0:=@Qh0
theorem Zg1:type_of% @Qhz:=@Qhz
theorem Zg0:type_of% @Qhy:=@Qhy
theorem Zgz:type_of% @Qhx:=@Qhx
theorem Zgy:type_of% @Qhr:=@Qhr
theorem Zgx:type_of% @Qhq:=@Qhq
theorem Zgw:type_of% @Qhp:=@Qhp
theorem Zgv:type_of% @Qho:=@Qho
theorem Zgu:type_of% @Qhn:=@Qhn
theorem Zgt:type_of% @Qhm:=@Qhm
theorem Zgs:type_of% @Qia:=@Qia
theorem Zgr:type_of% @Qh9:=@Qh9
theorem Zgq:type_of% @Qh8:=@Qh8
theorem Zgp:type_of% @Qh7:=@Qh7
theorem Zgo:type_of% @Qh6:=@Qh6
theorem Zgn:type_of% @Qh5:=@Qh5
theorem Zgm:type_of% @Qid:=@Qid
theorem Zgl:type_of% @Qic:=@Qic
theorem Zgk:type_of% @Qhv:=@Qhv
theorem Zgj:type_of% @Qhu:=@Qhu
theorem Zgi:type_of% @Qh4:=@Qh4
theorem Zgh:type_of% @Qh3:=@Qh3
theorem Zgg:type_of% @Qh2:=@Qh2
theorem Zgf:type_of% @Qh1:=@Qh1
theorem Zge:type_of% @Qht:=@Qht
theorem Zgd:type_of% @Zx2:=@Zx2
theorem Zgc:type_of% @Zsu:=@Zsu
theorem Zgb:type_of% @Qcj:=@Qcj
theorem Zga:type_of% @Qci:=@Qci
theorem Zf9:type_of% @Qcl:=@Qcl
theorem Zf8:type_of% @Qck:=@Qck
theorem Zf7:type_of% @Zx3:=@Zx3
theorem Zf6:type_of% @Zx4:=@Zx4
theorem Zf5:type_of% @iF:=@iF
theorem Zf4:type_of% @Ll:=@Ll
theorem Zf3:type_of% @sX:=@sX
theorem Zf2:type_of% @Kh:=@Kh
theorem Zf1:type_of% @Zti:=@Zti
theorem Zf0:type_of% @Zbk:=@Zbk
theorem Zfz:type_of% @Zst:=@Zst
theorem Zfy:type_of% @Zaz:=@Zaz
theorem Zfx:type_of% @bA:=@bA
theorem Zfw:type_of% @Eu:=@Eu
theorem Zfv:type_of% @bK:=@bK
theorem Zfu:type_of% @Et:=@Et
theorem Zft:type_of% @T8:=@T8
theorem Zfs:type_of% @iR:=@iR
theorem Zfr:type_of% @bI:=@bI
theorem Zfq:type_of% @iO:=@iO
theorem Zfp:type_of% @bG:=@bG
theorem Zfo:type_of% @iT:=@iT
theorem Zfn:type_of% @iP:=@iP
theorem Zfm:type_of% @iS:=@iS
theorem Zfl:type_of% @bE:=@bE
theorem Zfk:type_of% @bF:=@bF
theorem Zfj:type_of% @jT:=@jT
theorem Zfi:type_of% @cT:=@cT
theorem Zfh:type_of% @jP:=@jP
theorem Zfg:type_of% @cP:=@cP
theorem Zff:type_of% @jU:=@jU
theorem Zfe:type_of% @jS:=@jS
theorem Zfd:type_of% @kQ:=@kQ
theorem Zfc:type_of% @encI_def:=@encI_def
theorem Zfb:type_of% @encB_def:=@encB_def
theorem Zfa:type_of% @encS_def:=@encS_def
theorem Ze9:type_of% @Zta:=@Zta
theorem Ze8:type_of% @Aw:=@Aw
theorem Ze7:type_of% @bH:=@bH
theorem Ze6:type_of% @cR:=@cR
theorem Ze5:type_of% @Qgt:=@Qgt
theorem Ze4:type_of% @Qgu:=@Qgu
theorem Ze3:type_of% @Qgr:=@Qgr
theorem Ze2:type_of% @Qgs:=@Qgs
theorem Ze1:type_of% @List.getD_cons_zero:=@List.getD_cons_zero
theorem Ze0:type_of% @List.getD_cons_succ:=@List.getD_cons_succ
theorem Zez:type_of% @List.set_cons_zero:=@List.set_cons_zero
theorem Zey:type_of% @List.set_cons_succ:=@List.set_cons_succ
theorem Zex:type_of% @List.cons_append:=@List.cons_append
theorem Zew:type_of% @List.nil_append:=@List.nil_append
theorem Zev:type_of% @List.take_succ_cons:=@List.take_succ_cons
theorem Zeu:type_of% @List.take_zero:=@List.take_zero
theorem Zet:type_of% @List.drop_succ_cons:=@List.drop_succ_cons
theorem Zes:type_of% @List.drop_zero:=@List.drop_zero
theorem Zer:type_of% @pG:=@pG
theorem Zeq:type_of% @jB:=@jB
theorem Zep:type_of% @pF:=@pF
theorem Zeo:type_of% @jA:=@jA
theorem Zen:type_of% @J1:=@J1
theorem Zem:type_of% @Jq:=@Jq
theorem Zel:type_of% @pD:=@pD
theorem Zek:type_of% @iX:=@iX
theorem Zej:type_of% @pC:=@pC
theorem Zei:type_of% @iZ:=@iZ
theorem Zeh:type_of% @Bool.not_true:=@Bool.not_true
theorem Zeg:type_of% @Bool.not_false:=@Bool.not_false
theorem Zef:type_of% @Bool.not_not:=@Bool.not_not
theorem Zee:type_of% @Int.toNat_natCast:=@Int.toNat_natCast
theorem Zed:type_of% @Int.toNat_zero:=@Int.toNat_zero
theorem Zec:type_of% @Zsq:=@Zsq
theorem Zeb:type_of% @Qg2:=@Qg2
theorem Zea:type_of% @Qhs:=@Qhs
theorem Zd9:type_of% @Qeq:=@Qeq
theorem Zd8:type_of% @Qep:=@Qep
theorem Zd7:type_of% @Qel:=@Qel
theorem Zd6:type_of% @Qek:=@Qek
theorem Zd5:type_of% @Qej:=@Qej
theorem Zd4:type_of% @Qed:=@Qed
theorem Zd3:type_of% @Qec:=@Qec
theorem Zd2:type_of% @Qeb:=@Qeb
theorem Zd1:type_of% @Qei:=@Qei
theorem Zd0:type_of% @Qeh:=@Qeh
theorem Zdz:type_of% @Qeg:=@Qeg
theorem Zdy:type_of% @Qef:=@Qef
theorem Zdx:type_of% @Qee:=@Qee
theorem Zdw:type_of% @Qen:=@Qen
theorem Zdv:type_of% @Qem:=@Qem
theorem Zdu:type_of% @Qer:=@Qer
theorem Zdt:type_of% @Qcm:=@Qcm
theorem Zds:type_of% @Qey:=@Qey
theorem Zdr:type_of% @Qex:=@Qex
theorem Zdq:type_of% @Qew:=@Qew
theorem Zdp:type_of% @Qev:=@Qev
theorem Zdo:type_of% @Qeu:=@Qeu
theorem Zdn:type_of% @Qet:=@Qet
theorem Zdm:type_of% @Qib:=@Qib
theorem Zdl:type_of% @Bool.and_true:=@Bool.and_true
theorem Zdk:type_of% @Bool.true_and:=@Bool.true_and
theorem Zdj:type_of% @Bool.and_false:=@Bool.and_false
theorem Zdi:type_of% @Bool.false_and:=@Bool.false_and
theorem Zdh:type_of% @Qfh:=@Qfh
theorem Zdg:type_of% @Qfg:=@Qfg
theorem Zdf:type_of% @Qff:=@Qff
theorem Zde:type_of% @Qfe:=@Qfe
theorem Zdd:type_of% @Qfd:=@Qfd
theorem Zdc:type_of% @Qfc:=@Qfc
theorem Zdb:type_of% @Qfb:=@Qfb
theorem Zda:type_of% @Qfa:=@Qfa
theorem Zc9:type_of% @Qe9:=@Qe9
theorem Zc8:type_of% @Qe8:=@Qe8
theorem Zc7:type_of% @Qe7:=@Qe7
theorem Zc6:type_of% @Qe6:=@Qe6
theorem Zc5:type_of% @Qe5:=@Qe5
theorem Zc4:type_of% @Qe4:=@Qe4
theorem Zc3:type_of% @Qe3:=@Qe3
theorem Zc2:type_of% @Bool.true_eq_false:=@Bool.true_eq_false
theorem Zc1:type_of% @Bool.false_eq_true:=@Bool.false_eq_true
theorem Zc0:type_of% @true_and:=@true_and
theorem Zcz:type_of% @and_true:=@and_true
theorem Zcy:type_of% @and_assoc:=@and_assoc
theorem Zcx:type_of% @List.length_map:=@List.length_map
theorem Zcw:type_of% @List.append_nil:=@List.append_nil
theorem Zcv:type_of% @List.getD_nil:=@List.getD_nil
theorem Zcu:type_of% @iU.eq_def:=@iU.eq_def
theorem Zct:type_of% @Qe2:=@Qe2
theorem Zcs:type_of% @Zm5.eq_def:=@Zm5.eq_def
theorem Zcr:type_of% @lB.eq_def:=@lB.eq_def
theorem Zcq:type_of% @Ev.eq_def:=@Ev.eq_def
theorem Zcp:type_of% @Ms.eq_def:=@Ms.eq_def
theorem Zco:type_of% @Ri.eq_def:=@Ri.eq_def
theorem Zcn:type_of% @Dn.eq_def:=@Dn.eq_def
theorem Zcm:type_of% @K8.eq_def:=@K8.eq_def
theorem Zcl:type_of% @Ctx.mapE.eq_def:=@Ctx.mapE.eq_def
theorem Zck:type_of% @Qe1:=@Qe1
theorem Zcj:type_of% @Qe0:=@Qe0
theorem Zci:type_of% @Qez:=@Qez
theorem Zch:type_of% @pur.eq_9:=@pur.eq_9
theorem Zcg:type_of% @Zoc:=@Zoc
theorem Zcf:type_of% @yB:=@yB
theorem Zce:type_of% @Zoy:=@Zoy
theorem Zcd:type_of% @Zbw.eq_def:=@Zbw.eq_def
theorem Zcc:type_of% @Zmk.eq_def:=@Zmk.eq_def
theorem Zcb:type_of% @Qes:=@Qes
theorem Zca:type_of% @W6.eq_def:=@W6.eq_def
theorem Zb9:type_of% @aX.eq_def:=@aX.eq_def
theorem Zb8:type_of% @Qcf.eq_1:=@Qcf.eq_1
theorem Zb7:type_of% @Qcf.eq_2:=@Qcf.eq_2
theorem Zb6:type_of% @Qap.eq_1:=@Qap.eq_1
theorem Zb5:type_of% @Qap.eq_2:=@Qap.eq_2
theorem Zb4:type_of% @sR.eq_def:=@sR.eq_def
theorem Zb3:type_of% @aV.eq_def:=@aV.eq_def
theorem Zb2:type_of% @I5.eq_def:=@I5.eq_def
theorem Zb1:type_of% @Dr.eq_def:=@Dr.eq_def
theorem Zb0:type_of% @Mu.eq_def:=@Mu.eq_def
theorem Zbz:type_of% @Hy.eq_def:=@Hy.eq_def
theorem Zby:type_of% @Bg.eq_def:=@Bg.eq_def
theorem Zw8:type_of% @Int.ofNat_eq_natCast:=@Int.ofNat_eq_natCast
theorem oC:(type_of% @List.length_cons.{0})∧(type_of% @List.length_nil.{0})∧(type_of% @List.cons_append.{0})∧(type_of% @List.nil_append.{0})∧(type_of% @and_assoc)∧(type_of% @true_and)∧(type_of% @and_true)∧(type_of% @List.map_cons.{0,0})∧(type_of% @List.map_nil.{0,0})∧(type_of% @bA)∧(type_of% @Eu)∧(type_of% @bK)∧(type_of% @Et)∧(type_of% @T8)∧(type_of% @Zti)∧(type_of% @Zbk)∧(type_of% @Zst)∧(type_of% @Zaz)∧(type_of% @iR)∧(type_of% @bI)∧(type_of% @iO)∧(type_of% @bG)∧(type_of% @iT)∧(type_of% @iP)∧(type_of% @iS)∧(type_of% @bE)∧(type_of% @bF)∧(type_of% @jT)∧(type_of% @cT)∧(type_of% @jP)∧(type_of% @cP)∧(type_of% @jU)∧(type_of% @jS)∧(type_of% @kQ)∧(type_of% @encI_def)∧(type_of% @encB_def)∧(type_of% @encS_def)∧(type_of% @Qcs)∧(type_of% @Qcu)∧(type_of% @Qch)∧(type_of% @yZ)∧(type_of% @sB)∧(type_of% @xU)∧(type_of% @yD)∧(type_of% @zK)∧(type_of% @yE)∧(type_of% @zB)∧(type_of% @yC)∧(type_of% @zW)∧(type_of% @iV)∧(type_of% @Zta)∧(type_of% @Aw)∧(type_of% @bH)∧(type_of% @cR)∧(type_of% @pG)∧(type_of% @jB)∧(type_of% @pF)∧(type_of% @jA)∧(type_of% @pD)∧(type_of% @iX)∧(type_of% @pC)∧(type_of% @iZ)∧(type_of% @J1)∧(type_of% @Xb)∧(type_of% @Ztd)∧(type_of% @Jq)∧(type_of% @Jf)∧(type_of% @Qv)∧(type_of% @Qx)∧(type_of% @Pg)∧(type_of% @Qgt)∧(type_of% @Qgu)∧(type_of% @Qgr)∧(type_of% @Qgs)∧(type_of% @Qct)∧(type_of% @Qfn)∧(type_of% @Qea)∧(type_of% @Qcp)∧(type_of% @Qfo)∧(type_of% @Qg2)∧(type_of% @List.length_map.{0,0})∧(type_of% @List.length_append.{0})∧(type_of% @List.length_replicate.{0})∧(type_of% @Int.toNat_natCast)∧(type_of% @Bool.not_true)∧(type_of% @Bool.not_false)∧(type_of% @Bool.not_not)∧(type_of% @decide_true)∧(type_of% @decide_false)∧(type_of% @Bool.and_true)∧(type_of% @Bool.true_and)∧(type_of% @Bool.and_false)∧(type_of% @Bool.false_and)∧(type_of% @Bool.or_true)∧(type_of% @Bool.true_or)∧(type_of% @Bool.or_false)∧(type_of% @Bool.false_or)∧(type_of% @List.length_singleton.{0})∧(type_of% @decide_eq_true_eq)∧(type_of% @decide_eq_false_iff_not)∧(type_of% @beq_iff_eq.{0})∧(type_of% @beq_eq_false_iff_ne.{0})∧(type_of% @bne_iff_ne.{0})∧(type_of% @bne_eq_false_iff_eq.{0})∧(type_of% @Bool.not_eq_true')∧(type_of% @Bool.not_eq_false')∧(type_of% @forall_const.{1})∧(type_of% @true_imp_iff)∧(type_of% @false_imp_iff)∧(type_of% @if_true.{1})∧(type_of% @if_false.{1})∧(type_of% @and_self)∧(type_of% @or_self)∧(type_of% @not_true)∧(type_of% @not_false_eq_true)∧(type_of% @List.append_nil.{0})∧(type_of% @D.bool.injEq)∧(type_of% @D.int.injEq)∧(type_of% @D.str.injEq)∧(type_of% @D.list.injEq)∧(type_of% @D.agg.injEq)∧(type_of% @bne_self_eq_false.{0})∧(type_of% @CV.d.injEq)∧(type_of% @CV.own.injEq)∧(type_of% @CV.tup.injEq)∧(type_of% @List.cons.injEq.{0})∧(type_of% @List.toList_toArray.{0})∧(type_of% @Option.some.injEq.{0})∧(type_of% @Prod.mk.injEq.{0,0})∧(type_of% @List.take_succ_cons.{0})∧(type_of% @List.take_zero.{0})∧(type_of% @List.drop_succ_cons.{0})∧(type_of% @List.drop_zero.{0})∧(type_of% @List.getD_nil.{0})∧(type_of% @map_snoc)∧(type_of% @xA)∧(type_of% @xB)∧(type_of% @xK)∧(type_of% @Zs4)∧(type_of% @List.not_mem_nil.{0})∧(type_of% @false_implies)∧(type_of% @implies_true.{1})∧(type_of% @List.mem_cons.{0})∧(type_of% @or_false)∧(type_of% @forall_eq_or_imp.{1})∧(type_of% @forall_eq.{1})∧(type_of% @ne_eq.{1})∧(type_of% @cond_true.{1})∧(type_of% @cond_false.{1})∧(type_of% @Bool.false_eq_true):=⟨@List.length_cons.{0},@List.length_nil.{0},@List.cons_append.{0},@List.nil_append.{0},@and_assoc,@true_and,@and_true,@List.map_cons.{0,0},@List.map_nil.{0,0},@bA,@Eu,@bK,@Et,@T8,@Zti,@Zbk,@Zst,@Zaz,@iR,@bI,@iO,@bG,@iT,@iP,@iS,@bE,@bF,@jT,@cT,@jP,@cP,@jU,@jS,@kQ,@encI_def,@encB_def,@encS_def,@Qcs,@Qcu,@Qch,@yZ,@sB,@xU,@yD,@zK,@yE,@zB,@yC,@zW,@iV,@Zta,@Aw,@bH,@cR,@pG,@jB,@pF,@jA,@pD,@iX,@pC,@iZ,@J1,@Xb,@Ztd,@Jq,@Jf,@Qv,@Qx,@Pg,@Qgt,@Qgu,@Qgr,@Qgs,@Qct,@Qfn,@Qea,@Qcp,@Qfo,@Qg2,@List.length_map.{0,0},@List.length_append.{0},@List.length_replicate.{0},@Int.toNat_natCast,@Bool.not_true,@Bool.not_false,@Bool.not_not,@decide_true,@decide_false,@Bool.and_true,@Bool.true_and,@Bool.and_false,@Bool.false_and,@Bool.or_true,@Bool.true_or,@Bool.or_false,@Bool.false_or,@List.length_singleton.{0},@decide_eq_true_eq,@decide_eq_false_iff_not,@beq_iff_eq.{0},@beq_eq_false_iff_ne.{0},@bne_iff_ne.{0},@bne_eq_false_iff_eq.{0},@Bool.not_eq_true',@Bool.not_eq_false',@forall_const.{1},@true_imp_iff,@false_imp_iff,@if_true.{1},@if_false.{1},@and_self,@or_self,@not_true,@not_false_eq_true,@List.append_nil.{0},@D.bool.injEq,@D.int.injEq,@D.str.injEq,@D.list.injEq,@D.agg.injEq,@bne_self_eq_false.{0},@CV.d.injEq,@CV.own.injEq,@CV.tup.injEq,@List.cons.injEq.{0},@List.toList_toArray.{0},@Option.some.injEq.{0},@Prod.mk.injEq.{0,0},@List.take_succ_cons.{0},@List.take_zero.{0},@List.drop_succ_cons.{0},@List.drop_zero.{0},@List.getD_nil.{0},@map_snoc,@xA,@xB,@xK,@Zs4,@List.not_mem_nil.{0},@false_implies,@implies_true.{1},@List.mem_cons.{0},@or_false,@forall_eq_or_imp.{1},@forall_eq.{1},@ne_eq.{1},@cond_true.{1},@cond_false.{1},@Bool.false_eq_true⟩
def Nt (n:Nat):Nat:=n
theorem Kt:Nt 0=0:=rfl
theorem Kc:Nt 0=0:=rfl
theorem Kd:Nt 0=0:=rfl
theorem Kb:Nt 0=0:=rfl
theorem Ku:Nt 0=0:=rfl
theorem Kw:Nt 0=0:=rfl
theorem Ko:Nt 0=0:=rfl
theorem X9:Nt 0=0:=rfl
theorem Uv:Nt 0=0:=rfl
theorem Po:Nt 0=0:=rfl
theorem Cx:Nt 0=0:=rfl
theorem Oj:Nt 0=0:=rfl
theorem kK:Nt 0=0:=rfl
theorem oB:Nt 0=0:=rfl
theorem Zbx:Nt 0=0:=rfl
theorem Zlp:Nt 0=0:=rfl
theorem Zlo:Nt 0=0:=rfl
theorem Ok:Nt 0=0:=rfl
theorem Qb:Nt 0=0:=rfl
theorem Qf:Nt 0=0:=rfl
theorem Z9:Nt 0=0:=rfl
theorem Qe:Nt 0=0:=rfl
theorem Qc:Nt 0=0:=rfl
theorem Qh:Nt 0=0:=rfl
theorem Qn:Nt 0=0:=rfl
theorem Q6:Nt 0=0:=rfl
theorem Je:Nt 0=0:=rfl
theorem Q4:Nt 0=0:=rfl
theorem Zu:Nt 0=0:=rfl
theorem Zx:Nt 0=0:=rfl
theorem Zw:Nt 0=0:=rfl
theorem Zz:Nt 0=0:=rfl
theorem Zy:Nt 0=0:=rfl
theorem Qd:Nt 0=0:=rfl
theorem Z1:Nt 0=0:=rfl
theorem Z0:Nt 0=0:=rfl
theorem Qi:Nt 0=0:=rfl
theorem Qk:Nt 0=0:=rfl
theorem Qs:Nt 0=0:=rfl
theorem Q8:Nt 0=0:=rfl
theorem Q5:Nt 0=0:=rfl
theorem Qy:Nt 0=0:=rfl
theorem Jh:Nt 0=0:=rfl
theorem Jg:Nt 0=0:=rfl
theorem Wb:Nt 0=0:=rfl
theorem Wn:Nt 0=0:=rfl
theorem Wx:Nt 0=0:=rfl
theorem W0:Nt 0=0:=rfl
theorem Wz:Nt 0=0:=rfl
theorem Gb:Nt 0=0:=rfl
theorem Ga:Nt 0=0:=rfl
theorem H3:Nt 0=0:=rfl
theorem H2:Nt 0=0:=rfl
theorem Hq:Nt 0=0:=rfl
theorem Hp:Nt 0=0:=rfl
theorem M4:Nt 0=0:=rfl
theorem M3:Nt 0=0:=rfl
theorem Nm:Nt 0=0:=rfl
theorem M0:Nt 0=0:=rfl
theorem Mz:Nt 0=0:=rfl
theorem Nz:Nt 0=0:=rfl
theorem My:Nt 0=0:=rfl
theorem Mx:Nt 0=0:=rfl
theorem Mw:Nt 0=0:=rfl
theorem Km:Nt 0=0:=rfl
theorem Fg:Nt 0=0:=rfl
theorem Zsi:Nt 0=0:=rfl
theorem Qao:Nt 0=0:=rfl
theorem Qce:Nt 0=0:=rfl
theorem Qcy:Nt 0=0:=rfl
theorem Z8 {p:Prop} (h:p:=by first|with_reducible assumption|omega|(rw [Xr];omega)):p:=h
theorem Qw {p:Prop} (h:p:=by (try simp only [Kh,Hw,Um,Pq,upd,Ll,Hu,Bj,Nat.reduceDiv,Nat.reduceMod,Nat.reduceMul,Nat.reduceAdd,Nat.reduceEqDiff,Jm,Jz,if_true,if_false,reduceIte]);(first|refine Wk.of_fl ?_|skip);simp only [Wk,Zlr,zU,kB,wA,AV.kept,keptAll,zT,lk,Vt,and_true,true_and,and_self,Nat.reduceEqDiff,Nat.reduceLeDiff,if_true,if_false,reduceIte,reduceCtorEq,Option.isSome,false_implies];try simp [Wk,Zlr,kB,wA,AV.kept,keptAll,zT,lk,Vt,List.map_append,Zf,List.map_replicate,Nat.pow_zero,Nat.div_one,Km,Fg,Zsi,Qao,Qce,Qcy]<;>rfl):p:=h
theorem Qii {p q:Prop} (hq:q) (h:q→p:=by
 intro Kq
 (try simp only [Kh,Hw,Um,Pq,upd,Ll,Hu,Bj,Nat.reduceDiv,Nat.reduceMod,Nat.reduceMul,Nat.reduceAdd,Nat.reduceEqDiff,Jm,Jz,if_true,if_false,reduceIte]);(first|refine Wk.of_fl ?_|skip);simp only [Wk,Zlr,zU,kB,wA,AV.kept,keptAll,zT,lk,Vt,and_true,true_and,and_self,Nat.reduceEqDiff,Nat.reduceLeDiff,if_true,if_false,reduceIte,reduceCtorEq,Option.isSome,false_implies];try simp [Wk,Zlr,kB,wA,AV.kept,keptAll,zT,lk,Vt,List.map_append,Zf,List.map_replicate,Nat.pow_zero,Nat.div_one,Km,Fg,Zsi,Qao,Qce,Qcy]
 exact Kq):p:=h hq
theorem Qin {p:Prop} (h:p:=by (simp only [Qd8,iF,lT,Ll,Hu,Bj,pur,lk,upd,List.getD_cons_zero,List.getD_cons_succ,Jm,Jz,Nat.reduceDiv,Nat.reduceMod,Nat.reduceMul,Nat.reduceAdd,Nat.reduceEqDiff,if_true,if_false,reduceIte]);refine Zb (by simp) ?_;(try simp only [Kh,Hw,Um,Pq,upd,Ll,Hu,Bj,Nat.reduceDiv,Nat.reduceMod,Nat.reduceMul,Nat.reduceAdd,Nat.reduceEqDiff,Jm,Jz,if_true,if_false,reduceIte]);(first|refine Wk.of_fl ?_|skip);simp only [Wk,Zlr,zU,kB,wA,AV.kept,keptAll,zT,lk,Vt,and_true,true_and,and_self,Nat.reduceEqDiff,Nat.reduceLeDiff,if_true,if_false,reduceIte,reduceCtorEq,Option.isSome,false_implies];try simp [Wk,Zlr,kB,wA,AV.kept,keptAll,zT,lk,Vt,List.map_append,Zf,List.map_replicate,Nat.pow_zero,Nat.div_one,Km,Fg,Zsi,Qao,Qce,Qcy]<;>rfl):p:=h
theorem Qg5 {p:Prop} (h:p:=by (try simp only [Kh,Hw,Um,Pq,upd,Ll,Hu,Bj,Nat.reduceDiv,Nat.reduceMod,Nat.reduceMul,Nat.reduceAdd,Nat.reduceEqDiff,Jm,Jz,if_true,if_false,reduceIte]);simp only [Qgh,pur,lk,upd,D.setCell,Qdk,List.set_set,Jm,Jz,Nat.reduceDiv,Nat.reduceMod,Nat.reduceMul,Nat.reduceAdd,Nat.reduceEqDiff,if_true,if_false,reduceIte,Km,Fg,Zsi,Qao,Qce,Qcy];refine Zb (by first|trivial|(simp;done)|omega) (Zb (by first|trivial|(simp;done)) (Zb (by first|trivial|omega|(simp;done)) (Zb (by first|trivial|omega|(simp;omega)) (Zb (by first|trivial|omega) ?_))));(try simp only [Kh,Hw,Um,Pq,upd,Ll,Hu,Bj,Nat.reduceDiv,Nat.reduceMod,Nat.reduceMul,Nat.reduceAdd,Nat.reduceEqDiff,Jm,Jz,if_true,if_false,reduceIte]);(first|refine Wk.of_fl ?_|skip);simp only [Wk,Zlr,zU,kB,wA,AV.kept,keptAll,zT,lk,Vt,and_true,true_and,and_self,Nat.reduceEqDiff,Nat.reduceLeDiff,if_true,if_false,reduceIte,reduceCtorEq,Option.isSome,false_implies];try simp [Wk,Zlr,kB,wA,AV.kept,keptAll,zT,lk,Vt,List.map_append,Zf,List.map_replicate,Nat.pow_zero,Nat.div_one,Km,Fg,Zsi,Qao,Qce,Qcy]):p:=h
theorem Qio {p:Prop} (h:p:=by (try simp only [Kh,Hw,Um,Pq,upd,Ll,Hu,Bj,Nat.reduceDiv,Nat.reduceMod,Nat.reduceMul,Nat.reduceAdd,Nat.reduceEqDiff,Jm,Jz,if_true,if_false,reduceIte]);simp only [Qhj,ren,lk,upd,Nat.reduceAdd,Nat.reduceEqDiff,if_true,if_false,reduceIte];refine Zb (by first|trivial|rfl) (Zb ?_ (Zb (by first|trivial|rfl|simp) (Zb (by first|trivial|simp [yQ]) (Zb (by first|decide|omega) (Zb (by first|decide|omega) (Zb (by (first|refine fZ ?_|skip);simp [keptAll,Za1,AV.kept,lk]) (by simp [Ph,keptAll,AV.kept,lk])))))));(try simp only [Kh,Hw,Um,Pq,upd,Ll,Hu,Bj,Nat.reduceDiv,Nat.reduceMod,Nat.reduceMul,Nat.reduceAdd,Nat.reduceEqDiff,Jm,Jz,if_true,if_false,reduceIte]);(first|refine Wk.of_fl ?_|skip);simp only [Wk,Zlr,zU,kB,wA,AV.kept,keptAll,zT,lk,Vt,and_true,true_and,and_self,Nat.reduceEqDiff,Nat.reduceLeDiff,if_true,if_false,reduceIte,reduceCtorEq,Option.isSome,false_implies];try simp [Wk,Zlr,kB,wA,AV.kept,keptAll,zT,lk,Vt,List.map_append,Zf,List.map_replicate,Nat.pow_zero,Nat.div_one,Km,Fg,Zsi,Qao,Qce,Qcy]):p:=h
theorem Qg4 {p:Prop} (h:p:=by (try simp only [Kh,Hw,Um,Pq,upd,Ll,Hu,Bj,Nat.reduceDiv,Nat.reduceMod,Nat.reduceMul,Nat.reduceAdd,Nat.reduceEqDiff,Jm,Jz,if_true,if_false,reduceIte]);simp only [Qgg,ren,iF,lT,Ll,Hu,Bj,lk,upd,List.getD_cons_zero,List.getD_cons_succ,Jm,Jz,Nat.reduceDiv,Nat.reduceMod,Nat.reduceMul,Nat.reduceAdd,Nat.reduceEqDiff,if_true,if_false,reduceIte];refine Zb (by first|trivial|rfl) (Zb ?_ (Zb (by first|trivial|rfl|simp) (Zb (by first|trivial|simp [yQ]) (Zb (by first|decide|omega) (Zb (by first|decide|omega) (Zb (by (first|refine fZ ?_|skip);simp [keptAll,Za1,AV.kept,lk]) (by simp [Ph,keptAll,AV.kept,lk])))))));(try simp only [Kh,Hw,Um,Pq,upd,Ll,Hu,Bj,Nat.reduceDiv,Nat.reduceMod,Nat.reduceMul,Nat.reduceAdd,Nat.reduceEqDiff,Jm,Jz,if_true,if_false,reduceIte]);(first|refine Wk.of_fl ?_|skip);simp only [Wk,Zlr,zU,kB,wA,AV.kept,keptAll,zT,lk,Vt,and_true,true_and,and_self,Nat.reduceEqDiff,Nat.reduceLeDiff,if_true,if_false,reduceIte,reduceCtorEq,Option.isSome,false_implies];try simp [Wk,Zlr,kB,wA,AV.kept,keptAll,zT,lk,Vt,List.map_append,Zf,List.map_replicate,Nat.pow_zero,Nat.div_one,Km,Fg,Zsi,Qao,Qce,Qcy]):p:=h
theorem Jd {ops:List Oper} {acc:List (Nat×List Nat×Bool)} (h:Qda ops acc=true:=by kernel_rfl):Qda ops acc=true:=h
def Gs (P:Program) (l:List (Nat×Con)) (m:List (Nat×BCon)) (E:Prop):Prop:=(∀ p∈l,Qa P p)∧(∀ p∈m,Ry P p)∧E
theorem Xd {P:Program}:Gs P [] [] True:=⟨by simp,by simp,trivial⟩
theorem Q0 {P:Program} {n:Nat} {c d:Con} {l:List (Nat×Con)} {m:List (Nat×BCon)} {E:Prop} (h:Qa P (n,c)) (e:c=d) (r:Gs P l m E):Gs P ((n,c)::l) m (c=d∧E):=by
 refine ⟨fun p hp=>?_,r.2.1,e,r.2.2⟩;rcases (@List.mem_cons _ _ _ _).1 hp with h1|h1
 ·rw [h1];exact h
 ·exact r.1 p h1
theorem Qd7 {P:Program} {n:Nat} {c d:BCon} {l:List (Nat×Con)} {m:List (Nat×BCon)} {E:Prop} (h:Ry P (n,c)) (e:c=d) (r:Gs P l m E):Gs P l ((n,c)::m) (c=d∧E):=by
 refine ⟨r.1,fun p hp=>?_,e,r.2.2⟩;rcases (@List.mem_cons _ _ _ _).1 hp with h1|h1
 ·rw [h1];exact h
 ·exact r.2.1 p h1
theorem Xe {P:Program} {τ:Nat→TI} (hT:W4 P τ) (hm:P.follows .mixedOrders=true) (cu:List Nat) (wr:Bool) {l:List (Nat×Con)} {m:List (Nat×BCon)} {E:Prop} (h:Gs P l m E):∃ C:Ctx,C.τ=τ∧C.Γ=Qbd l∧C.dp=60∧C.Δ=Qbe m∧C.cuts=cu∧C.wr=wr∧Bi P C∧E :=
 ⟨⟨τ,Qbd l,60,Qbe m,cu,wr⟩,rfl,rfl,rfl,rfl,rfl,rfl,Zzl hT hm h.1 h.2.1,h.2.2⟩
theorem Y4 {C:Ctx} {c:Code} {Q:AExit→AS→Prop} {t:List AV} {o:Z3} (n:Nat) (h:Shut (Li C c Q ⟨fl (Zwo n t).1 (Zwo n t).2,o⟩)) (hn:decide (16*n≤t.length)=true:=by kernel_rfl):Li C c Q ⟨t,o⟩:=Qb6 n (of_decide_eq_true hn) h
theorem Qdq {F:Func} (h:F.body.isNone=false):∃ c,F.body=some c:=by
 cases hb:F.body with
 | none=>rw [hb] at h;cases h
 | some c=>exact ⟨c,rfl⟩
theorem Xj {P : Program} {C : Ctx} {f : FuncId} {fn : Func} {con : Con} (K : Bi P C) (hf : P.funcs[f]? = some fn) (rs : List ResultVar) (hrs : fn.results.toList = rs) (nt : Nat) (hnt : fn.ntmps = nt)
    (h : ∀ c, fn.body = some c → ∀ cvs, con.pre cvs → Li C c (Qca C rs con.outs (con.fn cvs)) (dQ nt cvs)) (h1 : (fn.name == "runtime.NumGoroutine") = false := by kernel_rfl) (h2 : fn.body.isNone = false := by rfl) : Qa P (f, con) := by
  obtain ⟨c, hc⟩ := Qdq h2
  exact ⟨Jp hf h1 h2, Zzc K hf hc rs hrs nt hnt (h c hc)⟩
theorem Qbr {P : Program} {C : Ctx} {f : FuncId} {fn : Func} {bc : BCon} (K : Bi P C) (hf : P.funcs[f]? = some fn) (rs : List ResultVar) (hrs : fn.results.toList = rs) (nt : Nat) (hnt : fn.ntmps = nt)
    (h : ∀ c, fn.body = some c → ∀ x, bc.ok x → Tl (bc.args x) (bc.objs x) ∧ Jr (bc.objs x) ∧ Tl [] (bc.post x) ∧ (bc.objs x).length ≤ (bc.post x).length ∧
      Li C c (oA C rs (bc.objs x).length (bc.res x) (bc.post x)) ⟨bc.args x ++ P6 (nt - (bc.args x).length), Jc (bc.objs x)⟩) (hout : ∀ x, bc.out x = none := by intro _; rfl) (h1 : (fn.name == "runtime.NumGoroutine") = false := by kernel_rfl) (h2 : fn.body.isNone = false := by rfl) : Ry P (f, bc) := by
  obtain ⟨c, hc⟩ := Qdq h2
  exact ⟨Jp hf h1 h2, Zv7 K hf hc rs hrs nt hnt (h c hc) hout⟩
theorem Qil {P : Program} {C : Ctx} {f : FuncId} {fn : Func} {bc : BCon} {oj : bc.X → Nat} (K : Bi P C) (hf : P.funcs[f]? = some fn) (rs : List ResultVar) (hrs : fn.results.toList = rs) (nt : Nat) (hnt : fn.ntmps = nt)
    (h : ∀ c, fn.body = some c → ∀ x, bc.ok x → Tl (bc.args x) (bc.objs x) ∧ Jr (bc.objs x) ∧ Tl [] (bc.post x) ∧ (bc.objs x).length ≤ (bc.post x).length ∧
      Li C c (Zbw C rs (bc.objs x).length (oj x) (bc.post x)) ⟨bc.args x ++ P6 (nt - (bc.args x).length), Jc (bc.objs x)⟩) (hout : ∀ x, bc.out x = some (oj x)) (h1 : (fn.name == "runtime.NumGoroutine") = false := by kernel_rfl) (h2 : fn.body.isNone = false := by rfl) : Ry P (f, bc) := by
  obtain ⟨c, hc⟩ := Qdq h2
  exact ⟨Jp hf h1 h2, Zrh K hf hc rs hrs nt hnt (h c hc) hout⟩
end Go.Am
namespace Go.Am.Ty
open Go.Proofs
open Enc (enc dec)
def tt:List (Nat×TI):=[(1,⟨.func,1,8,.d .nilf,.nilf,[]⟩),(2,⟨.int .i64,1,8,.d (.int .i64 0),.int .i64 0,[]⟩),(3,⟨.int .i64,1,8,.d (.int .i64 0),.int .i64 0,[]⟩),(4,⟨.bool,1,1,.d (.bool false),.bool false,[]⟩),(5,⟨.int .u8,1,1,.d (.int .u8 0),.int .u8 0,[]⟩),(9,⟨.str,1,16,.d (.str []),.str [],[]⟩),(21,⟨.int .i32,1,4,.d (.int .i32 0),.int .i32 0,[]⟩),(22,⟨.slice 9,1,24,.nils 1,.list 1 [],[]⟩),(24,⟨.struct [(0,1),(1,1)],2,48,.agg [.nils 1,.nils 1],.agg [.list 1 [],.list 1 []],[]⟩),(25,⟨.array 2 3,2,16,.d (.agg [.int .i64 0,.int .i64 0]),.agg [.int .i64 0,.int .i64 0],[]⟩),(26,⟨.slice 43,1,24,.nils 4,.list 4 [],[]⟩),(30,⟨.int .i64,1,8,.d (.int .i64 0),.int .i64 0,[]⟩),(37,⟨.slice 51,1,24,.nils 2,.list 2 [],[]⟩),(40,⟨.slice 49,1,24,.nils 3,.list 3 [],[]⟩),(41,⟨.slice 166,1,24,.nils 3,.list 3 [],[]⟩),(43,⟨.struct [(0,1),(1,1),(2,1),(3,1)],4,88,.agg [.d (.str []),.nils 1,.nils 3,.nils 3],.agg [.str [],.list 1 [],.list 3 [],.list 3 []],[]⟩),(45,⟨.slice 82,1,24,.nils 3,.list 3 [],[]⟩),(47,⟨.slice 75,1,24,.nils 8,.list 8 [],[]⟩),(49,⟨.struct [(0,1),(1,1),(2,1)],3,64,.agg [.d (.str []),.nils 3,.nils 8],.agg [.str [],.list 3 [],.list 8 []],[]⟩),(51,⟨.struct [(0,1),(1,1)],2,40,.agg [.d (.str []),.nils 3],.agg [.str [],.list 3 []],[]⟩),(59,⟨.slice 72,1,24,.nils 2,.list 2 [],[]⟩),(65,⟨.slice 3,1,24,.nils 1,.list 1 [],[]⟩),(69,⟨.slice 45,1,24,.nils 1,.list 1 [],[]⟩),(70,⟨.slice 4,1,24,.nils 1,.list 1 [],[]⟩),(72,⟨.struct [(0,1),(1,1)],2,32,.agg [.d (.int .i64 0),.nils 3],.agg [.int .i64 0,.list 3 []],[]⟩),(75,⟨.struct [(0,1),(1,1),(2,1),(3,1),(4,1),(5,1),(6,1),(7,1)],8,120,.agg [.d (.int .i64 0),.d (.str []),.d (.str []),.d (.str []),.d (.int .i64 0),.d (.int .i64 0),.nils 3,.nils 3],.agg [.int .i64 0,.str [],.str [],.str [],.int .i64 0,.int .i64 0,.list 3 [],.list 3 []],[]⟩),(80,⟨.func,1,8,.d .nilf,.nilf,[]⟩),(82,⟨.struct [(0,1),(1,1),(2,1)],3,32,.d (.agg [.int .i64 0,.str [],.int .i64 0]),.agg [.int .i64 0,.str [],.int .i64 0],[.int .i64,.str,.int .i64]⟩),(86,⟨.func,1,8,.d .nilf,.nilf,[]⟩),(87,⟨.func,1,8,.d .nilf,.nilf,[]⟩),(88,⟨.map 9 43,1,8,.d .nilm,.nilm,[]⟩),(91,⟨.func,1,8,.d .nilf,.nilf,[]⟩),(92,⟨.func,1,8,.d .nilf,.nilf,[]⟩),(105,⟨.map 3 4,1,8,.d .nilm,.nilm,[]⟩),(109,⟨.func,1,8,.d .nilf,.nilf,[]⟩),(115,⟨.func,1,8,.d .nilf,.nilf,[]⟩),(124,⟨.map 9 4,1,8,.d .nilm,.nilm,[]⟩),(125,⟨.func,1,8,.d .nilf,.nilf,[]⟩),(130,⟨.func,1,8,.d .nilf,.nilf,[]⟩),(133,⟨.slice 141,1,24,.nils 4,.list 4 [],[]⟩),(137,⟨.struct [(0,1),(1,1),(2,1)],3,40,.agg [.d (.int .i64 0),.nils 3,.d (.int .i64 0)],.agg [.int .i64 0,.list 3 [],.int .i64 0],[]⟩),(141,⟨.struct [(0,1),(1,1),(2,1),(3,1)],4,40,.d (.agg [.int .i64 0,.str [],.int .i64 0,.int .i64 0]),.agg [.int .i64 0,.str [],.int .i64 0,.int .i64 0],[.int .i64,.str,.int .i64,.int .i64]⟩),(143,⟨.map 9 3,1,8,.d .nilm,.nilm,[]⟩),(152,⟨.map 3 45,1,8,.d .nilm,.nilm,[]⟩),(155,⟨.func,1,8,.d .nilf,.nilf,[]⟩),(157,⟨.func,1,8,.d .nilf,.nilf,[]⟩),(158,⟨.func,1,8,.d .nilf,.nilf,[]⟩),(160,⟨.struct [(0,1),(1,1),(2,1)],3,56,.agg [.nils 3,.nils 3,.d .nilf],.agg [.list 3 [],.list 3 [],.nilf],[]⟩),(166,⟨.struct [(0,1),(1,1),(2,1)],3,24,.d (.agg [.int .i64 0,.int .i64 0,.bool false]),.agg [.int .i64 0,.int .i64 0,.bool false],[.int .i64,.int .i64,.bool]⟩),(168,⟨.array 15 3,15,120,.d (.agg [.int .i64 0,.int .i64 0,.int .i64 0,.int .i64 0,.int .i64 0,.int .i64 0,.int .i64 0,.int .i64 0,.int .i64 0,.int .i64 0,.int .i64 0,.int .i64 0,.int .i64 0,.int .i64 0,.int .i64 0]),.agg [.int .i64 0,.int .i64 0,.int .i64 0,.int .i64 0,.int .i64 0,.int .i64 0,.int .i64 0,.int .i64 0,.int .i64 0,.int .i64 0,.int .i64 0,.int .i64 0,.int .i64 0,.int .i64 0,.int .i64 0],[]⟩),(185,⟨.func,1,8,.d .nilf,.nilf,[]⟩),(186,⟨.func,1,8,.d .nilf,.nilf,[]⟩),(196,⟨.int .u64,1,8,.d (.int .u64 0),.int .u64 0,[]⟩),(198,⟨.func,1,8,.d .nilf,.nilf,[]⟩),(213,⟨.int .i64,1,8,.d (.int .i64 0),.int .i64 0,[]⟩),(220,⟨.int .u32,1,4,.d (.int .u32 0),.int .u32 0,[]⟩),(222,⟨.int .u64,1,8,.d (.int .u64 0),.int .u64 0,[]⟩),(234,⟨.slice 5,1,24,.nils 1,.list 1 [],[]⟩),(236,⟨.func,1,8,.d .nilf,.nilf,[]⟩),(239,⟨.int .u64,1,8,.d (.int .u64 0),.int .u64 0,[]⟩),(243,⟨.ptr 3,1,8,.d .nilp,.nilp,[]⟩),(256,⟨.ptr 239,1,8,.d .nilp,.nilp,[]⟩),(261,⟨.struct [(0,1),(1,1),(2,1),(3,1)],4,48,.agg [.d (.int .i64 0),.d (.int .i64 0),.nils 3,.d (.int .i64 0)],.agg [.int .i64 0,.int .i64 0,.list 3 [],.int .i64 0],[]⟩),(264,⟨.slice 47,1,24,.nils 1,.list 1 [],[]⟩)]
def Mb:Nat→TI:=Qco tt
theorem Of:Mb 1=⟨.func,1,8,.d .nilf,.nilf,[]⟩:=rfl
theorem Oe:Mb 2=⟨.int .i64,1,8,.d (.int .i64 0),.int .i64 0,[]⟩:=rfl
theorem Od:Mb 3=⟨.int .i64,1,8,.d (.int .i64 0),.int .i64 0,[]⟩:=rfl
theorem Oc:Mb 4=⟨.bool,1,1,.d (.bool false),.bool false,[]⟩:=rfl
theorem Ob:Mb 5=⟨.int .u8,1,1,.d (.int .u8 0),.int .u8 0,[]⟩:=rfl
theorem Oa:Mb 9=⟨.str,1,16,.d (.str []),.str [],[]⟩:=rfl
theorem Le:Mb 21=⟨.int .i32,1,4,.d (.int .i32 0),.int .i32 0,[]⟩:=rfl
theorem Ld:Mb 22=⟨.slice 9,1,24,.nils 1,.list 1 [],[]⟩:=rfl
theorem Lb:Mb 24=⟨.struct [(0,1),(1,1)],2,48,.agg [.nils 1,.nils 1],.agg [.list 1 [],.list 1 []],[]⟩:=rfl
theorem La:Mb 25=⟨.array 2 3,2,16,.d (.agg [.int .i64 0,.int .i64 0]),.agg [.int .i64 0,.int .i64 0],[]⟩:=rfl
theorem B9:Mb 26=⟨.slice 43,1,24,.nils 4,.list 4 [],[]⟩:=rfl
theorem B8:Mb 30=⟨.int .i64,1,8,.d (.int .i64 0),.int .i64 0,[]⟩:=rfl
theorem B7:Mb 37=⟨.slice 51,1,24,.nils 2,.list 2 [],[]⟩:=rfl
theorem B6:Mb 40=⟨.slice 49,1,24,.nils 3,.list 3 [],[]⟩:=rfl
theorem B5:Mb 41=⟨.slice 166,1,24,.nils 3,.list 3 [],[]⟩:=rfl
theorem B4:Mb 43=⟨.struct [(0,1),(1,1),(2,1),(3,1)],4,88,.agg [.d (.str []),.nils 1,.nils 3,.nils 3],.agg [.str [],.list 1 [],.list 3 [],.list 3 []],[]⟩:=rfl
theorem B3:Mb 45=⟨.slice 82,1,24,.nils 3,.list 3 [],[]⟩:=rfl
theorem B1:Mb 47=⟨.slice 75,1,24,.nils 8,.list 8 [],[]⟩:=rfl
theorem B0:Mb 49=⟨.struct [(0,1),(1,1),(2,1)],3,64,.agg [.d (.str []),.nils 3,.nils 8],.agg [.str [],.list 3 [],.list 8 []],[]⟩:=rfl
theorem Bz:Mb 51=⟨.struct [(0,1),(1,1)],2,40,.agg [.d (.str []),.nils 3],.agg [.str [],.list 3 []],[]⟩:=rfl
theorem Bx:Mb 59=⟨.slice 72,1,24,.nils 2,.list 2 [],[]⟩:=rfl
theorem Bw:Mb 65=⟨.slice 3,1,24,.nils 1,.list 1 [],[]⟩:=rfl
theorem Bv:Mb 69=⟨.slice 45,1,24,.nils 1,.list 1 [],[]⟩:=rfl
theorem Bu:Mb 70=⟨.slice 4,1,24,.nils 1,.list 1 [],[]⟩:=rfl
theorem Bt:Mb 72=⟨.struct [(0,1),(1,1)],2,32,.agg [.d (.int .i64 0),.nils 3],.agg [.int .i64 0,.list 3 []],[]⟩:=rfl
theorem Bs:Mb 75=⟨.struct [(0,1),(1,1),(2,1),(3,1),(4,1),(5,1),(6,1),(7,1)],8,120,.agg [.d (.int .i64 0),.d (.str []),.d (.str []),.d (.str []),.d (.int .i64 0),.d (.int .i64 0),.nils 3,.nils 3],.agg [.int .i64 0,.str [],.str [],.str [],.int .i64 0,.int .i64 0,.list 3 [],.list 3 []],[]⟩:=rfl
theorem Br:Mb 80=⟨.func,1,8,.d .nilf,.nilf,[]⟩:=rfl
theorem Bq:Mb 82=⟨.struct [(0,1),(1,1),(2,1)],3,32,.d (.agg [.int .i64 0,.str [],.int .i64 0]),.agg [.int .i64 0,.str [],.int .i64 0],[.int .i64,.str,.int .i64]⟩:=rfl
theorem Bp:Mb 86=⟨.func,1,8,.d .nilf,.nilf,[]⟩:=rfl
theorem Bo:Mb 87=⟨.func,1,8,.d .nilf,.nilf,[]⟩:=rfl
theorem Bn:Mb 88=⟨.map 9 43,1,8,.d .nilm,.nilm,[]⟩:=rfl
theorem Bm:Mb 91=⟨.func,1,8,.d .nilf,.nilf,[]⟩:=rfl
theorem Bl:Mb 92=⟨.func,1,8,.d .nilf,.nilf,[]⟩:=rfl
theorem Hn:Mb 105=⟨.map 3 4,1,8,.d .nilm,.nilm,[]⟩:=rfl
theorem Hm:Mb 109=⟨.func,1,8,.d .nilf,.nilf,[]⟩:=rfl
theorem Hl:Mb 115=⟨.func,1,8,.d .nilf,.nilf,[]⟩:=rfl
theorem Hk:Mb 124=⟨.map 9 4,1,8,.d .nilm,.nilm,[]⟩:=rfl
theorem Hj:Mb 125=⟨.func,1,8,.d .nilf,.nilf,[]⟩:=rfl
theorem Hi:Mb 130=⟨.func,1,8,.d .nilf,.nilf,[]⟩:=rfl
theorem Hh:Mb 133=⟨.slice 141,1,24,.nils 4,.list 4 [],[]⟩:=rfl
theorem Hg:Mb 137=⟨.struct [(0,1),(1,1),(2,1)],3,40,.agg [.d (.int .i64 0),.nils 3,.d (.int .i64 0)],.agg [.int .i64 0,.list 3 [],.int .i64 0],[]⟩:=rfl
theorem Hf:Mb 141=⟨.struct [(0,1),(1,1),(2,1),(3,1)],4,40,.d (.agg [.int .i64 0,.str [],.int .i64 0,.int .i64 0]),.agg [.int .i64 0,.str [],.int .i64 0,.int .i64 0],[.int .i64,.str,.int .i64,.int .i64]⟩:=rfl
theorem He:Mb 143=⟨.map 9 3,1,8,.d .nilm,.nilm,[]⟩:=rfl
theorem Hd:Mb 152=⟨.map 3 45,1,8,.d .nilm,.nilm,[]⟩:=rfl
theorem Hc:Mb 155=⟨.func,1,8,.d .nilf,.nilf,[]⟩:=rfl
theorem Hb:Mb 157=⟨.func,1,8,.d .nilf,.nilf,[]⟩:=rfl
theorem Ha:Mb 158=⟨.func,1,8,.d .nilf,.nilf,[]⟩:=rfl
theorem G9:Mb 160=⟨.struct [(0,1),(1,1),(2,1)],3,56,.agg [.nils 3,.nils 3,.d .nilf],.agg [.list 3 [],.list 3 [],.nilf],[]⟩:=rfl
theorem G8:Mb 166=⟨.struct [(0,1),(1,1),(2,1)],3,24,.d (.agg [.int .i64 0,.int .i64 0,.bool false]),.agg [.int .i64 0,.int .i64 0,.bool false],[.int .i64,.int .i64,.bool]⟩:=rfl
theorem G7:Mb 168=⟨.array 15 3,15,120,.d (.agg [.int .i64 0,.int .i64 0,.int .i64 0,.int .i64 0,.int .i64 0,.int .i64 0,.int .i64 0,.int .i64 0,.int .i64 0,.int .i64 0,.int .i64 0,.int .i64 0,.int .i64 0,.int .i64 0,.int .i64 0]),.agg [.int .i64 0,.int .i64 0,.int .i64 0,.int .i64 0,.int .i64 0,.int .i64 0,.int .i64 0,.int .i64 0,.int .i64 0,.int .i64 0,.int .i64 0,.int .i64 0,.int .i64 0,.int .i64 0,.int .i64 0],[]⟩:=rfl
theorem G6:Mb 185=⟨.func,1,8,.d .nilf,.nilf,[]⟩:=rfl
theorem G5:Mb 186=⟨.func,1,8,.d .nilf,.nilf,[]⟩:=rfl
theorem G4:Mb 196=⟨.int .u64,1,8,.d (.int .u64 0),.int .u64 0,[]⟩:=rfl
theorem G3:Mb 198=⟨.func,1,8,.d .nilf,.nilf,[]⟩:=rfl
theorem Gz:Mb 213=⟨.int .i64,1,8,.d (.int .i64 0),.int .i64 0,[]⟩:=rfl
theorem Gy:Mb 220=⟨.int .u32,1,4,.d (.int .u32 0),.int .u32 0,[]⟩:=rfl
theorem Gx:Mb 222=⟨.int .u64,1,8,.d (.int .u64 0),.int .u64 0,[]⟩:=rfl
theorem Gw:Mb 234=⟨.slice 5,1,24,.nils 1,.list 1 [],[]⟩:=rfl
theorem Gv:Mb 236=⟨.func,1,8,.d .nilf,.nilf,[]⟩:=rfl
theorem Gu:Mb 239=⟨.int .u64,1,8,.d (.int .u64 0),.int .u64 0,[]⟩:=rfl
theorem Gt:Mb 243=⟨.ptr 3,1,8,.d .nilp,.nilp,[]⟩:=rfl
theorem Gq:Mb 256=⟨.ptr 239,1,8,.d .nilp,.nilp,[]⟩:=rfl
theorem Gp:Mb 261=⟨.struct [(0,1),(1,1),(2,1),(3,1)],4,48,.agg [.d (.int .i64 0),.d (.int .i64 0),.nils 3,.d (.int .i64 0)],.agg [.int .i64 0,.int .i64 0,.list 3 [],.int .i64 0],[]⟩:=rfl
theorem Gn:Mb 264=⟨.slice 47,1,24,.nils 1,.list 1 [],[]⟩:=rfl
theorem Zv:W4 Tryz.prog Mb:=Zxt (by kernel_rfl)
theorem Zn:Tryz.prog.follows .mixedOrders=true:=by kernel_rfl
instance encU8:Enc UInt8:=⟨fun b=>.int .u8 b.toNat,fun x=>UInt8.ofNat x.i.toNat,fun b=>by simp [D.i]⟩
instance szU8:Sz UInt8:=⟨1⟩
theorem Zrq {b:UInt8}:(enc b:D)=.int .u8 b.toNat:=rfl
theorem Zq1 {b:UInt8}:V9 UInt8 (.int .u8 b.toNat)=True:=eq_true (Xq b)
theorem Zru {b:UInt8}:(dec (.int .u8 b.toNat):UInt8)=b:=Enc.dec_enc b
def Xx (c a b:UInt8):Bool:=decide (a≤c)&&decide (c≤b)
theorem Kj {a b:UInt8}:Xf (a.toNat:Int) (b.toNat:Int)=decide (a≤b):=by
 unfold Xf
 congr 1
 rw [UInt8.le_iff_toNat_le];exact propext (by omega)
def K1:Con:=Vp (fun (_ _ _:UInt8)=>True) (fun c a b=>Xx c a b)
theorem pN:type_of% @K1.eq_def:=@K1.eq_def
theorem Qij {p:Prop} (h:p:=by (sym=>simp [Kt,Kc,Kd,Kb,Ku,Kw,Ko,X9,Uv,Po,Cx,Oj,kK,oB,Zbx,Zlp,Zlo,Ok,Qb,Qf,Z9,Qe,Qc,Qh,Qn,Q6,Je,Q4,Zu,Zx,Zw,Zz,Zy,Qd,Z1,Z0,Qi,Qk,Qs,Q8,Q5,Qy,Jh,Jg,Wb,Wn,Wx,W0,Wz,Gb,Ga,H3,H2,Hq,Hp,M4,M3,Nm,M0,Mz,Nz,My,Mx,Mw,D.setCell.eq_1,Zj,Ju,Jt,Xm,Js,J2,J1,Xb,Kj,Zll,Zlk,Zlj,Zli,Zlh,Zlg,Zlf,Zle,Zld,Zlc,Zlb,Zla,Zk9,Zk8,Zk7,Zk6,Zk5,Zk4,Zk3,Zk2,Zk1,Zk0,Zkz,Zky,Zkx,Zkw,Zkv,Zku,Zkt,Zks,Zkr,Zkq,Zkp,Zko,Zkn,Zkm,Zkl,Zkk,Zkj,Zki,Zkh,Zkg,Zkf,Zke,Zkd,Zkc,Zkb,Zka,Zj9,Zj8,Zj7,Zj6,Zj5,Zj4,Zj3,Zj2,Zj1,Zj0,Zjz,Zjy,Zjx,Zjw,Zjv,Zju,Zjt,Zjs,Zjr,Zjq,Zjp,Zjo,Zjn,Zjm,Zjl,Zjk,Zjj,Zji,Zjh,Zjg,Zjf,Zje,Zjd,Zjc,Zjb,Zja,Zi9,Zi8,Zi7,Zi6,Zi5,Zi4,Zi3,Zi2,Zi1,Zi0,Ziz,Ziy,Zix,Ziw,Ziv,Ziu,Zit,Zis,Zir,Ziq,Zip,Zio,Zin,Zim,Zil,Zik,Zij,Zii,Zih,Zig,Zif,Zie,Zid,Zic,Zib,Zia,Zh9,Zh8,Zh7,Zh6,Zh5,Zh4,Zh3,Zh2,Zh1,Zh0,Zhz,Zhy,Zhx,Zhw,Zhv,Zhu,Zht,Zhs,Zhr,Zhq,Zhp,Zho,Zhn,Zhm,Zhl,Zhk,Zhj,Zhi,Zhh,Zhg,Zhf,Zhe,Zhd,Zhc,Zhb,Zha,Zg9,Zg8,Zg7,Zg6,Zg5,Zg4,Zg3,Zg2,Zg1,Zg0,Zgz,Zgy,Zgx,Zgw,Zgv,Zgu,Zgt,Zgs,Zgr,Zgq,Zgp,Zgo,Zgn,Zgm,Zgl,Zgk,Zgj,Zgi,Zgh,Zgg,Zgf,Zge,Zgd,Zgc,Zgb,Zga,Zf9,Zf8,Zf7,Zf6,Zf5,Zf4,Zf3,Zf2,Zf1,Zf0,Zfz,Zfy,Zfx,Zfw,Zfv,Zfu,Zft,Zfs,Zfr,Zfq,Zfp,Zfo,Zfn,Zfm,Zfl,Zfk,Zfj,Zfi,Zfh,Zfg,Zff,Zfe,Zfd,Zfc,Zfb,Zfa,Ze9,Ze8,Ze7,Ze6,Ze5,Ze4,Ze3,Ze2,Ze1,Ze0,Zez,Zey,Zex,Zew,Zev,Zeu,Zet,Zes,Zer,Zeq,Zep,Zeo,Zen,Zem,Zel,Zek,Zej,Zei,Zeh,Zeg,Zef,Zee,Zed,Zec,Zeb,Zea,Zd9,Zd8,Zd7,Zd6,Zd5,Zd4,Zd3,Zd2,Zd1,Zd0,Zdz,Zdy,Zdx,Zdw,Zdv,Zdu,Zdt,Zds,Zdr,Zdq,Zdp,Zdo,Zdn,Zdm,Zdl,Zdk,Zdj,Zdi,Zdh,Zdg,Zdf,Zde,Zdd,Zdc,Zdb,Zda,Zc9,Zc8,Zc7,Zc6,Zc5,Zc4,Zc3,Zc2,Zc1,Zc0,Zcz,Zcy,Zcx,Zcw,Zcv,Zcu,Zct,Zcs,Zcr,Zcq,Zcp,Zco,Zcn,Zcm,Zcl,Zck,Zcj,Zci,Zch,Zcg,Zcf,Zce,Zcd,Zcc,Zcb,Zca,Zb9,Zb8,Zb7,Zb6,Zb5,Zb4,Zb3,Zb2,Zb1,Zb0,Zbz,Zby,Of,Oe,Od,Oc,Ob,Oa,Le,Ld,Lb,La,B9,B8,B7,B6,B5,B4,B3,B1,B0,Bz,Bx,Bw,Bv,Bu,Bt,Bs,Br,Bq,Bp,Bo,Bn,Bm,Bl,Hn,Hm,Hl,Hk,Hj,Hi,Hh,Hg,Hf,He,Hd,Hc,Hb,Ha,G9,G8,G7,G6,G5,G4,G3,Gz,Gy,Gx,Gw,Gv,Gu,Gt,Gq,Gp,Gn])):p:=h
theorem Tu {p:Prop} (h:p:=by
 (sym=>simp [Kt,Kc,Kd,Kb,Ku,Kw,Ko,X9,Uv,Po,Cx,Oj,kK,oB,Zbx,Zlp,Zlo,Ok,Qb,Qf,Z9,Qe,Qc,Qh,Qn,Q6,Je,Q4,Zu,Zx,Zw,Zz,Zy,Qd,Z1,Z0,Qi,Qk,Qs,Q8,Q5,Qy,Jh,Jg,Wb,Wn,Wx,W0,Wz,Gb,Ga,H3,H2,Hq,Hp,M4,M3,Nm,M0,Mz,Nz,My,Mx,Mw,D.setCell.eq_1,Zj,Ju,Jt,Xm,Js,J2,J1,Xb,Kj,Zll,Zlk,Zlj,Zli,Zlh,Zlg,Zlf,Zle,Zld,Zlc,Zlb,Zla,Zk9,Zk8,Zk7,Zk6,Zk5,Zk4,Zk3,Zk2,Zk1,Zk0,Zkz,Zky,Zkx,Zkw,Zkv,Zku,Zkt,Zks,Zkr,Zkq,Zkp,Zko,Zkn,Zkm,Zkl,Zkk,Zkj,Zki,Zkh,Zkg,Zkf,Zke,Zkd,Zkc,Zkb,Zka,Zj9,Zj8,Zj7,Zj6,Zj5,Zj4,Zj3,Zj2,Zj1,Zj0,Zjz,Zjy,Zjx,Zjw,Zjv,Zju,Zjt,Zjs,Zjr,Zjq,Zjp,Zjo,Zjn,Zjm,Zjl,Zjk,Zjj,Zji,Zjh,Zjg,Zjf,Zje,Zjd,Zjc,Zjb,Zja,Zi9,Zi8,Zi7,Zi6,Zi5,Zi4,Zi3,Zi2,Zi1,Zi0,Ziz,Ziy,Zix,Ziw,Ziv,Ziu,Zit,Zis,Zir,Ziq,Zip,Zio,Zin,Zim,Zil,Zik,Zij,Zii,Zih,Zig,Zif,Zie,Zid,Zic,Zib,Zia,Zh9,Zh8,Zh7,Zh6,Zh5,Zh4,Zh3,Zh2,Zh1,Zh0,Zhz,Zhy,Zhx,Zhw,Zhv,Zhu,Zht,Zhs,Zhr,Zhq,Zhp,Zho,Zhn,Zhm,Zhl,Zhk,Zhj,Zhi,Zhh,Zhg,Zhf,Zhe,Zhd,Zhc,Zhb,Zha,Zg9,Zg8,Zg7,Zg6,Zg5,Zg4,Zg3,Zg2,Zg1,Zg0,Zgz,Zgy,Zgx,Zgw,Zgv,Zgu,Zgt,Zgs,Zgr,Zgq,Zgp,Zgo,Zgn,Zgm,Zgl,Zgk,Zgj,Zgi,Zgh,Zgg,Zgf,Zge,Zgd,Zgc,Zgb,Zga,Zf9,Zf8,Zf7,Zf6,Zf5,Zf4,Zf3,Zf2,Zf1,Zf0,Zfz,Zfy,Zfx,Zfw,Zfv,Zfu,Zft,Zfs,Zfr,Zfq,Zfp,Zfo,Zfn,Zfm,Zfl,Zfk,Zfj,Zfi,Zfh,Zfg,Zff,Zfe,Zfd,Zfc,Zfb,Zfa,Ze9,Ze8,Ze7,Ze6,Ze5,Ze4,Ze3,Ze2,Ze1,Ze0,Zez,Zey,Zex,Zew,Zev,Zeu,Zet,Zes,Zer,Zeq,Zep,Zeo,Zen,Zem,Zel,Zek,Zej,Zei,Zeh,Zeg,Zef,Zee,Zed,Zec,Zeb,Zea,Zd9,Zd8,Zd7,Zd6,Zd5,Zd4,Zd3,Zd2,Zd1,Zd0,Zdz,Zdy,Zdx,Zdw,Zdv,Zdu,Zdt,Zds,Zdr,Zdq,Zdp,Zdo,Zdn,Zdm,Zdl,Zdk,Zdj,Zdi,Zdh,Zdg,Zdf,Zde,Zdd,Zdc,Zdb,Zda,Zc9,Zc8,Zc7,Zc6,Zc5,Zc4,Zc3,Zc2,Zc1,Zc0,Zcz,Zcy,Zcx,Zcw,Zcv,Zcu,Zct,Zcs,Zcr,Zcq,Zcp,Zco,Zcn,Zcm,Zcl,Zck,Zcj,Zci,Zch,Zcg,Zcf,Zce,Zcd,Zcc,Zcb,Zca,Zb9,Zb8,Zb7,Zb6,Zb5,Zb4,Zb3,Zb2,Zb1,Zb0,Zbz,Zby,Of,Oe,Od,Oc,Ob,Oa,Le,Ld,Lb,La,B9,B8,B7,B6,B5,B4,B3,B1,B0,Bz,Bx,Bw,Bv,Bu,Bt,Bs,Br,Bq,Bp,Bo,Bn,Bm,Bl,Hn,Hm,Hl,Hk,Hj,Hi,Hh,Hg,Hf,He,Hd,Hc,Hb,Ha,G9,G8,G7,G6,G5,G4,G3,Gz,Gy,Gx,Gw,Gv,Gu,Gt,Gq,Gp,Gn];tactic =>
   try simp only [I4] at *
   try simp only [Zw8] at *
   try simp (maxSteps:=4000000) only [Qb,Qf,Z9,Qe,Qc,Qh,Qn,Q6,Je,Q4,Zu,Zx,Zw,Zz,Zy,Qd,Z1,Z0,Qi,Qk,Qs,Q8,Q5,Qy,Jh,Jg,Wb,Wn,Wx,W0,Wz,Gb,Ga,H3,H2,Hq,Hp,M4,M3,Nm,M0,Mz,Nz,My,Mx,Mw,D.setCell.eq_1,Zj,Ju,Jt,Xm,Js,J2,J1,Xb,Kj,oC]
   first|done|exact Kq.k)):p:=h
theorem Qik {p:Prop} (h:p:=by
 first|(sym=>simp [Kt,Kc,Kd,Kb,Ku,Kw,Ko,X9,Uv,Po,Cx,Oj,kK,oB,Zbx,Zlp,Zlo,Ok,Qb,Qf,Z9,Qe,Qc,Qh,Qn,Q6,Je,Q4,Zu,Zx,Zw,Zz,Zy,Qd,Z1,Z0,Qi,Qk,Qs,Q8,Q5,Qy,Jh,Jg,Wb,Wn,Wx,W0,Wz,Gb,Ga,H3,H2,Hq,Hp,M4,M3,Nm,M0,Mz,Nz,My,Mx,Mw,D.setCell.eq_1,Zj,Ju,Jt,Xm,Js,J2,J1,Xb,Kj,Zll,Zlk,Zlj,Zli,Zlh,Zlg,Zlf,Zle,Zld,Zlc,Zlb,Zla,Zk9,Zk8,Zk7,Zk6,Zk5,Zk4,Zk3,Zk2,Zk1,Zk0,Zkz,Zky,Zkx,Zkw,Zkv,Zku,Zkt,Zks,Zkr,Zkq,Zkp,Zko,Zkn,Zkm,Zkl,Zkk,Zkj,Zki,Zkh,Zkg,Zkf,Zke,Zkd,Zkc,Zkb,Zka,Zj9,Zj8,Zj7,Zj6,Zj5,Zj4,Zj3,Zj2,Zj1,Zj0,Zjz,Zjy,Zjx,Zjw,Zjv,Zju,Zjt,Zjs,Zjr,Zjq,Zjp,Zjo,Zjn,Zjm,Zjl,Zjk,Zjj,Zji,Zjh,Zjg,Zjf,Zje,Zjd,Zjc,Zjb,Zja,Zi9,Zi8,Zi7,Zi6,Zi5,Zi4,Zi3,Zi2,Zi1,Zi0,Ziz,Ziy,Zix,Ziw,Ziv,Ziu,Zit,Zis,Zir,Ziq,Zip,Zio,Zin,Zim,Zil,Zik,Zij,Zii,Zih,Zig,Zif,Zie,Zid,Zic,Zib,Zia,Zh9,Zh8,Zh7,Zh6,Zh5,Zh4,Zh3,Zh2,Zh1,Zh0,Zhz,Zhy,Zhx,Zhw,Zhv,Zhu,Zht,Zhs,Zhr,Zhq,Zhp,Zho,Zhn,Zhm,Zhl,Zhk,Zhj,Zhi,Zhh,Zhg,Zhf,Zhe,Zhd,Zhc,Zhb,Zha,Zg9,Zg8,Zg7,Zg6,Zg5,Zg4,Zg3,Zg2,Zg1,Zg0,Zgz,Zgy,Zgx,Zgw,Zgv,Zgu,Zgt,Zgs,Zgr,Zgq,Zgp,Zgo,Zgn,Zgm,Zgl,Zgk,Zgj,Zgi,Zgh,Zgg,Zgf,Zge,Zgd,Zgc,Zgb,Zga,Zf9,Zf8,Zf7,Zf6,Zf5,Zf4,Zf3,Zf2,Zf1,Zf0,Zfz,Zfy,Zfx,Zfw,Zfv,Zfu,Zft,Zfs,Zfr,Zfq,Zfp,Zfo,Zfn,Zfm,Zfl,Zfk,Zfj,Zfi,Zfh,Zfg,Zff,Zfe,Zfd,Zfc,Zfb,Zfa,Ze9,Ze8,Ze7,Ze6,Ze5,Ze4,Ze3,Ze2,Ze1,Ze0,Zez,Zey,Zex,Zew,Zev,Zeu,Zet,Zes,Zer,Zeq,Zep,Zeo,Zen,Zem,Zel,Zek,Zej,Zei,Zeh,Zeg,Zef,Zee,Zed,Zec,Zeb,Zea,Zd9,Zd8,Zd7,Zd6,Zd5,Zd4,Zd3,Zd2,Zd1,Zd0,Zdz,Zdy,Zdx,Zdw,Zdv,Zdu,Zdt,Zds,Zdr,Zdq,Zdp,Zdo,Zdn,Zdm,Zdl,Zdk,Zdj,Zdi,Zdh,Zdg,Zdf,Zde,Zdd,Zdc,Zdb,Zda,Zc9,Zc8,Zc7,Zc6,Zc5,Zc4,Zc3,Zc2,Zc1,Zc0,Zcz,Zcy,Zcx,Zcw,Zcv,Zcu,Zct,Zcs,Zcr,Zcq,Zcp,Zco,Zcn,Zcm,Zcl,Zck,Zcj,Zci,Zch,Zcg,Zcf,Zce,Zcd,Zcc,Zcb,Zca,Zb9,Zb8,Zb7,Zb6,Zb5,Zb4,Zb3,Zb2,Zb1,Zb0,Zbz,Zby,Of,Oe,Od,Oc,Ob,Oa,Le,Ld,Lb,La,B9,B8,B7,B6,B5,B4,B3,B1,B0,Bz,Bx,Bw,Bv,Bu,Bt,Bs,Br,Bq,Bp,Bo,Bn,Bm,Bl,Hn,Hm,Hl,Hk,Hj,Hi,Hh,Hg,Hf,He,Hd,Hc,Hb,Ha,G9,G8,G7,G6,G5,G4,G3,Gz,Gy,Gx,Gw,Gv,Gu,Gt,Gq,Gp,Gn];tactic =>
   try simp only [I4] at *
   try simp only [Zw8] at *
   try simp (maxSteps:=4000000) only [Qb,Qf,Z9,Qe,Qc,Qh,Qn,Q6,Je,Q4,Zu,Zx,Zw,Zz,Zy,Qd,Z1,Z0,Qi,Qk,Qs,Q8,Q5,Qy,Jh,Jg,Wb,Wn,Wx,W0,Wz,Gb,Ga,H3,H2,Hq,Hp,M4,M3,Nm,M0,Mz,Nz,My,Mx,Mw,D.setCell.eq_1,Zj,Ju,Jt,Xm,Js,J2,J1,Xb,Kj,oC]
   repeat' first|with_reducible assumption|with_reducible apply Zb|intro _|omega|(rw [Xr];omega)
   all_goals first|with_reducible exact Jd|omega|rfl|trivial|exact Or.inr trivial|assumption|contradiction|exact Qw)|exact Qij):p:=h
structure Kab:Prop
theorem Kab.k (_:Kab) (h:p:=by
 repeat' first|exact Z8|with_reducible apply Zb|intro _
 ·rename_i h;unfold Xx;simp [h]
 ·rename_i h;unfold Xx;rw [decide_eq_false h];rfl):p:=h
theorem good_within:Qa Tryz.prog (220,K1):=by
 obtain ⟨Kx,Kt,Kc,Kd,Kb,Ku,Kw,K,_⟩:=Xe Zv Zn [] false Xd;have Ko:=pN;refine Xj K Tryz.func220 [.tmp 6] rfl 15 rfl (fun c hc cvs hpre=>?_);unfold K1 at hpre;obtain ⟨x,y,z,rfl,-⟩:=Vb hpre;cases hc;have Ud:=Kt;have Qb:=@Zrq;have Qf:=@Zq1;have Z9:=@Zru;have Kq:Kab:=⟨⟩;exact Tu
def behind (c:UInt8):Bool:=Xx c 97 122||Xx c 65 90||Xx c 48 57||c==95
theorem Nk {a b:UInt8}:((a.toNat:Int)==(b.toNat:Int))=(a==b):=by
 rw [Bool.eq_iff_iff,Zk,Zk];constructor
 ·intro h;exact UInt8.toNat_inj.1 (by omega)
 ·intro h;rw [h]
theorem Qgy:D.int .u8 97=enc (97:UInt8):=rfl
theorem Qgd:D.int .u8 122=enc (122:UInt8):=rfl
theorem Qig:D.int .u8 65=enc (65:UInt8):=rfl
theorem Qif:D.int .u8 90=enc (90:UInt8):=rfl
theorem Qg0:D.int .u8 48=enc (48:UInt8):=rfl
theorem Qgz:D.int .u8 57=enc (57:UInt8):=rfl
theorem Ud {b:UInt8}:(.int .u8 b.toNat:D)=enc b:=rfl
theorem Wh {k:IntKind} {x:UInt8}:D.isInt k (enc x)=(.u8=k):=rfl
theorem Fn {x:UInt8}:D.i (enc x)=x.toNat:=rfl
theorem Y3 {s:Nat} {x:UInt8}:D.fits s (enc x)=(s=1):=rfl
theorem Y5 {f:Nat} {x:UInt8}:D.cell (enc x) f=enc x:=rfl
theorem Qha {x:UInt8}:((x.toNat:Int)==95)=(x==95):=Nk (b:=95)
def Ie:Con:=J7 (fun (_:UInt8)=>True) (fun c=>behind c)
structure Kac:Prop
theorem Kac.k (_:Kac) (h:p:=by
 unfold behind;refine ⟨fun h1=>⟨fun h2=>⟨fun h3=>?_,fun h3=>?_⟩,fun h2=>?_⟩,fun h1=>?_⟩;all_goals simp only [*,Bool.false_or,Bool.true_or,Bool.or_true]):p:=h
theorem good_behind:Qa Tryz.prog (248,Ie):=by
 obtain ⟨Kx,Kt,Kc,Kd,Kb,Ku,Kw,K,X9,_⟩:=Xe Zv Zn [] false (Q0 good_within pN Xd);have Ko:=Ie.eq_def;refine Xj K Tryz.func248 [.tmp 2] rfl 17 rfl (fun c hc cvs hpre=>?_);unfold Ie at hpre;obtain ⟨x,rfl,-⟩:=Q2 hpre;cases hc;have Qb:=@Qgy;have Qf:=@Qgd;have Z9:=@Qig;have Qe:=@Qif;have Qc:=@Qg0;have Qh:=@Qgz;have Qn:=@Ud;have Q6:=@Wh;have Je:=@Fn;have Q4:=@Y3;have Zu:=@Y5;have Zx:=@Qha;have Kq:Kac:=⟨⟩;exact Tu
def Pj (s:List UInt8):Bool:=s.all behind
theorem tD {s:List UInt8} {j:Nat}:(s.drop 1).getD j 0=s.getD (j+1) 0:=by
 simp [Zd,Nat.add_comm]
def aD:Con:=J7 (fun (s:List UInt8)=>s.length≤9223372036854775807) (fun s=>Pj (s.drop 1))
structure Kae:Prop
theorem Kae.k (_:Kae) (h:p:=by
 repeat' first|exact Z8|with_reducible apply Zb|intro _
 ·rename_i hb;unfold Pj;rw [Cw (p:=behind) 0 (k-1) (by rw [List.length_drop];omega) (by rw [tD,show k-1+1=k by omega];exact hb)]
 ·rename_i hb;refine ⟨k+1,by exact Qw,by omega,by omega,fun j h1 hj=>?_,by omega⟩
  by_cases hjk:j=k
  ·subst hjk;exact hb
  ·exact hno j h1 (by omega)):p:=h
structure Kaf:Prop
theorem Kaf.k (_:Kaf) (h:p:=by
 unfold Pj;rw [N6 (p:=behind) 0 fun j hj=>?_];rw [tD];rw [List.length_drop] at hj;exact hno (j+1) (by omega) (by omega)):p:=h
structure Kad:Prop
theorem Kad.k (_:Kad) (h:p:=by
 refine Zm [2,4,5,6,7,8,9,10,11,12,13,14] (fun k:Nat=>[(3,.d (.int .i64 k))]) (fun k:Nat=>[]) (fun k:Nat=>1≤k∧(k=1∨k≤s.length)∧∀ j,1≤j→j<k→behind (s.getD j 0)=true) (fun k:Nat=>s.length-k) 1 ?_ ?_ ?_
 ·simp;omega
 ·exact Qw
 rintro k ⟨hk1,hk,hno⟩;rcases Zo k s.length with ⟨hlt,Qb⟩|⟨hlt,Qb⟩
 ·have Qf:=@Ud;have Z9:=@Wh;have Qe:=@Fn;have Qc:=@Y3;have Qh:=@Y5;have Kq:Kae:=⟨⟩;exact Tu
 ·have Kq:Kaf:=⟨⟩;exact Tu):p:=h
theorem good_all1:Qa Tryz.prog (221,aD):=by
 obtain ⟨Kx,Kt,Kc,Kd,Kb,Ku,Kw,K,X9,_⟩:=Xe Zv Zn [] false (Q0 good_behind Ie.eq_def Xd);have Ko:=aD.eq_def;refine Xj K Tryz.func221 [.tmp 2] rfl 15 rfl (fun c hc cvs hpre=>?_);unfold aD at hpre;obtain ⟨s,rfl,hs⟩:=Q2 hpre;cases hc;have Kq:Kad:=⟨⟩;exact Tu
def Wg (s:List UInt8):Bool:=match s with
 | []=>false
 | c::r=>Xx c 97 122&&Pj r
def N8 (s:List UInt8):Bool:=match s with
 | []=>false
 | c::r=>Xx c 65 90&&Pj r
def Vw:Con:=J7 (fun (s:List UInt8)=>s.length≤9223372036854775807) (fun s=>Wg s)
theorem Eg:type_of% @Vw.eq_def:=@Vw.eq_def
structure Kag:Prop
theorem Kag.k (_:Kag) (h:p:=by
 cases s with
 | nil=>simp [Wg]
 | cons c r =>
  simp only [Zi] at hs;simp only [Zi,Wg,Int.toNat_zero,List.getD_cons_zero,List.drop_succ_cons,List.drop_zero];repeat' first|exact Z8|with_reducible apply Zb|intro _
  all_goals simp_all):p:=h
theorem good_IsWord1:Qa Tryz.prog (181,Vw):=by
 obtain ⟨Kx,Kt,Kc,Kd,Kb,Ku,Kw,K,X9,Uv,_⟩:=Xe Zv Zn [] false (Q0 good_within pN (Q0 good_all1 aD.eq_def Xd));have Ko:=Eg;refine Xj K Tryz.func181 [.tmp 2] rfl 15 rfl (fun c hc cvs hpre=>?_);unfold Vw at hpre;obtain ⟨s,rfl,hs⟩:=Q2 hpre;cases hc;have Qb:=@Ud;have Qf:=@Wh;have Z9:=@Fn;have Qe:=@Y3;have Qc:=@Y5;have Qh:=@Qgy;have Qn:=@Qgd;have Kq:Kag:=⟨⟩;exact Tu
def K3:Con:=J7 (fun (s:List UInt8)=>s.length≤9223372036854775807) (fun s=>N8 s)
theorem pO:type_of% @K3.eq_def:=@K3.eq_def
structure Kah:Prop
theorem Kah.k (_:Kah) (h:p:=by
 cases s with
 | nil=>simp [N8]
 | cons c r =>
  simp only [Zi] at hs;simp only [Zi,N8,Int.toNat_zero,List.getD_cons_zero,List.drop_succ_cons,List.drop_zero];repeat' first|exact Z8|with_reducible apply Zb|intro _
  all_goals simp_all):p:=h
theorem good_IsTag1:Qa Tryz.prog (179,K3):=by
 obtain ⟨Kx,Kt,Kc,Kd,Kb,Ku,Kw,K,X9,Uv,_⟩:=Xe Zv Zn [] false (Q0 good_within pN (Q0 good_all1 aD.eq_def Xd));have Ko:=pO;refine Xj K Tryz.func179 [.tmp 2] rfl 15 rfl (fun c hc cvs hpre=>?_);unfold K3 at hpre;obtain ⟨s,rfl,hs⟩:=Q2 hpre;cases hc;have Qb:=@Ud;have Qf:=@Wh;have Z9:=@Fn;have Qe:=@Y3;have Qc:=@Y5;have Qh:=@Qig;have Qn:=@Qif;have Kq:Kah:=⟨⟩;exact Tu
structure Node where
 kind:Int
 name:List UInt8
 n:Int
 deriving DecidableEq
instance encNode:Enc Node:=⟨fun a=>.agg [.int .i64 a.kind,.str a.name,.int .i64 a.n],fun x=>match x with
 | .agg [a,b,c]=>⟨a.i,b.s,c.i⟩
 | _=>⟨0,[],0⟩,fun a=>rfl⟩
instance szNode:Sz Node:=⟨3⟩
theorem Nu:Sz.sz Node=3:=rfl
theorem Z2 {n:Node}:(enc n:D)=.agg [.int .i64 n.kind,.str n.name,.int .i64 n.n]:=rfl
theorem Z7 {a:Int} {b:List UInt8} {c:Int}:(dec (.agg [.int .i64 a,.str b,.int .i64 c]):Node)=⟨a,b,c⟩:=rfl
theorem Z5 {a:Int} {b:List UInt8} {c:Int}:V9 Node (.agg [.int .i64 a,.str b,.int .i64 c])=True:=eq_true rfl
theorem Z6 {a b:Node}:((a.kind==b.kind)&&((a.name==b.name)&&(a.n==b.n)))=(a==b):=by
 rw [Bool.eq_iff_iff];cases a;cases b;simp
theorem Z4 {n:Node}:Node.mk n.kind n.name n.n=n:=rfl
def W8 (n:Node):Int:=if n.kind=5 then 2 else if n.kind=6∨n.kind=7 then n.n else 0
def L7:Con:=J7 (fun (_:Node)=>True) (fun n=>W8 n)
structure Kai:Prop
theorem Kai.k (_:Kai) (h:p:=by
 unfold W8;refine ⟨fun h=>by rw [if_pos h],fun h=>⟨fun h6=>⟨fun h7=>by rw [if_neg h,if_pos (.inr h7)],fun h7=>by rw [if_neg h,if_neg (by omega)]⟩,fun h6=>by rw [if_neg h,if_pos (.inl h6)]⟩⟩):p:=h
theorem good_many3:Qa Tryz.prog (191,L7):=by
 obtain ⟨Kx,Kt,Kc,Kd,Kb,Ku,Kw,K,_⟩:=Xe Zv Zn [] false Xd;have Ko:=L7.eq_def;refine Xj K Tryz.func191 [.tmp 2] rfl 16 rfl (fun c hc cvs hpre=>?_);unfold L7 at hpre;obtain ⟨n,rfl,-⟩:=Q2 hpre;cases hc;have Qb:=@Z2;have Qf:=@Z5;have Z9:=@Z7;have Qe:=@Z4;have Qc:=@Nu;have Qh:=@Z6;have Kq:Kai:=⟨⟩;exact Tu
def Uq (n:Node):Bool :=
 if n.kind=0∨n.kind=8∨n.kind=9 then decide (0≤n.n)
 else if 1≤n.kind∧n.kind≤5 then decide (n.n=0)
 else if n.kind=6 then decide (0≤n.n)&&decide (n.n≤50)
 else if n.kind=7 then decide (1≤n.n)&&decide (n.n≤50)
 else false
def Sm:Con:=J7 (fun (_:Node)=>True) (fun n=>Uq n)
structure Kaj:Prop
theorem Kaj.k (_:Kaj) (h:p:=by
 unfold Uq;repeat' first|exact Z8|with_reducible apply Zb|intro _
 all_goals repeat (first|rw [if_pos (by omega)]|rw [if_neg (by omega)])
 all_goals try unfold Xf
 all_goals try unfold X4
 all_goals rw [Bool.eq_iff_iff]
 all_goals simp only [Zg,Bool.or_eq_true,decide_eq_true_eq,Zk,Zt,iff_self,false_iff,iff_false,true_iff,iff_true]
 all_goals omega):p:=h
theorem good_numbered3:Qa Tryz.prog (155,Sm):=by
 obtain ⟨Kx,Kt,Kc,Kd,Kb,Ku,Kw,K,_⟩:=Xe Zv Zn [] false Xd;have Ko:=Sm.eq_def;refine Xj K Tryz.func155 [.tmp 2] rfl 41 rfl (fun c hc cvs hpre=>?_);unfold Sm at hpre;obtain ⟨n,rfl,-⟩:=Q2 hpre;cases hc;refine Y4 2 ?_;have Qb:=@Z2;have Qf:=@Z5;have Z9:=@Z7;have Qe:=@Z4;have Qc:=@Nu;have Qh:=@Z6;have Kq:Kaj:=⟨⟩;exact Tu
def vW:List Node→Int→Nat
 | [],_=>0
 | n::l,o=>if o-1+W8 n=0 then 1 else 1+vW l (o-1+W8 n)
def fC (t:List Node) (i:Int):Int:=if i<0∨(t.length:Int)≤i then -1 else i+vW (t.drop i.toNat) 1
def Zpm (t:List Node):Prop:=t.length≤20000000∧∀ n∈t,0≤W8 n∧W8 n≤50
def aH:Con:=Xc (fun (t:Sl Node) (i:Int)=>Zpm t.l∧vV .i64 i) (fun t i=>fC t.l i)
structure Kal:Prop
theorem Kal.k (_:Kal) (h:p:=by
 repeat' first|exact Z8|with_reducible apply Zb|intro _
 ·rename_i hz;rw [if_pos hz] at he;rw [e0];omega
 ·rename_i hz;rw [if_neg hz] at he;exact ⟨(k+1,o-1+W8 (t.getD k ⟨0,[],0⟩)),by exact Qw,by simp only;omega,by simp only;omega,by simp only;omega,by simp only;omega,by simp only;omega,by simp only;omega⟩):p:=h
structure Kam:Prop
theorem Kam.k (_:Kam) (h:p:=by
 rw [e0];omega):p:=h
structure Kak:Prop
theorem Kak.k (_:Kak) (h:p:=by
 repeat' first|exact Z8|with_reducible apply Zb|intro _
 ·unfold fC;rw [if_pos (.inr ‹_›)]
 ·obtain ⟨i,rfl⟩:∃ n:Nat,i=n:=⟨i.toNat,by omega⟩
  have hil:i<t.length:=by omega
  have e0:fC t i=i+vW (t.drop i) 1:=by
   unfold fC;rw [if_neg (by omega)]
   rfl
  refine Zm [4,16,17,18,19,20,21,22,23,24,25,26,27,28,29,30,31,32,33] (fun p:Nat×Int=>[(5,.d (.int .i64 p.2)),(6,.d (.int .i64 p.1))]) (fun p:Nat×Int=>[]) (fun p:Nat×Int=>i≤p.1∧p.1≤t.length∧1≤p.2∧p.2≤1+50*p.1∧i+vW (t.drop i) 1=p.1+vW (t.drop p.1) p.2) (fun p:Nat×Int=>t.length-p.1) (i,1) ?_ ?_ ?_
  ·exact ⟨Zq _,by simp only;omega,by simp,by simp only;omega,rfl⟩
  ·exact Qw
  rintro ⟨k,o⟩ ⟨h1,h2,h3,h4,h5⟩;simp only at h1 h2 h3 h4 h5;rcases Zo k t.length with ⟨hlt,Qb⟩|⟨hlt,Qb⟩
  ·have hmk:=hm (t.getD k ⟨0,[],0⟩) (by simp [hlt])
   have he:vW (t.drop k) o=if o-1+W8 (t.getD k ⟨0,[],0⟩)=0 then 1 else 1+vW (t.drop (k+1)) (o-1+W8 (t.getD k ⟨0,[],0⟩)):=by
    rw [List.drop_eq_getElem_cons hlt,vW];simp [hlt]
   have Qf:=Zr (⟨0,[],0⟩:Node) hlt;have Z9:=@Z2;have Qe:=@Z5;have Qc:=@Z7;have Qh:=@Z4;have Qn:=@Nu;have Q6:=@Z6;have Kq:Kal:=⟨⟩;exact Tu
  ·have hd:t.drop k=[]:=List.drop_eq_nil_of_le hlt;rw [hd,vW] at h5;have Z9:=@Z2;have Qe:=@Z5;have Qc:=@Z7;have Qh:=@Z4;have Qn:=@Nu;have Q6:=@Z6;have Kq:Kam:=⟨⟩;exact Tu
 ·unfold fC;rw [if_pos (.inl ‹_›)]):p:=h
theorem good_End3:Qa Tryz.prog (156,aH):=by
 obtain ⟨Kx,Kt,Kc,Kd,Kb,Ku,Kw,K,X9,_⟩:=Xe Zv Zn [] false (Q0 good_many3 L7.eq_def Xd);have Ko:=aH.eq_def;refine Xj K Tryz.func156 [.tmp 4] rfl 36 rfl (fun c hc cvs hpre=>?_);unfold aH at hpre;obtain ⟨⟨t⟩,i,rfl,⟨ht,hm⟩,hi⟩:=Ql hpre;simp only at ht hm;rw [Xr] at hi;cases hc;refine Y4 2 ?_;have Z9:=@Z2;have Qe:=@Z5;have Qc:=@Z7;have Qh:=@Z4;have Qn:=@Nu;have Q6:=@Z6;have Kq:Kak:=⟨⟩;exact Tu
theorem Vd {α:Type} {l:List α} {k:Nat} (d:α) (h:k<l.length):l.take (k+1)=l.take k++[l.getD k d]:=by
 rw [List.take_succ_eq_append_getElem h];simp [h]
def Ux (t:List Node):Bool:=t.all fun n=>n.kind != 8&&n.kind != 9
def Sc:Con:=J7 (fun (t:Sl Node)=>t.l.length≤9223372036854775807) (fun t=>Ux t.l)
structure Kao:Prop
theorem Kao.k (_:Kao) (h:p:=by
 have hbad:((t.getD k ⟨0,[],0⟩).kind != 8&&(t.getD k ⟨0,[],0⟩).kind != 9)=false→false=Ux t:=by
  intro h;unfold Ux;rw [Cw (p:=fun n:Node=>n.kind != 8&&n.kind != 9) ⟨0,[],0⟩ k hlt h]
 repeat' first|exact Z8|with_reducible apply Zb|intro _
 ·rename_i h8 h9;exact hbad (by rw [h9];simp)
 ·rename_i h8 h9;refine ⟨k+1,by exact Qw,by omega,fun j hj=>?_,by omega⟩
  by_cases hjk:j=k
  ·subst hjk;simp only [bne_iff_ne,ne_eq,Zg];exact ⟨h8,h9⟩
  ·exact hno j (by omega)
 ·rename_i h8;exact hbad (by rw [h8];simp)):p:=h
structure Kap:Prop
theorem Kap.k (_:Kap) (h:p:=by
 unfold Ux;rw [N6 (p:=fun n:Node=>n.kind != 8&&n.kind != 9) ⟨0,[],0⟩ fun j hj=>hno j (by omega)]):p:=h
structure Kan:Prop
theorem Kan.k (_:Kan) (h:p:=by
 refine Zm [2,4,5,6,7,8,9,10,11,12,13,14,15,16,17,18,19,20,21,22,23] (fun k:Nat=>[(3,.d (.int .i64 k))]) (fun k:Nat=>[]) (fun k:Nat=>k≤t.length∧∀ j,j<k→((t.getD j ⟨0,[],0⟩).kind != 8&&(t.getD j ⟨0,[],0⟩).kind != 9)=true) (fun k:Nat=>t.length-k) 0 ?_ ?_ ?_
 ·simp
 ·exact Qw
 rintro k ⟨hk,hno⟩;rcases Zo k t.length with ⟨hlt,Qb⟩|⟨hlt,Qb⟩
 ·have Qf:=Zr (⟨0,[],0⟩:Node) hlt;have Z9:=@Z2;have Qe:=@Z5;have Qc:=@Z7;have Qh:=@Z4;have Qn:=@Nu;have Q6:=@Z6;have Kq:Kao:=⟨⟩;exact Tu
 ·have Z9:=@Z2;have Qe:=@Z5;have Qc:=@Z7;have Qh:=@Z4;have Qn:=@Nu;have Q6:=@Z6;have Kq:Kap:=⟨⟩;exact Tu):p:=h
theorem good_Plain3:Qa Tryz.prog (114,Sc):=by
 obtain ⟨Kx,Kt,Kc,Kd,Kb,Ku,Kw,K,_⟩:=Xe Zv Zn [] false Xd;have Ko:=Sc.eq_def;refine Xj K Tryz.func114 [.tmp 2] rfl 24 rfl (fun c hc cvs hpre=>?_);unfold Sc at hpre;obtain ⟨⟨t⟩,rfl,ht⟩:=Q2 hpre;simp only at ht;cases hc;have Z9:=@Z2;have Qe:=@Z5;have Qc:=@Z7;have Qh:=@Z4;have Qn:=@Nu;have Q6:=@Z6;have Kq:Kan:=⟨⟩;exact Tu
def lA (n:Node):Node:=if n.kind=0 then { n with n:=0 } else n
def fS (a b:List Node):Bool:=a.map lA==b.map lA
def Ft (a b:List Node):List Node:=⟨5,[],0⟩::(a++b)
def It:Con:=Xc (fun (a b:Sl Node)=>a.l.length≤1048576∧b.l.length≤1048576) (fun a b=>Sl.mk (Ft a.l b.l))
structure Kaq:Prop
theorem Kaq.k (_:Kaq) (h:p:=by
 repeat' first|exact Z8|with_reducible apply Zb|intro _
 rfl):p:=h
theorem good_Arrow3:Qa Tryz.prog (265,It):=by
 obtain ⟨Kx,Kt,Kc,Kd,Kb,Ku,Kw,K,_⟩:=Xe Zv Zn [] false Xd;have Ko:=It.eq_def;refine Xj K Tryz.func265 [.tmp 4] rfl 15 rfl (fun c hc cvs hpre=>?_);unfold It at hpre;obtain ⟨⟨a⟩,⟨b⟩,rfl,ha,hb⟩:=Ql hpre;simp only at ha hb;cases hc;have Qb:=@Z2;have Qf:=@Z5;have Z9:=@Z7;have Qe:=@Z4;have Qc:=@Nu;have Qh:=@Z6;have Kq:Kaq:=⟨⟩;exact Tu
theorem Zzi:∀ (l:List Node) (o:Int),vW l o≤l.length
 | [],o=>by simp [vW]
 | n::l,o=>by
  simp only [vW];split
  ·simp
  ·have:=Zzi l (o-1+W8 n);simp only [Zi];omega
def Xo (t:List Node):Nat→Nat→List Int
 | 0,_=>[]
 | m+1,at_=>if at_<t.length then (at_:Int)::Xo t m (at_+vW (t.drop at_) 1) else []
def Nd (t:List Node) (i:Int):List Int:=if i<0∨(t.length:Int)≤i then [] else Xo t (W8 (t.getD i.toNat ⟨0,[],0⟩)).toNat (i.toNat+1)
def Rq:Con:=Xc (fun (t:Sl Node) (i:Int)=>Zpm t.l∧vV .i64 i) (fun t i=>Sl.mk (Nd t.l i))
structure Kas:Prop
theorem Kas.k (_:Kas) (h:p:=by
 repeat' first|exact Z8|with_reducible apply Zb|intro _
 refine ⟨(k+1,q+vW (t.drop q) 1,out++[(q:Int)]),by exact Qw,by simp only;omega,by simp only;omega,by simp [h3],?_,by simp only;omega⟩
 simp only;rw [←h4,show M-(k+1)=M-k-1 by omega]
 simp):p:=h
structure Kat:Prop
theorem Kat.k (_:Kat) (h:p:=by
 repeat' first|exact Z8|with_reducible apply Zb|intro _
 rw [e0,h4]):p:=h
structure Kau:Prop
theorem Kau.k (_:Kau) (h:p:=by
 repeat' first|exact Z8|with_reducible apply Zb|intro _
 rw [e0,h4]):p:=h
structure Kar:Prop
theorem Kar.k (_:Kar) (h:p:=by
 repeat' first|exact Z8|with_reducible apply Zb|intro _
 ·unfold Nd;rw [if_pos (.inr ‹_›)];rfl
 ·obtain ⟨i,rfl⟩:∃ n:Nat,i=n:=⟨i.toNat,by omega⟩
  have hil:i<t.length:=by omega
  have hmi:=hm (t.getD i ⟨0,[],0⟩) (by simp [hil])
  obtain ⟨M,Z9⟩:∃ M:Nat,W8 (t.getD i ⟨0,[],0⟩)=M:=⟨(W8 (t.getD i ⟨0,[],0⟩)).toNat,by omega⟩
  have e0:Nd t i=Xo t M (i+1):=by
   unfold Nd;rw [if_neg (by omega)]
   simp only [Zj,Z9]
  refine Zm [20,21,22,23,24,25,26,27,28,29,30,31,32,33,34,35,36,37,38,39,40,41] (fun p:Nat×Nat×List Int=>[(5,.sl 8 (p.2.2.map enc).length),(6,.d (.int .i64 p.2.1)),(7,.d (.int .i64 p.1))]) (fun p:Nat×Nat×List Int=>[(8,.row 1 (p.2.2.map enc) 0)]) (fun p:Nat×Nat×List Int=>p.1≤M∧p.2.1≤t.length∧p.2.2.length=p.1∧p.2.2++Xo t (M-p.1) p.2.1=Xo t M (i+1)) (fun p:Nat×Nat×List Int=>M-p.1) (0,i+1,[]) ?_ ?_ ?_
  ·exact ⟨Nat.zero_le _,hil,rfl,rfl⟩
  ·exact Qw
  rintro ⟨k,q,out⟩ ⟨h1,h2,h3,h4⟩;simp only at h1 h2 h3 h4;rcases Zo k M with ⟨hk,Qb⟩|⟨hk,Qb⟩
  ·rcases Zo q t.length with ⟨hq,Qf⟩|⟨hq,Qf⟩
   ·have e1:M-k=(M-k-1)+1:=by omega
    rw [e1,Xo,if_pos hq] at h4;have hle:=Zzi (t.drop q) 1;rw [List.length_drop] at hle;have Qe:fC t q=((q+vW (t.drop q) 1:Nat):Int):=by
     unfold fC;rw [if_neg (by omega)]
     simp
    have hT:Zpm t:=⟨ht,hm⟩;have Qc:=Zr (⟨0,[],0⟩:Node) hil;have Q6:=@Z2;have Je:=@Z5;have Q4:=@Z7;have Zu:=@Z4;have Zx:=@Nu;have Zw:=@Z6;have Kq:Kas:=⟨⟩;exact Tu
   ·have hz:Xo t (M-k) q=[]:=by
     cases hc:M-k with
     | zero=>rfl
     | succ c=>rw [Xo,if_neg (by omega)]
    rw [hz,List.append_nil] at h4;have Qh:=Zr (⟨0,[],0⟩:Node) hil;have Q6:=@Z2;have Je:=@Z5;have Q4:=@Z7;have Zu:=@Z4;have Zx:=@Nu;have Zw:=@Z6;have Kq:Kat:=⟨⟩;exact Tu
  ·have hz:Xo t (M-k) q=[]:=by
    rw [show M-k=0 by omega]
    rfl
   rw [hz,List.append_nil] at h4;have Qn:=Zr (⟨0,[],0⟩:Node) hil;have Q6:=@Z2;have Je:=@Z5;have Q4:=@Z7;have Zu:=@Z4;have Zx:=@Nu;have Zw:=@Z6;have Kq:Kau:=⟨⟩;exact Tu
 ·unfold Nd;rw [if_pos (.inl ‹_›)];rfl):p:=h
theorem good_Kids3:Qa Tryz.prog (159,Rq):=by
 obtain ⟨Kx,Kt,Kc,Kd,Kb,Ku,Kw,K,X9,Uv,_⟩:=Xe Zv Zn [] false (Q0 good_End3 aH.eq_def (Q0 good_many3 L7.eq_def Xd));have Ko:=Rq.eq_def;refine Xj K Tryz.func159 [.tmp 4] rfl 43 rfl (fun c hc cvs hpre=>?_);unfold Rq at hpre;obtain ⟨⟨t⟩,i,rfl,⟨ht,hm⟩,hi⟩:=Ql hpre;simp only at ht hm;rw [Xr] at hi;cases hc;refine Y4 2 ?_;have Q6:=@Z2;have Je:=@Z5;have Q4:=@Z7;have Zu:=@Z4;have Zx:=@Nu;have Zw:=@Z6;have Kq:Kar:=⟨⟩;exact Tu
def Og:Int→List Int→List Int
 | x,[]=>if x=0 then [] else [x]
 | x,y::r=>if x=0 then Og (y-1) r else x::y::r
def Zu0:List Int→List Int
 | []=>[]
 | x::r=>Og x r
def oF:List Node→List Int→Bool
 | [],_=>true
 | n::l,rs=>if 100≤rs.length then false else oF l (Og (W8 n) rs)
def Dh (t:List Node):Bool:=oF t []
def Qdy (rs:List Int):Prop:=(∀ x∈rs,0≤x∧x≤50)∧∀ x∈rs.tail,1≤x
theorem gJ {x:Int} {r:List Int}:el ((x::r).reverse.map enc) r.length=.int .i64 x:=by
 simp [el]
theorem Zmi {x:Int} {r:List Int}:((x::r).reverse.map (enc:Int→D)).take r.length=r.reverse.map enc:=by
 rw [List.reverse_cons,List.map_append,List.take_left' (by simp)]
theorem bZ {x y:Int} {r:List Int}:((x::r).reverse.map (enc:Int→D)).set r.length (.int .i64 y)=(y::r).reverse.map enc:=by
 rw [List.reverse_cons,List.map_append,List.set_append];simp
theorem bJ {x:Int} {r:List Int} (h:x≠0):Og x r=x::r:=by
 cases r<;>simp [Og,h]
def Cc:Con:=J7 (fun (t:Sl Node)=>Zpm t.l) (fun t=>Dh t.l)
structure Kax:Prop
theorem Kax.k (_:Kax) (h:p:=by
 repeat' first|exact Z8|with_reducible apply Zb|intro _
 simp only [Zu0] at g4;exact ⟨(k+1,[]),by exact Qw,by simp only;omega,by simp,by simp,by simp only;rw [←h4,e1,g4],by simp only;omega⟩):p:=h
structure Kay:Prop
theorem Kay.k (_:Kay) (h:p:=by
 repeat' first|exact Z8|with_reducible apply Zb|intro _
 exact ⟨[],by exact Qw,⟨by simp,by simp⟩,by simp,by rw [←g4];rfl,by simp⟩):p:=h
structure Kaz:Prop
theorem Kaz.k (_:Kaz) (h:p:=by
 repeat' first|exact Z8|with_reducible apply Zb|intro _
 refine ⟨(y-1)::r,by exact Qw,⟨fun z Z9=>?_,fun z Z9=>g2 z (List.mem_cons_of_mem _ Z9)⟩,by simp only [Zi];omega,by rw [←g4];simp only [Zu0,Og,if_true],by simp only [Zi];omega⟩
 rcases Zs.1 Z9 with rfl|Z9
 ·omega
 ·exact g1 z (List.mem_cons_of_mem _ (List.mem_cons_of_mem _ Z9))):p:=h
structure KaA:Prop
theorem KaA.k (_:KaA) (h:p:=by
 repeat' first|exact Z8|with_reducible apply Zb|intro _
 have e3:Og M rs=x::r:=by rw [←g4];exact bJ hx0
 refine ⟨(k+1,x::r),by exact Qw,by simp only;omega,by simp only [Zi];omega,fun z Z9=>?_,by simp only;rw [←h4,e1,e3],by simp only;omega⟩
 rcases Zs.1 Z9 with rfl|Z9
 ·omega
 ·exact ⟨g2 z Z9,(g1 z (List.mem_cons_of_mem _ Z9)).2⟩):p:=h
structure Kaw:Prop
theorem Kaw.k (_:Kaw) (h:p:=by
 revert e1 hmk;generalize W8 (t.getD k ⟨0,[],0⟩)=M;intro hmk e1;repeat' first|exact Z8|with_reducible apply Zb|intro _
 ·rw [if_pos (by omega)] at e1
  rw [←h4,e1]
 ·rw [if_neg (by omega)] at e1
  have e2:rs.reverse++[M]=(M::rs).reverse:=by simp
  have hS:∀ (q:List Int),q≠[]→((q.length:Nat):Int)-1=((q.length-1:Nat):Int):=by
   intro q hq;have:=List.length_pos_iff.2 hq;omega
  refine Zm [23,24,25,26,27,28,29,30,31,32,33,34,35,36,37,38,39,40,41,42,43,44,45,46,47,48,49,50] (fun q:List Int=>[(3,.sl 5 (q.reverse.map enc).length),(5,.dead),(12,.dead),(15,.dead),(22,.dead)]) (fun q:List Int=>[(5,.row 1 (q.reverse.map enc) 0)]) (fun q:List Int=>Qdy q∧q.length≤101∧Zu0 q=Og M rs) (fun q:List Int=>q.length) (M::rs) ?_ ?_ ?_
  ·refine ⟨⟨fun x hx=>?_,fun x hx=>(h3 x hx).1⟩,by simp only [Zi];omega,rfl⟩
   rcases Zs.1 hx with rfl|hx
   ·exact hmk
   ·have:=h3 x hx;omega
  ·exact Qw
  rintro q ⟨⟨g1,g2⟩,g3,g4⟩;cases q with
  | nil =>
   have Z9:X4 0 ((0:Nat):Int)=false:=rfl;have Zx:=@List.length_reverse.{0};have Zw:=@List.reverse_nil.{0};have Zz:=@Z2;have Zy:=@Z5;have Qd:=@Z7;have Z1:=@Z4;have Z0:=@Nu;have Qi:=@Z6;have Kq:Kax:=⟨⟩;exact Tu
  | cons x r =>
   have Z9:X4 0 ((r.length+1:Nat):Int)=true:=by rw [Jf];omega
   have Qe:((r.length+1:Nat):Int)-1=(r.length:Int):=by omega
   have hx1:=g1 x (by simp)
   have Qc:el (List.map enc (x::r).reverse) r.length=.int .i64 x:=gJ;have Qh:List.take r.length (List.map (enc:Int→D) (x::r).reverse)=List.map enc r.reverse:=Zmi;simp only [Zi] at g3;by_cases hx0:x=0
   ·subst hx0;cases r with
    | nil =>
     have Qn:X4 0 ((0:Nat):Int)=false:=rfl;simp only [List.length_nil] at Z9 Qe Qc Qh;have Zx:=@List.length_reverse.{0};have Zw:=@List.reverse_nil.{0};have Zz:=@Z2;have Zy:=@Z5;have Qd:=@Z7;have Z1:=@Z4;have Z0:=@Nu;have Qi:=@Z6;have Kq:Kay:=⟨⟩;exact Tu
    | cons y r =>
     have hy1:=g2 y (by simp)
     have hy2:=g1 y (by simp)
     have Q6:X4 0 ((r.length+1:Nat):Int)=true:=by rw [Jf];omega
     have Je:((r.length+1:Nat):Int)-1=(r.length:Int):=by omega
     have Q4:el (List.map enc (y::r).reverse) r.length=.int .i64 y:=gJ;simp only [Zi] at Z9 Qe Qc Qh g3;have Zx:=@List.length_reverse.{0};have Zw:=@bZ;have Zz:=@Z2;have Zy:=@Z5;have Qd:=@Z7;have Z1:=@Z4;have Z0:=@Nu;have Qi:=@Z6;have Kq:Kaz:=⟨⟩;exact Tu
   ·have Zu:(x==(0:Int))=false:=by simpa using hx0
    have Zx:=@List.length_reverse.{0};have Zw:=@Z2;have Zz:=@Z5;have Zy:=@Z7;have Qd:=@Z4;have Z1:=@Nu;have Z0:=@Z6;have Kq:KaA:=⟨⟩;exact Tu):p:=h
structure KaB:Prop
theorem KaB.k (_:KaB) (h:p:=by
 rw [←h4,List.drop_eq_nil_of_le hlt];rfl):p:=h
structure Kav:Prop
theorem Kav.k (_:Kav) (h:p:=by
 refine Zm [2,6,7,8,9,10,11,12,13,14,15,16,17,18,19,20,21,22,23,24,25,26,27,28,29,30,31,32,33,34,35,36,37,38,39,40,41,42,43,44,45,46,47,48,49,50] (fun p:Nat×List Int=>[(3,.sl 5 (p.2.reverse.map enc).length),(4,.d (.int .i64 p.1)),(5,.dead)]) (fun p:Nat×List Int=>[(5,.row 1 (p.2.reverse.map enc) 0)]) (fun p:Nat×List Int=>p.1≤t.length∧p.2.length≤101∧(∀ x∈p.2,1≤x∧x≤50)∧oF (t.drop p.1) p.2=Dh t) (fun p:Nat×List Int=>t.length-p.1) (0,[]) ?_ ?_ ?_
 ·exact ⟨Nat.zero_le _,by simp,by simp,rfl⟩
 ·exact Qw
 rintro ⟨k,rs⟩ ⟨h1,h2,h3,h4⟩;simp only at h1 h2 h3 h4;rcases Zo k t.length with ⟨hlt,Qb⟩|⟨hlt,Qb⟩
 ·have hmk:=hm (t.getD k ⟨0,[],0⟩) (by simp [hlt])
  have e1:oF (t.drop k) rs=if 100≤rs.length then false else oF (t.drop (k+1)) (Og (W8 (t.getD k ⟨0,[],0⟩)) rs):=by
   rw [List.drop_eq_getElem_cons hlt,oF];simp [hlt]
  have Qf:=Zr (⟨0,[],0⟩:Node) hlt;have Zx:=@List.length_reverse.{0};have Zw:=@Z2;have Zz:=@Z5;have Zy:=@Z7;have Qd:=@Z4;have Z1:=@Nu;have Z0:=@Z6;have Kq:Kaw:=⟨⟩;exact Tu
 ·have Zx:=@Z2;have Zw:=@Z5;have Zz:=@Z7;have Zy:=@Z4;have Qd:=@Nu;have Z1:=@Z6;have Kq:KaB:=⟨⟩;exact Tu):p:=h
theorem good_shallow3:Qa Tryz.prog (157,Cc):=by
 obtain ⟨Kx,Kt,Kc,Kd,Kb,Ku,Kw,K,X9,_⟩:=Xe Zv Zn [39] false (Q0 good_many3 L7.eq_def Xd);have Ko:=Cc.eq_def;refine Xj K Tryz.func157 [.tmp 2] rfl 51 rfl (fun c hc cvs hpre=>?_);unfold Cc at hpre;obtain ⟨⟨t⟩,rfl,⟨ht,hm⟩⟩:=Q2 hpre;simp only at ht hm;cases hc;refine Y4 3 ?_;have Zx:=@Z2;have Zw:=@Z5;have Zz:=@Z7;have Zy:=@Z4;have Qd:=@Nu;have Z1:=@Z6;have Kq:Kav:=⟨⟩;exact Tu
abbrev n0:Node:=⟨0,[],0⟩
def lM (n:Node):Bool:=n.kind==6||n.kind==7
def Zax (p x prev:Node) (pos last:Bool):Bool :=
 cond (x.kind==9) (lM p&&(last&&x.name==[]))
  (!((p.kind==6&&!Wg x.name)||(p.kind==7&&!N8 x.name))&&(!(!lM p&&!(x.name==[]))&&!(lM p&&(pos&&!Op.bytesLess prev.name x.name))))
def Rc (t:List Node) (l:List Int) (k:Nat):Node:=t.getD (l.getD k 0).toNat n0
def dL (t:List Node) (i:Nat) (l:List Int) (k:Nat):Bool:=Zax (t.getD i n0) (Rc t l k) (Rc t l (k-1)) (X4 0 k) ((k:Int)==(l.length:Int)-1)
def O8 (t:List Node) (i:Nat):Bool:=(((Nd t i).length:Int)==W8 (t.getD i n0))&&(List.range (Nd t i).length).all fun k=>dL t i (Nd t i) k
def Wu (t:List Node):Prop:=∀ n∈t,n.name.length≤9223372036854775807
theorem nF (t:List Node):∀ (m q:Nat),∀ x∈Xo t m q,(q:Int)≤x∧x<t.length
 | 0,q,x,hx=>by simp [Xo] at hx
 | m+1,q,x,hx=>by
  unfold Xo at hx;split at hx
  ·rcases Zs.1 hx with rfl|hx
   ·omega
   ·have:=nF t m _ x hx;omega
  ·cases hx
theorem Zy3 {t:List Node} {i:Nat}:∀ x∈Nd t i,(i:Int)<x∧x<t.length:=by
 intro x hx;unfold Nd at hx;split at hx
 ·cases hx
 ·have:=nF t _ _ x hx;omega
theorem gT (t:List Node):∀ (m q:Nat),(Xo t m q).length≤m
 | 0,q=>by simp [Xo]
 | m+1,q=>by
  unfold Xo;split
  ·simp only [Zi];have:=gT t m (q+vW (t.drop q) 1);omega
  ·simp
def So:Con:=Xc (fun (t:Sl Node) (i:Int)=>Zpm t.l∧Wu t.l∧0≤i∧i<t.l.length) (fun t i=>O8 t.l i.toNat)
structure KaD:Prop
theorem KaD.k (_:KaD) (h:p:=by
 repeat' first|exact Z8|with_reducible apply Zb|intro _
 all_goals first|with_reducible exact Jd|exact hbad (by clear hyes hbad heq hlab hlab' hno;simp_all [Zax,lM,X4])|exact ⟨k+1,by exact Qw,by omega,hyes (by clear hyes hbad heq hlab hlab' hno;simp_all [Zax,lM,X4]),by omega⟩):p:=h
structure KaE:Prop
theorem KaE.k (_:KaE) (h:p:=by
 rw [hlab',eq_comm,List.all_eq_true];intro j hj;exact hno j (by have:=List.mem_range.1 hj;omega)):p:=h
structure KaC:Prop
theorem KaC.k (_:KaC) (h:p:=by
 repeat' first|exact Z8|with_reducible apply Zb|intro _
 ·rename_i hne;rw [hlab];rw [show ((l.length:Int)==W8 (t.getD i n0))=false by simpa using hne]
  rfl
 ·rename_i heq;have hlab':O8 t i=(List.range l.length).all fun k=>dL t i l k:=by
   rw [hlab,show ((l.length:Int)==W8 (t.getD i n0))=true by simpa using heq]
   rfl
  refine Zm [4,7,8,9,21,22,23,24,25,26,27,28,29,30,31,32,33,34,35,36,37,38,39,40,41,42,43,44,45,46,47,48,49,50,51,52,53,54,55,56,57,58,59,60,61,62,63,64,65,66,67,68,69,70,71,72,73,74,75,76,77,78,79,80,81,82,83,84,85,86,87,88,89,90,91,92,93,94,95,96,97,98,99,100,101,102,103,104,105,106,107,108,109,110,111,112,113,114,115,116,117,118,119,120,121,122] (fun k:Nat=>[(6,.d (.int .i64 k))]) (fun k:Nat=>[]) (fun k:Nat=>k≤l.length∧∀ j,j<k→dL t i l j=true) (fun k:Nat=>l.length-k) 0 ?_ ?_ ?_
  ·simp
  ·exact Qw
  rintro k ⟨hk,hno⟩;rcases Zo k l.length with ⟨hlt,Z9⟩|⟨hlt,Z9⟩
  ·have hki:=hin (l.getD k 0) (by simp [hlt])
   have hkt:(l.getD k 0).toNat<t.length:=by omega
   have hkn:=hN (Rc t l k) (by
    show t.getD _ n0∈t;rw [Zd,Zh hkt];exact List.getElem_mem hkt)
   have hyes:dL t i l k=true→∀ j,j<k+1→dL t i l j=true:=by
    intro h j hj;by_cases hjk:j=k
    ·subst hjk;exact h
    ·exact hno j (by omega)
   have hbad:dL t i l k=false→false=O8 t i:=by
    intro h;rw [hlab',eq_comm,Bool.eq_false_iff];intro hc;rw [List.all_eq_true] at hc;have:=hc k (List.mem_range.2 hlt);rw [h] at this;cases this
   have Q4:t.getD (l.getD k 0).toNat ⟨0,[],0⟩=Rc t l k:=rfl;have hyes:Zax (t.getD i n0) (Rc t l k) (Rc t l (k-1)) (X4 0 k) ((k:Int)==(l.length:Int)-1)=true→∀ j,j<k+1→dL t i l j=true:=hyes;have hbad:Zax (t.getD i n0) (Rc t l k) (Rc t l (k-1)) (X4 0 k) ((k:Int)==(l.length:Int)-1)=false→false=O8 t i:=hbad;have Zz:t.getD (l.getD (k-1) 0).toNat ⟨0,[],0⟩=Rc t l (k-1):=rfl;obtain ⟨x,hx⟩:=exq (Rc t l k);obtain ⟨prev,hp0⟩:=exq (Rc t l (k-1));obtain ⟨p,hp⟩:=exq (t.getD i n0);rw [hx,hp0,hp] at hyes hbad;rw [hx] at hkn Q4;rw [hp0] at Zz;have Qe:t.getD i ⟨0,[],0⟩=p:=hp;have hk1:k-1<l.length:=by omega
   have hpi:=hin (l.getD (k-1) 0) (by simp [hk1])
   have hpt:(l.getD (k-1) 0).toNat<t.length:=by omega
   have Zu:((k:Int)-1).toNat=k-1:=by omega
   have hc:((p.kind==6)=true∧(p.kind==7)=false)∨((p.kind==6)=false∧(p.kind==7)=true)∨((p.kind==6)=false∧(p.kind==7)=false):=by
    simp only [Zk,Za,ne_eq];omega
   rcases hc with ⟨Qc,Qh⟩|⟨Qc,Qh⟩|⟨Qc,Qh⟩
   all_goals
    have Qn:=Zr (0:Int) hlt;have Q6:=Zr n0 hkt;have Je:=Zr n0 hil;have Zx:=Zr (0:Int) hk1;have Zw:=Zr n0 hpt;have Zy:=@Z2;have Qd:=@Z5;have Z1:=@Z7;have Z0:=@Z4;have Qi:=@Nu;have Qk:=@Z6;have Kq:KaD:=⟨⟩;exact Tu
  ·have Zy:=@Z2;have Qd:=@Z5;have Z1:=@Z7;have Z0:=@Z4;have Qi:=@Nu;have Qk:=@Z6;have Kq:KaE:=⟨⟩;exact Tu):p:=h
theorem good_labelled3:Qa Tryz.prog (158,So):=by
 obtain ⟨Kx,Kt,Kc,Kd,Kb,Ku,Kw,K,X9,Uv,Po,Cx,_⟩:=Xe Zv Zn [] false (Q0 good_Kids3 Rq.eq_def (Q0 good_IsTag1 pO (Q0 good_IsWord1 Eg (Q0 good_many3 L7.eq_def Xd))));have Ko:=So.eq_def;refine Xj K Tryz.func158 [.tmp 4] rfl 123 rfl (fun c hc cvs hpre=>?_);unfold So at hpre;obtain ⟨⟨t⟩,i,rfl,hT,hN,hi0,hi1⟩:=Ql hpre;simp only at hT hN hi0 hi1;obtain ⟨i,rfl⟩:∃ n:Nat,i=n:=⟨i.toNat,by omega⟩
 have hil:i<t.length:=by omega
 have hlen:=hT.1;obtain ⟨l,Qb⟩:=exq (Nd t i);have hin:∀ x∈l,(i:Int)<x∧x<t.length:=by rw [←Qb];exact Zy3
 have hll:l.length≤100000:=by
  rw [←Qb];unfold Nd;split
  ·simp
  ·have h1:=gT t (W8 (t.getD (Int.toNat i) ⟨0,[],0⟩)).toNat ((Int.toNat i)+1);have h2:=(hT.2 (t.getD i ⟨0,[],0⟩) (by simp [hil])).2
   simp only [Zj] at h1 ⊢;omega
 have hlab:O8 t i=(((l.length:Int)==W8 (t.getD i n0))&&(List.range l.length).all fun k=>dL t i l k):=by
  unfold O8;rw [Qb]
 cases hc;refine Y4 7 ?_;have Qf:=Zr n0 hil;have Zy:=@Z2;have Qd:=@Z5;have Z1:=@Z7;have Z0:=@Z4;have Qi:=@Nu;have Qk:=@Z6;have Kq:KaC:=⟨⟩;exact Tu
end Go.Am.Ty
namespace Go.Rose
inductive Rose (α:Type) where
 | mk (n:α) (ks:List (Rose α))
namespace Rose
variable {α:Type}
def root:Rose α→α
 | mk n _=>n
def kids:Rose α→List (Rose α)
 | mk _ ks=>ks
mutual
def nds:Rose α→List α
 | mk n ks=>n::ndss ks
def ndss:List (Rose α)→List α
 | []=>[]
 | x::xs=>nds x++ndss xs
end
mutual
def wf (ar:α→Nat):Rose α→Prop
 | mk n ks=>ks.length=ar n∧wfs ar ks
def wfs (ar:α→Nat):List (Rose α)→Prop
 | []=>True
 | x::xs=>wf ar x∧wfs ar xs
end
mutual
def depth:Rose α→Nat
 | mk _ ks=>1+depths ks
def depths:List (Rose α)→Nat
 | []=>0
 | x::xs=>max (depth x) (depths xs)
end
end Rose
open Rose
variable {α:Type} {ar:α→Nat}
theorem S3:∀ (a b:List (Rose α)),ndss (a++b)=ndss a++ndss b
 | [],b=>by simp [ndss]
 | x::a,b=>by simp [ndss,S3 a b]
theorem eW:∀ {a b:List (Rose α)},wfs ar (a++b)↔wfs ar a∧wfs ar b
 | [],b=>by simp [wfs]
 | x::a,b=>by simp only [List.cons_append,wfs,eW (a:=a),and_assoc]
theorem Y7 (n:α) (ks:List (Rose α)):nds (mk n ks)=n::ndss ks:=by simp [nds]
theorem En (x:Rose α):1≤(nds x).length:=by cases x;simp [nds]
theorem pA (x:Rose α):nds x=x.root::ndss x.kids:=by cases x;simp [nds,root,kids]
theorem Qcx {x:Rose α}:wf ar x↔x.kids.length=ar x.root∧wfs ar x.kids:=by cases x;simp [wf,root,kids]
def Lz (ar:α→Nat):List α→Nat→Option Nat
 | _,0=>some 0
 | [],_+1=>none
 | n::l,o+1=>(Lz ar l (o+ar n)).map (·+1)
theorem mY (ar:α→Nat):∀ (m:Nat) (ts:List (Rose α)) (r:List α),(ndss ts).length≤m→wfs ar ts→∀ o,Lz ar (ndss ts++r) (ts.length+o)=(Lz ar r o).map (·+(ndss ts).length)
 | m,[],r,_,_,o=>by simp [ndss,Lz]
 | 0,mk n ks::ts,r,hm,_,o=>by simp [ndss,nds] at hm
 | m+1,mk n ks::ts,r,hm,hw,o=>by
  obtain ⟨⟨h1,h2⟩,h3⟩:=hw;simp only [ndss,nds,List.cons_append,Zi,Zf] at hm ⊢;rw [show ts.length+1+o=(ts.length+o)+1 by omega,Lz,List.append_assoc]
  rw [show ts.length+o+ar n=ks.length+(ts.length+o) by omega,mY ar m ks (ndss ts++r) (by omega) h2 (ts.length+o),mY ar m ts r (by omega) h3 o]
  cases Lz ar r o with
  | none=>rfl
  | some k=>simp only [Option.map_some];congr 1;omega
theorem Zzj {x:Rose α} (h:wf ar x) (r:List α):Lz ar (nds x++r) 1=some (nds x).length:=by
 have:=mY ar _ [x] r (Zq _) ⟨h,trivial⟩ 0;simpa [ndss,Lz] using this
theorem Zm6:∀ (m:Nat) {ts us:List (Rose α)} {r s:List α},(ndss ts).length≤m→wfs ar ts→wfs ar us→ts.length=us.length→ndss ts++r=ndss us++s→ts=us∧r=s
 | m,[],us,r,s,_,_,_,hl,h=>by
  have:us=[]:=List.length_eq_zero_iff.1 hl.symm;subst this;exact ⟨rfl,by simpa [ndss] using h⟩
 | m,_::_,[],_,_,_,_,_,hl,_=>by simp at hl
 | 0,mk n ks::ts,_,_,_,hm,_,_,_,_=>by simp [ndss,nds] at hm
 | m+1,mk n ks::ts,mk p qs::us,r,s,hm,ht,hu,hl,h=>by
  obtain ⟨⟨h1,h2⟩,h3⟩:=ht;obtain ⟨⟨g1,g2⟩,g3⟩:=hu;simp only [ndss,nds,List.cons_append,List.cons.injEq,Zi,Zf] at h hm hl;obtain ⟨rfl,h⟩:=h;rw [←S3,←S3] at h;obtain ⟨e1,e2⟩:=Zm6 m (ts:=ks++ts) (us:=qs++us) (by rw [S3,Zf];omega) (eW.2 ⟨h2,h3⟩) (eW.2 ⟨g2,g3⟩) (by simp only [Zf];omega) h
  obtain ⟨e3,e4⟩:=List.append_inj e1 (by rw [h1,g1])
  exact ⟨by rw [e3,e4],e2⟩
theorem Qa8 {x y:Rose α} {r s:List α} (hx:wf ar x) (hy:wf ar y) (h:nds x++r=nds y++s):x=y∧r=s:=by
 obtain ⟨h1,h2⟩:=Zm6 (ar:=ar) _ (ts:=[x]) (us:=[y]) (Zq _) ⟨hx,trivial⟩ ⟨hy,trivial⟩ rfl (by simpa [ndss] using h)
 injection h1 with h1
 exact ⟨h1,h2⟩
def At (ar:α→Nat) (l:List α) (i:Nat) (x:Rose α):Prop:=wf ar x∧∃ r,l.drop i=nds x++r
theorem At.inj {l:List α} {i:Nat} {x y:Rose α} (hx:At ar l i x) (hy:At ar l i y):x=y:=by
 obtain ⟨h1,r,h2⟩:=hx;obtain ⟨g1,s,g2⟩:=hy;exact (Qa8 h1 g1 (h2.symm.trans g2)).1
theorem At.le {l:List α} {i:Nat} {x:Rose α} (h:At ar l i x):i+(nds x).length≤l.length:=by
 obtain ⟨_,r,h2⟩:=h;have h3:=congrArg List.length h2;rw [List.length_drop,Zf] at h3;have:=En x;omega
theorem At.lt {l:List α} {i:Nat} {x:Rose α} (h:At ar l i x):i<l.length:=by
 have:=h.le;have:=En x;omega
theorem At.root {l:List α} {i:Nat} {x:Rose α} (h:At ar l i x) (d:α):l.getD i d=x.root:=by
 obtain ⟨_,r,h2⟩:=h;have h3:(l.drop i).getD 0 d=x.root:=by rw [h2,pA];rfl
 simpa [Zd] using h3
def Zlq (ar:α→Nat) (l:List α) (i:Nat) (xs:List (Rose α)):Prop:=wfs ar xs∧∃ r,l.drop i=ndss xs++r
theorem At.kids {l:List α} {i:Nat} {x:Rose α} (h:At ar l i x):Zlq ar l (i+1) x.kids∧x.kids.length=ar x.root:=by
 obtain ⟨h1,r,h2⟩:=h;rw [Qcx] at h1;refine ⟨⟨h1.2,r,?_⟩,h1.1⟩;rw [pA] at h2;have h3:(l.drop i).drop 1=(ndss x.kids++r):=by rw [h2];rfl
 rwa [List.drop_drop] at h3
theorem Zlq.head {l:List α} {i:Nat} {x:Rose α} {xs:List (Rose α)} (h:Zlq ar l i (x::xs)):At ar l i x∧Zlq ar l (i+(nds x).length) xs:=by
 obtain ⟨⟨h1,h2⟩,r,h3⟩:=h;refine ⟨⟨h1,ndss xs++r,by rw [h3];simp [ndss]⟩,h2,r,?_⟩
 rw [←List.drop_drop,h3];simp [ndss]
theorem Ti {x:Rose α} (h:wf ar x):At ar (nds x) 0 x:=⟨h,[],by simp⟩
theorem pI {l:List α} {i:Nat} {x:Rose α} (h:At ar l i x):Lz ar (l.drop i) 1=some (nds x).length:=by
 obtain ⟨h1,r,h2⟩:=h;rw [h2];exact Zzj h1 r
open Classical in
noncomputable def Yl [Inhabited α] (ar:α→Nat) (l:List α) (i:Nat):Rose α:=if h:∃ x,At ar l i x then Classical.choose h else mk default []
theorem Vc [Inhabited α] {l:List α} {i:Nat} {x:Rose α} (h:At ar l i x):Yl ar l i=x:=by
 unfold Yl;rw [dif_pos ⟨x,h⟩];exact At.inj (Classical.choose_spec (⟨x,h⟩:∃ x,At ar l i x)) h
theorem At.mem {l:List α} {i:Nat} {x:Rose α} (h:At ar l i x):∀ n∈nds x,n∈l:=fun n hn=>by
 obtain ⟨_,r,h2⟩:=h;exact List.mem_of_mem_drop (i:=i) (by rw [h2];exact List.mem_append_left _ hn)
end Go.Rose
namespace Go.Am.Ty
open Go.Proofs
open Enc (enc dec)
theorem eN {n:Node} (h:Uq n=true):0≤W8 n∧W8 n≤50:=by
 unfold Uq at h;unfold W8;by_cases h5:n.kind=5
 ·rw [if_pos h5];omega
 ·rw [if_neg h5];by_cases h67:n.kind=6∨n.kind=7
  ·rw [if_pos h67];rw [if_neg (by omega),if_neg (by omega)] at h
   by_cases h6:n.kind=6
   ·rw [if_pos h6] at h;simpa using h
   ·rw [if_neg h6,if_pos (by omega)] at h
    simp only [Zg,decide_eq_true_eq] at h;omega
  ·rw [if_neg h67];omega
def X8 (t:List Node):Bool:=t.length==0||X4 10000 t.length||!((t.getD 0 n0).name==[])||(t.getD 0 n0).kind==9
def Xz (t:List Node):Bool:=!X8 t&&(t.all Uq&&((fC t 0==(t.length:Int)&&Dh t)&&(List.range t.length).all fun i=>O8 t i))
theorem Uo {p:Nat→Bool} {n:Nat} (h:∀ j,j<n→p j=true):(List.range n).all p=true:=by
 rw [List.all_eq_true];intro j hj;exact h j (List.mem_range.1 hj)
theorem Gi {p:Nat→Bool} {n:Nat} (j:Nat) (hj:j<n) (h:p j=false):(List.range n).all p=false:=by
 rw [Bool.eq_false_iff];intro hc;rw [List.all_eq_true] at hc;have:=hc j (List.mem_range.2 hj);rw [h] at this;cases this
def M9:Con:=J7 (fun (t:Sl Node)=>t.l.length≤9223372036854775807∧Wu t.l) (fun t=>Xz t.l)
structure KaF:Prop
theorem KaF.k (_:KaF) (h:p:=by
 unfold Xz X8;simp [h0]):p:=h
structure KaH:Prop
theorem KaH.k (_:KaH) (h:p:=by
 repeat' first|exact Z8|with_reducible apply Zb|intro _
 ·rename_i hb;rw [hr,Cw (p:=Uq) n0 k hlt hb];rfl
 ·rename_i hb;refine ⟨k+1,by exact Qw,by omega,fun j hj=>?_,by omega⟩
  by_cases hjk:j=k
  ·subst hjk;exact hb
  ·exact hno j (by omega)):p:=h
structure KaJ:Prop
theorem KaJ.k (_:KaJ) (h:p:=by
 repeat' first|exact Z8|with_reducible apply Zb|intro _
 ·rename_i hb;rw [hr2,Gi k hlt2 hb]
 ·rename_i hb;refine ⟨k+1,by exact Qw,by omega,fun j hj=>?_,by omega⟩
  by_cases hjk:j=k
  ·subst hjk;exact hb
  ·exact hno2 j (by omega)):p:=h
structure KaK:Prop
theorem KaK.k (_:KaK) (h:p:=by
 rw [hr2,Uo fun j hj=>hno2 j (by omega)]):p:=h
structure KaI:Prop
theorem KaI.k (_:KaI) (h:p:=by
 repeat' first|exact Z8|with_reducible apply Zb|intro _
 ·rename_i he hs;rw [hr,hs];simp
 ·rename_i he hs;have hr2:Xz t=(List.range t.length).all fun i=>O8 t i:=by
   rw [hr,hs,show (fC t 0==(t.length:Int))=true by simpa using he]
   rfl
  refine Zm [2,49,50,51,52,53,54,55,56,57,58] (fun k:Nat=>[(4,.d (.int .i64 k))]) (fun k:Nat=>[]) (fun k:Nat=>k≤t.length∧∀ j,j<k→O8 t j=true) (fun k:Nat=>t.length-k) 0 ?_ ?_ ?_
  ·simp
  ·exact Qw
  rintro k ⟨hk2,hno2⟩;rcases Zo k t.length with ⟨hlt2,Qh⟩|⟨hlt2,Qh⟩
  ·have Qn:=@Z2;have Q6:=@Z5;have Je:=@Z7;have Q4:=@Z4;have Zu:=@Nu;have Zx:=@Z6;have Kq:KaJ:=⟨⟩;exact Tu
  ·have Qn:=@Z2;have Q6:=@Z5;have Je:=@Z7;have Q4:=@Z4;have Zu:=@Nu;have Zx:=@Z6;have Kq:KaK:=⟨⟩;exact Tu
 ·rename_i he;rw [hr,show (fC t 0==(t.length:Int))=false by simpa using he]
  rfl):p:=h
structure KaG:Prop
theorem KaG.k (_:KaG) (h:p:=by
 repeat' first|exact Z8|with_reducible apply Zb|intro _
 ·rename_i h1 h2 h9;exact heb (by unfold X8;rw [show ((t.getD 0 n0).kind==9)=true by rw [Zk];exact h9];simp only [Bool.or_true])
 ·rename_i h1 h3 h9;have hle:t.length≤10000:=by omega
  have hnb:X8 t=false:=by
   unfold X8;simp only [Bool.or_eq_false_iff,Qv,Za];refine ⟨⟨⟨by omega,by omega⟩,?_⟩,h9⟩
   simpa using h3
  have hr:Xz t=(t.all Uq&&((fC t 0==(t.length:Int)&&Dh t)&&(List.range t.length).all fun i=>O8 t i)):=by
   unfold Xz;rw [hnb];rfl
  refine Zm [2,27,28,29,30,31,32,33,34,35,36,37,38] (fun k:Nat=>[(3,.d (.int .i64 k))]) (fun k:Nat=>[]) (fun k:Nat=>k≤t.length∧∀ j,j<k→Uq (t.getD j n0)=true) (fun k:Nat=>t.length-k) 0 ?_ ?_ ?_
  ·simp
  ·exact Qw
  rintro k ⟨hk,hno⟩;rcases Zo k t.length with ⟨hlt,Z9⟩|⟨hlt,Z9⟩
  ·have Qe:=Zr n0 hlt;have Qn:=@Z2;have Q6:=@Z5;have Je:=@Z7;have Q4:=@Z4;have Zu:=@Nu;have Zx:=@Z6;have Kq:KaH:=⟨⟩;exact Tu
  ·have hall:t.all Uq=true:=N6 (p:=Uq) n0 fun j hj=>hno j (by omega)
   have Qc:Zpm t:=⟨by omega,fun n hn=>eN (List.all_eq_true.1 hall n hn)⟩
   rw [hall,Bool.true_and] at hr;have hT2:Zpm t∧vV .i64 0:=⟨Qc,by rw [Xr];omega⟩
   have Qn:=@Z2;have Q6:=@Z5;have Je:=@Z7;have Q4:=@Z4;have Zu:=@Nu;have Zx:=@Z6;have Kq:KaI:=⟨⟩;exact Tu
 ·rename_i h1 h3;exact heb (by unfold X8;rw [show ((t.getD 0 n0).name==[])=false by rw [Za];exact h3];simp only [Bool.not_false,Bool.or_true,Bool.true_or])
 ·rename_i h1;exact heb (by unfold X8;rw [show X4 10000 (t.length:Int)=true by rw [Jf];exact h1];simp only [Bool.or_true,Bool.true_or])):p:=h
theorem good_Right3:Qa Tryz.prog (113,M9):=by
 obtain ⟨Kx,Kt,Kc,Kd,Kb,Ku,Kw,K,X9,Uv,Po,Cx,_⟩:=Xe Zv Zn [] false (Q0 good_numbered3 Sm.eq_def (Q0 good_End3 aH.eq_def (Q0 good_shallow3 Cc.eq_def (Q0 good_labelled3 So.eq_def Xd))));have Ko:=M9.eq_def;refine Xj K Tryz.func113 [.tmp 2] rfl 59 rfl (fun c hc cvs hpre=>?_);unfold M9 at hpre;obtain ⟨⟨t⟩,rfl,ht,hN⟩:=Q2 hpre;simp only at ht hN;cases hc;refine Y4 3 ?_;by_cases h0:t.length=0
 ·have Qb:((t.length:Int)==0)=true:=by simp [h0]
  have Qn:=@Z2;have Q6:=@Z5;have Je:=@Z7;have Q4:=@Z4;have Zu:=@Nu;have Zx:=@Z6;have Kq:KaF:=⟨⟩;exact Tu
 have Qb:((t.length:Int)==0)=false:=by rw [Za];omega
 have hlt0:0<t.length:=by omega
 have heb:X8 t=true→false=Xz t:=by
  intro h;unfold Xz;rw [h];rfl
 have Qf:=Zr n0 hlt0;have Qn:=@Z2;have Q6:=@Z5;have Je:=@Z7;have Q4:=@Z4;have Zu:=@Nu;have Zx:=@Z6;have Kq:KaG:=⟨⟩;exact Tu
open Go.Proofs Go.Rose Go.Rose.Rose
def Lq (t:List Node) (most:Int):Bool:=!X4 most t.length&&(t.all (fun n=>!X4 100 n.name.length)&&(Xz t&&Ux t))
def Il:Con:=Xc (fun (t:Sl Node) (_:Int)=>t.l.length≤9223372036854775807∧Wu t.l) (fun t m=>Lq t.l m)
structure KaL:Prop
theorem KaL.k (_:KaL) (h:p:=by
 clear Qb Qf Z9 Qe Qc Qh Qn;unfold Lq;rw [hmb];rfl):p:=h
structure KaN:Prop
theorem KaN.k (_:KaN) (h:p:=by
 clear Qb Qf Z9 Qe Qc Qh Qn Q6;repeat' first|exact Z8|with_reducible apply Zb|intro _
 ·rename_i hb;rw [hp,Cw (p:=fun n:Node=>!X4 100 n.name.length) n0 k hlt (by rw [show X4 100 ((t.getD k n0).name.length:Int)=true by rw [Jf];exact hb];rfl)]
  rfl
 ·rename_i hb;refine ⟨k+1,by exact Qw,by omega,fun j hj=>?_,by omega⟩
  by_cases hjk:j=k
  ·subst hjk;exact hb
  ·have:=hno j (by omega)
   rw [Bool.not_eq_true',Qv] at this;exact this):p:=h
structure KaO:Prop
theorem KaO.k (_:KaO) (h:p:=by
 clear Qb Qf Z9 Qe Qc Qh Qn Q6;repeat' first|exact Z8|with_reducible apply Zb|intro _
 all_goals rename_i hr
 all_goals rw [hr]
 all_goals rfl):p:=h
structure KaM:Prop
theorem KaM.k (_:KaM) (h:p:=by
 clear Qb Qf Z9 Qe Qc Qh Qn;refine Zm [4,10,11,12,13,14,15,16,17,18,19,20,21,22] (fun k:Nat=>[(5,.d (.int .i64 k))]) (fun k:Nat=>[]) (fun k:Nat=>k≤t.length∧∀ j,j<k→(!X4 100 (t.getD j n0).name.length)=true) (fun k:Nat=>t.length-k) 0 ?_ ?_ ?_
 ·simp
 ·exact Qw
 rintro k ⟨hk,hno⟩;rcases Zo k t.length with ⟨hlt,hlb⟩|⟨hlt,hlb⟩
 ·have zz1:=Zr n0 hlt;have Qb:=hlb;have Qf:=zz1;have Z9:=@Z2;have Qe:=@Z5;have Qc:=@Z7;have Qh:=@Z4;have Qn:=@Nu;have Q6:=@Z6;have Kq:KaN:=⟨⟩;exact Tu
 ·have hall:t.all (fun n=>!X4 100 n.name.length)=true:=N6 (p:=fun n:Node=>!X4 100 n.name.length) n0 fun j hj=>hno j (by omega)
  rw [hall,Bool.true_and] at hp;have Qb:=hlb;have Qf:=hp;have Z9:=@Z2;have Qe:=@Z5;have Qc:=@Z7;have Qh:=@Z4;have Qn:=@Nu;have Q6:=@Z6;have Kq:KaO:=⟨⟩;exact Tu):p:=h
theorem good_Plain7:Qa Tryz.prog (60,Il):=by
 obtain ⟨Kx,Kt,Kc,Kd,Kb,Ku,Kw,K,X9,Uv,_⟩:=Xe Zv Zn [] false (Q0 good_Right3 M9.eq_def (Q0 good_Plain3 Sc.eq_def Xd));have Ko:=Il.eq_def;refine Xj K Tryz.func60 [.tmp 4] rfl 29 rfl (fun c hc cvs hpre=>?_);unfold Il at hpre;obtain ⟨⟨t⟩,m,rfl,ht,hN⟩:=Ql hpre;simp only at ht hN;cases hc;rcases V5 m t.length with ⟨hm,hmb⟩|⟨hm,hmb⟩
 ·have Qb:=hmb;have Qf:=@Z2;have Z9:=@Z5;have Qe:=@Z7;have Qc:=@Z4;have Qh:=@Nu;have Qn:=@Z6;have Kq:KaL:=⟨⟩;exact Tu
 ·have hp:Lq t m=(t.all (fun n=>!X4 100 n.name.length)&&(Xz t&&Ux t)):=by
   unfold Lq;rw [hmb];rfl
  have Qb:=hmb;have Qf:=@Z2;have Z9:=@Z5;have Qe:=@Z7;have Qc:=@Z4;have Qh:=@Nu;have Qn:=@Z6;have Kq:KaM:=⟨⟩;exact Tu
instance inhSl {α:Type}:Inhabited (Sl α):=⟨⟨[]⟩⟩
instance inhNode:Inhabited Node:=⟨n0⟩
def Ks (n:Node):Bool:=n.kind==6||n.kind==7
def D6:Con:=J7 (fun (_:Node)=>True) (fun n=>Ks n)
structure KaP:Prop
theorem KaP.k (_:KaP) (h:p:=by
 unfold Ks;repeat' first|exact Z8|with_reducible apply Zb|intro _
 all_goals simp_all):p:=h
theorem good_isRowT:Qa Tryz.prog (164,D6):=by
 obtain ⟨Kx,Kt,Kc,Kd,Kb,Ku,Kw,K,_⟩:=Xe Zv Zn [] false Xd;have Ko:=D6.eq_def;refine Xj K Tryz.func164 [.tmp 2] rfl 11 rfl (fun c hc cvs hpre=>?_);unfold D6 at hpre;obtain ⟨n,rfl,-⟩:=Q2 hpre;cases hc;have Qb:=@Z2;have Qf:=@Z5;have Z9:=@Z7;have Qe:=@Z4;have Qc:=@Nu;have Qh:=@Z6;have Kq:KaP:=⟨⟩;exact Tu
def ar (n:Node):Nat:=if n.kind=5 then 2 else if n.kind=6∨n.kind=7 then n.n.toNat else 0
def C7:Con:=J7 (fun (_:Node)=>True) (fun n=>(ar n:Int))
structure KaQ:Prop
theorem KaQ.k (_:KaQ) (h:p:=by
 unfold ar;repeat' first|exact Z8|with_reducible apply Zb|intro _
 ·rename_i h5;rw [if_pos h5];rfl
 ·rename_i h5 h6;rw [if_neg h5,if_pos (by simpa [Ks] using h6)]
  unfold Znd;split<;>omega
 ·rename_i h5 h6;rw [if_neg h5,if_neg (by simpa [Ks] using h6)];rfl):p:=h
theorem good_manyT:Qa Tryz.prog (163,C7):=by
 obtain ⟨Kx,Kt,Kc,Kd,Kb,Ku,Kw,K,X9,_⟩:=Xe Zv Zn [] false (Q0 good_isRowT D6.eq_def Xd);have Ko:=C7.eq_def;refine Xj K Tryz.func163 [.tmp 2] rfl 13 rfl (fun c hc cvs hpre=>?_);unfold C7 at hpre;obtain ⟨n,rfl,-⟩:=Q2 hpre;cases hc;have Qb:=@Z2;have Qf:=@Z5;have Z9:=@Z7;have Qe:=@Z4;have Qc:=@Nu;have Qh:=@Z6;have Kq:KaQ:=⟨⟩;exact Tu
theorem Zz5 {n:Node} (h:0≤W8 n):(ar n:Int)=W8 n:=by
 unfold ar W8 at *;split
 ·rfl
 ·rename_i h5;rw [if_neg h5] at h;split
  ·rename_i h6;rw [if_pos h6] at h;omega
  ·rfl
def Zbd (t:List Node) (i:Int):Int:=if i<0∨(t.length:Int)≤i then -1 else i+((Lz ar (t.drop i.toNat) 1).getD 0:Nat)
def Whole (t:List Node) (i:Int):Prop:=0≤i→i<t.length→(Lz ar (t.drop i.toNat) 1).isSome=true
theorem Zts:∀ {l:List Node} {o k:Nat},Lz ar l o=some k→o≤k∧k≤l.length
 | l,0,k,h=>by
  cases l<;>(simp only [Lz,Zc] at h;omega)
 | [],o+1,k,h=>by simp [Lz] at h
 | n::l,o+1,k,h=>by
  rw [Lz,Option.map_eq_some_iff] at h;obtain ⟨k',h1,rfl⟩:=h;have:=Zts h1;simp only [Zi];omega
def aF:Con:=Xc (fun (t:Sl Node) (i:Int)=>t.l.length≤1000000000∧vV .i64 i∧Whole t.l i) (fun t i=>Zbd t.l i)
structure KaS:Prop
theorem KaS.k (_:KaS) (h:p:=by
 rw [e0];cases hd:t.drop k<;>(rw [hd] at g2;simp only [Lz,Zc] at g2;omega)):p:=h
structure KaT:Prop
theorem KaT.k (_:KaT) (h:p:=by
 repeat' first|exact Z8|with_reducible apply Zb|intro _
 refine ⟨(k+1,o+ar (t.getD k n0)),by exact Qw,by simp only;omega,⟨r',g4,by simp only;omega⟩,by simp only;omega⟩):p:=h
structure KaR:Prop
theorem KaR.k (_:KaR) (h:p:=by
 repeat' first|exact Z8|with_reducible apply Zb|intro _
 ·rename_i h1 h2;unfold Zbd;rw [if_pos (.inr h2)]
 ·rename_i h1 h2;obtain ⟨i,rfl⟩:∃ n:Nat,i=n:=⟨i.toNat,by omega⟩
  obtain ⟨m,hm⟩:=Option.isSome_iff_exists.1 (hw h1 h2);simp only [Zj] at hm;have e0:Zbd t i=i+(m:Int):=by
   unfold Zbd;rw [if_neg (by omega),Zj,hm]
   rfl
  refine Zm [14,15,16,17,18,19,20,21,22,23,24,25] (fun p:Nat×Nat=>[(1,.d (.int .i64 p.1)),(5,.d (.int .i64 p.2))]) (fun p:Nat×Nat=>[]) (fun p:Nat×Nat=>p.1≤t.length∧∃ r,Lz ar (t.drop p.1) p.2=some r∧p.1+r=i+m) (fun p:Nat×Nat=>t.length-p.1) (i,1) ?_ ?_ ?_
  ·exact ⟨by simp only;omega,m,hm,rfl⟩
  ·exact Qw
  rintro ⟨k,o⟩ ⟨g1,r,g2,g3⟩;simp only at g1 g2 g3;cases o with
  | zero =>
   have Qb:X4 0 ((0:Nat):Int)=false:=rfl;have Qe:=@Z2;have Qc:=@Z5;have Qh:=@Z7;have Qn:=@Z4;have Q6:=@Nu;have Je:=@Z6;have Kq:KaS:=⟨⟩;exact Tu
  | succ o =>
   have Qb:X4 0 ((o+1:Nat):Int)=true:=by rw [Jf];omega
   have hlt:k<t.length:=by
    rcases Nat.lt_or_ge k t.length with h|h
    ·exact h
    ·rw [List.drop_eq_nil_of_le h] at g2;simp [Lz] at g2
   rw [List.drop_eq_getElem_cons hlt,Lz,Option.map_eq_some_iff] at g2;obtain ⟨r',g4,rfl⟩:=g2;have hnk:t.getD k n0=t[k]:=by simp [hlt]
   rw [←hnk] at g4;have hge:=Zts g4;rw [List.length_drop] at hge;have Qf:((o+1:Nat):Int)+((ar (t.getD k n0):Int)-1)=((o+ar (t.getD k n0):Nat):Int):=by omega
   have Z9:=Zr n0 hlt;have Qe:=@Z2;have Qc:=@Z5;have Qh:=@Z7;have Qn:=@Z4;have Q6:=@Nu;have Je:=@Z6;have Kq:KaT:=⟨⟩;exact Tu
 ·rename_i h1;unfold Zbd;rw [if_pos (.inl h1)]):p:=h
theorem good_EndT:Qa Tryz.prog (172,aF):=by
 obtain ⟨Kx,Kt,Kc,Kd,Kb,Ku,Kw,K,X9,_⟩:=Xe Zv Zn [] false (Q0 good_manyT C7.eq_def Xd);have Ko:=aF.eq_def;refine Xj K Tryz.func172 [.tmp 4] rfl 27 rfl (fun c hc cvs hpre=>?_);unfold aF at hpre;obtain ⟨⟨t⟩,i,rfl,ht,hi,hw⟩:=Ql hpre;simp only at ht hw;rw [Xr] at hi;cases hc;have Qe:=@Z2;have Qc:=@Z5;have Qh:=@Z7;have Qn:=@Z4;have Q6:=@Nu;have Je:=@Z6;have Kq:KaR:=⟨⟩;exact Tu
def P3:Nat→List (Rose Node)→List Int
 | _,[]=>[]
 | q,x::xs=>(q:Int)::P3 (q+(nds x).length) xs
theorem Lw:∀ (q:Nat) (xs:List (Rose Node)),(P3 q xs).length=xs.length
 | _,[]=>rfl
 | q,x::xs=>by simp [P3,Lw _ xs]
theorem lI:∀ (q:Nat) (xs:List (Rose Node)) (j:Nat),j<xs.length→(P3 q xs).getD j 0=((q+(ndss (xs.take j)).length:Nat):Int)
 | _,[],j,h=>by simp at h
 | q,x::xs,0,_=>by simp [P3,ndss]
 | q,x::xs,j+1,h=>by
  simp only [P3,List.getD_cons_succ,List.take_succ_cons,ndss,Zf];rw [lI _ xs j (by simpa using h)]
  congr 1
  omega
theorem uL {t:List Node}:∀ {xs:List (Rose Node)} {i j:Nat},Zlq ar t i xs→∀ h:j<xs.length,At ar t (i+(ndss (xs.take j)).length) xs[j]
 | [],_,_,_,h=>by simp at h
 | x::xs,i,0,ha,_=>by simpa [ndss] using ha.head.1
 | x::xs,i,j+1,ha,h=>by
  have:=uL ha.head.2 (j:=j) (by simpa using h)
  simpa [ndss,Nat.add_assoc] using this
theorem Dm {xs:List (Rose Node)} {j:Nat} (h:j<xs.length):(ndss (xs.take (j+1))).length=(ndss (xs.take j)).length+(nds xs[j]).length:=by
 rw [List.take_succ_eq_append_getElem h,S3,Zf];simp [ndss]
theorem Zz2 {t:List Node} {i:Nat} {xs:List (Rose Node)} (h:Zlq ar t i xs) (hi:i≤t.length):i+(ndss xs).length≤t.length:=by
 obtain ⟨_,r,h2⟩:=h;have:=congrArg List.length h2;rw [List.length_drop,Zf] at this;omega
theorem Zr8 {t:List Node} {i:Nat} {x:Rose Node} (h:At ar t i x):Whole t i:=fun _ _=>by
 simp only [Zj];rw [pI h];rfl
theorem Zbc {t:List Node} {i:Nat} {x:Rose Node} (h:At ar t i x):Zbd t i=((i+(nds x).length:Nat):Int):=by
 unfold Zbd;have:=h.lt;rw [if_neg (by omega),Zj,pI h]
 simp
def eI (l:List Int) (j:Nat):List Int:=l.take j++List.replicate (l.length-j) 0
theorem fU {l:List Int} {j:Nat} (h:j≤l.length):(eI l j).length=l.length:=by
 unfold eI;rw [Zf,List.length_take,List.length_replicate];omega
theorem Zx6 {l:List Int} {j:Nat} {q:Int} (h:j<l.length) (hq:l.getD j 0=q):((eI l j).map (enc:Int→D)).set j (.int .i64 q)=(eI l (j+1)).map enc:=by
 have e:(enc q:D)=.int .i64 q:=rfl;rw [←e,←List.map_set]
 congr 1
 unfold eI;rw [List.set_append_right _ _ (by rw [List.length_take];omega),List.length_take,show l.length-j=(l.length-(j+1))+1 by omega,List.replicate_succ,
  show j-min j l.length=0 by omega,Jm,List.take_succ_eq_append_getElem h]
 simp only [List.append_assoc,List.singleton_append]
 congr 2
 rw [←hq];simp [h]
theorem Qau {l:List Int} {j:Nat} (h:j<l.length):el ((eI l j).map (enc:Int→D)) j=.int .i64 0:=by
 rw [Zr (0:Int) (by rw [fU (by omega)];exact h)]
 unfold eI;rw [Zd,List.getElem?_append_right (by rw [List.length_take];omega),List.length_take,show j-min j l.length=0 by omega,show l.length-j=(l.length-(j+1))+1 by omega,List.replicate_succ]
 rfl
theorem Zut {l:List Int} {n:Nat} (h:l.length=n):List.replicate n (D.int .i64 0)=(eI l 0).map enc:=by
 unfold eI;simp [h]
theorem Zx7 {l:List Int}:eI l l.length=l:=by
 unfold eI;simp
noncomputable def nE (t:List Node) (i:Int):List Int:=if i<0∨(t.length:Int)≤i then [] else P3 (i.toNat+1) (Yl ar t i.toNat).kids
def Qgj (t:List Node) (i:Int):Prop:=0≤i→i<t.length→∃ x,At ar t i.toNat x
noncomputable def cM:Con:=Xc (fun (t:Sl Node) (i:Int)=>t.l.length≤1000000000∧vV .i64 i∧Qgj t.l i) (fun t i=>Sl.mk (nE t.l i))
structure KaU:Prop
theorem KaU.k (_:KaU) (h:p:=by
 unfold nE;rw [if_pos (.inl h)];rfl):p:=h
structure KaV:Prop
theorem KaV.k (_:KaV) (h:p:=by
 unfold nE;rw [if_pos (.inr h)];rfl):p:=h
structure KaX:Prop
theorem KaX.k (_:KaX) (h:p:=by
 repeat' first|exact Z8|with_reducible apply Zb|intro _
 refine ⟨j+1,by (have Km:=hrl2;have Fg:=hsz;have Zsi:=Int.add_assoc;exact Qw),by omega,by omega⟩):p:=h
structure KaY:Prop
theorem KaY.k (_:KaY) (h:p:=by
 repeat' first|exact Z8|with_reducible apply Zb|intro _
 rw [e0,hjk,Zx7]):p:=h
structure KaW:Prop
theorem KaW.k (_:KaW) (h:p:=by
 repeat' first|exact Z8|with_reducible apply Zb|intro _
 refine Zm [7,27,28,29,30,31,32,33,34,35,36] (fun j:Nat=>[(5,.sl 21 ((eI l j).map (enc:Int→D)).length),(6,.d (.int .i64 (i+1+(ndss (ks.take j)).length:Nat))),(21,.dead),(26,.d (.int .i64 j))]) (fun j:Nat=>[(21,.row 1 ((eI l j).map enc) 0)]) (fun j:Nat=>j≤ks.length) (fun j:Nat=>ks.length-j) 0 ?_ ?_ ?_
 ·omega
 ·have Km:=Zut hll;have Fg:=@ndss.eq_1;have Zsi:=@ndss.eq_2;have Qao:=hll;have Qce:=@fU;exact Qw
 rintro j hj;have Qh:(eI l j).length=ks.length:=by rw [fU (by omega),hll]
 rcases Zo j ks.length with ⟨hlt,Qc⟩|⟨hlt,Qc⟩
 ·have hat:=uL hks hlt;have hq:l.getD j 0=((i+1+(ndss (ks.take j)).length:Nat):Int):=by rw [←hl];exact lI _ _ j hlt
  have Q6:=Zx6 (by omega) hq
  have Qn:=Qau (l:=l) (j:=j) (by omega)
  have hrl2:(eI l (j+1)).length=ks.length:=by rw [fU (by omega),hll]
  have Je:=Zbc hat;have hwh:=Zr8 hat;have hlt2:=hat.le;have hsz:=Dm hlt;have Q4:=@Z2;have Zu:=@Z5;have Zx:=@Z7;have Zw:=@Z4;have Zz:=@Nu;have Zy:=@Z6;have Kq:KaX:=⟨⟩;exact Tu
 ·have hjk:j=l.length:=by omega
  have Q4:=@Z2;have Zu:=@Z5;have Zx:=@Z7;have Zw:=@Z4;have Zz:=@Nu;have Zy:=@Z6;have Kq:KaY:=⟨⟩;exact Tu):p:=h
theorem good_KidsT:Qa Tryz.prog (173,cM):=by
 obtain ⟨Kx,Kt,Kc,Kd,Kb,Ku,Kw,K,X9,Uv,_⟩:=Xe Zv Zn [] false (Q0 good_manyT C7.eq_def (Q0 good_EndT aF.eq_def Xd));have Ko:=cM.eq_def;refine Xj K Tryz.func173 [.tmp 4] rfl 38 rfl (fun c hc cvs hpre=>?_);unfold cM at hpre;obtain ⟨⟨t⟩,i,rfl,ht,hi,hw⟩:=Ql hpre;simp only at ht hw;rw [Xr] at hi;cases hc;refine Y4 2 ?_;rcases (by omega:i<0∨(t.length:Int)≤i∨(0≤i∧i<t.length)) with h|h|⟨h1,h2⟩
 ·have Qb:X4 i 0=true:=by rw [Jf];exact h
  have Q4:=@Z2;have Zu:=@Z5;have Zx:=@Z7;have Zw:=@Z4;have Zz:=@Nu;have Zy:=@Z6;have Kq:KaU:=⟨⟩;exact Tu
 ·have Qb:X4 i 0=false:=by rw [Qv];omega
  have Qf:Xf (t.length:Int) i=true:=by rw [Qx];omega
  have Q4:=@Z2;have Zu:=@Z5;have Zx:=@Z7;have Zw:=@Z4;have Zz:=@Nu;have Zy:=@Z6;have Kq:KaV:=⟨⟩;exact Tu
 ·obtain ⟨x,hx⟩:=hw h1 h2;obtain ⟨i,rfl⟩:∃ n:Nat,i=n:=⟨i.toNat,by omega⟩
  simp only [Zj] at hx;have hil:i<t.length:=by omega
  have Qb:X4 (i:Int) 0=false:=by rw [Qv];omega
  have Qf:Xf (t.length:Int) (i:Int)=false:=by rw [Pg];omega
  have hroot:t.getD i n0=x.root:=hx.root n0;obtain ⟨hks,hkl⟩:=hx.kids;obtain ⟨ks,hk⟩:=exq (x.kids);rw [hk] at hks hkl;have hle:=Zz2 hks (by omega)
  have Qe:ar (t.getD i n0)=ks.length:=by rw [hroot,hkl]
  obtain ⟨l,hl⟩:=exq (P3 (i+1) ks);have hll:l.length=ks.length:=by rw [←hl,Lw]
  have hkn:ks.length≤(ndss ks).length:=by
   clear hks hkl hle Qe hl hll hk
   induction ks with
   | nil=>simp
   | cons y ys ih=>simp only [Zi,ndss,Zf];have:=En y;omega
  have e0:nE t i=l:=by
   unfold nE;rw [if_neg (by omega)]
   simp only [Zj];rw [Vc hx,hk,hl]
  have Z9:=Zr n0 hil;have Q4:=@Z2;have Zu:=@Z5;have Zx:=@Z7;have Zw:=@Z4;have Zz:=@Nu;have Zy:=@Z6;have Kq:KaW:=⟨⟩;exact Tu
structure Pair where
 a:List Node
 b:List Node
 bel:Bool
def tB (b:List Node):Bool→D
 | true=>.clo 128 [.ptr 1 (.list 3 (b.map enc))]
 | false=>.clo 999999 []
def Qcr:D→Bool
 | .clo f _=>f==128
 | _=>false
instance encPair:Enc Pair:=⟨fun p=>.agg [.list 3 (p.a.map enc),.list 3 (p.b.map enc),tB p.b p.bel],fun x=>match x with
 | .agg [a,b,c]=>⟨a.l.map dec,b.l.map dec,Qcr c⟩
 | _=>⟨[],[],false⟩,fun p=>by
  have h:∀ l:List Node,(l.map (enc:Node→D)).map dec=l:=fun l=>Jq;cases p with
  | mk a b bel=>cases bel<;>simp [D.l,h,tB,Qcr]⟩
theorem aA {a b:List Node} {bel:Bool}:(enc (Pair.mk a b bel):D)=.agg [.list 3 (a.map enc),.list 3 (b.map enc),tB b bel]:=rfl
theorem jW {b:List Node}:tB b true=.clo 128 [.ptr 1 (.list 3 (b.map enc))]:=rfl
theorem jK {b:List Node}:tB b false=.clo 999999 []:=rfl
theorem Rl {a b:List Node}:(dec (.agg [.list 3 (a.map enc),.list 3 (b.map enc),.clo 128 [.ptr 1 (.list 3 (b.map enc))]]):Pair)=⟨a,b,true⟩:=Enc.dec_enc (Pair.mk a b true)
theorem Rm {a b:List Node}:(dec (.agg [.list 3 (a.map enc),.list 3 (b.map enc),.clo 999999 []]):Pair)=⟨a,b,false⟩:=Enc.dec_enc (Pair.mk a b false)
theorem Rd {a b:List Node}:V9 Pair (.agg [.list 3 (a.map enc),.list 3 (b.map enc),.clo 128 [.ptr 1 (.list 3 (b.map enc))]])=True:=eq_true (Xq (Pair.mk a b true))
theorem Rf {a b:List Node}:V9 Pair (.agg [.list 3 (a.map enc),.list 3 (b.map enc),.clo 999999 []])=True:=eq_true (Xq (Pair.mk a b false))
theorem Rn {a b:List Node} {bel:Bool}:(dec (.agg [.list 3 (a.map enc),.list 3 (b.map enc),tB b bel]):Pair)=⟨a,b,bel⟩:=Enc.dec_enc (Pair.mk a b bel)
theorem Rg {a b:List Node} {bel:Bool}:V9 Pair (.agg [.list 3 (a.map enc),.list 3 (b.map enc),tB b bel])=True:=eq_true (Xq (Pair.mk a b bel))
section
variable {a b:List Node} {c:Bool}
theorem vZ:(Pair.mk a b c).a=a:=rfl
theorem vQ:(Pair.mk a b c).b=b:=rfl
theorem uU:(Pair.mk a b c).bel=c:=rfl
end
def pX (bel:Bool) (m:Node):Bool:=!bel||m.kind==0
mutual
def ov (bel:Bool):Rose Node→Rose Node→Bool
 | mk n ks,y=>cond (n.kind==0||y.root.kind==0) (pX bel y.root) ((n.kind==y.root.kind&&(n.name==y.root.name&&n.n==y.root.n))&&ovs bel ks y.kids)
def ovs (bel:Bool):List (Rose Node)→List (Rose Node)→Bool
 | [],_=>true
 | _::_,[]=>false
 | x::xs,y::ys=>x.root.name==y.root.name&&(ov bel x y&&ovs bel xs ys)
end
def Ztw {A B C R S T:Type} [Enc A] [Enc B] [Enc C] [Enc R] [Enc S] [Enc T] (p:A→B→C→Prop) (f:A→B→C→R×S×T):Con:=⟨[false,false,false],[false,false,false],fun c=>match c with
 | [.d x,.d y,.d z]=>V9 A x∧V9 B y∧V9 C z∧p (dec x) (dec y) (dec z)
 | _=>False,fun c=>match c with
 | [.d x,.d y,.d z]=>.tup [.d (enc (f (dec x) (dec y) (dec z)).1),.d (enc (f (dec x) (dec y) (dec z)).2.1),.d (enc (f (dec x) (dec y) (dec z)).2.2)]
 | _=>.d .nilp⟩
theorem zZ {A B C R S T:Type} [Enc A] [Enc B] [Enc C] [Enc R] [Enc S] [Enc T] {p:A→B→C→Prop} {f:A→B→C→R×S×T} {c:List CV} (h:(Ztw p f).pre c):∃ a b d,c=[.d (enc a),.d (enc b),.d (enc d)]∧p a b d:=by
 unfold Ztw at h;simp only at h;split at h
 ·next x y z=>exact ⟨dec x,dec y,dec z,by rw [←h.1,←h.2.1,←h.2.2.1],h.2.2.2⟩
 ·exact h.elim
def I3 (bel:Bool) (x y:Rose Node) (i k:Int):Int×Int×Bool :=
 cond (x.root.kind==0||y.root.kind==0) (i+(nds x).length,k+(nds y).length,pX bel y.root)
  (cond (ov bel x y) (i+(nds x).length,k+(nds y).length,true) (0,0,false))
noncomputable def V8 (n:Nat):Con:=Ztw (fun (p:Pair) (i k:Int)=>p.a.length≤1000000000∧p.b.length≤1000000000∧0≤i∧0≤k∧∃ x y,At ar p.a i.toNat x∧At ar p.b k.toNat y∧(nds x).length<n∧p.bel=true)
 (fun p i k=>I3 p.bel (Yl ar p.a i.toNat) (Yl ar p.b k.toNat) i k)
theorem Zub:type_of% @V8.eq_def:=@V8.eq_def
theorem vS:∀ c,¬ (V8 0).pre c:=by
 intro c h;unfold V8 at h;obtain ⟨_,_,_,_,_,_,_,_,_,_,_,_,h,_⟩:=zZ h;omega
structure PL where
 l:List Node
instance encPL:Enc PL:=⟨fun p=>.ptr 1 (.list 3 (p.l.map enc)),fun x=>match x with
 | .ptr _ z=>⟨z.l.map dec⟩
 | _=>⟨[]⟩,fun p=>by
  have h:∀ l:List Node,(l.map (enc:Node→D)).map dec=l:=fun l=>Jq;cases p;simp [D.l,h]⟩
theorem Qdi {l:List Node}:(enc (PL.mk l):D)=.ptr 1 (.list 3 (l.map enc)):=rfl
theorem mW {l:List Node}:(dec (.ptr 1 (.list 3 (l.map enc))):PL)=⟨l⟩:=Enc.dec_enc (PL.mk l)
theorem lO {l:List Node}:V9 PL (.ptr 1 (.list 3 (l.map enc)))=True:=eq_true (Xq (PL.mk l))
theorem Zw4 {l:List Node}:(PL.mk l).l=l:=rfl
def Cq:Con:=Vp (fun (_ k:Int) (p:PL)=>0≤k∧k<p.l.length) (fun _ k p=>(p.l.getD k.toNat n0).kind==0)
theorem vL:Qa Tryz.prog (128,Cq):=by
 obtain ⟨Kx,Kt,Kc,Kd,Kb,Ku,Kw,K,_⟩:=Xe Zv Zn [] false Xd;have Ko:=Cq.eq_def;refine Xj K Tryz.func128 [.tmp 5] rfl 12 rfl (fun c hc cvs hpre=>?_);unfold Cq at hpre;obtain ⟨i,k,⟨l⟩,rfl,h1,h2⟩:=Vb hpre;simp only at h1 h2;obtain ⟨k,rfl⟩:∃ n:Nat,k=n:=⟨k.toNat,by omega⟩
 have hlt:k<l.length:=by omega
 cases hc;have Qb:=Zr n0 hlt;have Qf:=@Qdi;have Z9:=@mW;have Qe:=@lO;have Qc:=@Zw4;have Qh:=@Z2;have Qn:=@Z5;have Q6:=@Z7;have Je:=@Z4;have Q4:=@Nu;have Zu:=@Z6;exact Qik
theorem jO {A B C R S T:Type} [Enc A] [Enc B] [Enc C] [Enc R] [Enc S] [Enc T] (p:A→B→C→Prop) (f:A→B→C→R×S×T):Ztw p f=⟨[false,false,false],[false,false,false],fun c=>match c with
 | [.d x,.d y,.d z]=>V9 A x∧V9 B y∧V9 C z∧p (dec x) (dec y) (dec z)
 | _=>False,fun c=>match c with
 | [.d x,.d y,.d z]=>.tup [.d (enc (f (dec x) (dec y) (dec z)).1),.d (enc (f (dec x) (dec y) (dec z)).2.1),.d (enc (f (dec x) (dec y) (dec z)).2.2)]
 | _=>.d .nilp⟩:=rfl
theorem Zaq {bel:Bool}:∀ {xs ys:List (Rose Node)},xs.length=ys.length→(ovs bel xs ys=true↔∀ j,j<xs.length→∀ (h:j<xs.length) (g:j<ys.length),xs[j].root.name=ys[j].root.name∧ov bel xs[j] ys[j]=true)
 | [],[],_=>by simp [ovs]
 | [],_::_,h=>by simp at h
 | _::_,[],h=>by simp at h
 | x::xs,y::ys,h=>by
  simp only [ovs,Zg,Zk];rw [Zaq (by simpa using h)]
  constructor
  ·rintro ⟨h1,h2,h3⟩ j hj;cases j with
   | zero=>exact fun _ _=>⟨h1,h2⟩
   | succ j=>exact fun g1 g2=>h3 j (by simpa using g1) (by simpa using g1) (by simpa using g2)
  ·intro h4;have h5:=h4 0 (by simp) (by simp) (by simp)
   exact ⟨h5.1,h5.2,fun j hj g1 g2=>h4 (j+1) (by simpa using hj) (by simpa using g1) (by simpa using g2)⟩
theorem rX {bel:Bool} {x y:Rose Node} {i k:Int}:(I3 bel x y i k).2.2=ov bel x y:=by
 obtain ⟨n,ks⟩:=x;unfold I3;cases hd:((mk n ks).root.kind==0||y.root.kind==0) with
 | true =>
  simp only [cond_true];rw [ov];rw [show (mk n ks).root=n from rfl] at hd;rw [hd];rfl
 | false =>
  cases ho:ov bel (mk n ks) y<;>simp
theorem Zsz {bel:Bool} {x y:Rose Node} {i k:Nat} (h:ov bel x y=true):I3 bel x y i k=(((i+(nds x).length:Nat):Int),((k+(nds y).length:Nat):Int),true):=by
 have h2:=rX (bel:=bel) (x:=x) (y:=y) (i:=i) (k:=k);rw [h] at h2;unfold I3 at h2 ⊢;cases hd:(x.root.kind==0||y.root.kind==0) with
 | true =>
  rw [hd] at h2;simp only [cond_true] at h2 ⊢;rw [h2];simp
 | false=>rw [h];simp
theorem Qcv {m n:Node} (h1:m.kind=n.kind) (h2:m.n=n.n):ar m=ar n:=by unfold ar;rw [h1,h2]
theorem Zve {xs:List (Rose Node)} {j:Nat} (h:j<xs.length):(nds xs[j]).length≤(ndss xs).length:=by
 induction xs generalizing j with
 | nil=>simp at h
 | cons x xs ih =>
  simp only [ndss,Zf];cases j with
  | zero=>simp
  | succ j=>have:=ih (j:=j) (by simpa using h);simp only [List.getElem_cons_succ];omega
theorem Zx0 {p:Prop} (h:p:=by (sym=>simp [Kt,Kc,Kd,Kb,Ku,Kw,Ko,X9,Uv,Po,Cx,Oj,kK,oB,Zbx,Zlp,Zlo,Ok,Qb,Qf,Z9,Qe,Qc,Qh,Qn,Q6,Je,Q4,Zu,Zx,Zw,Zz,Zy,Qd,Z1,Z0,Qi,Qk,Qs,Q8,Q5,Qy,Jh,Jg,Wb,Wn,Wx,W0,Wz,Gb,Ga,H3,H2,Hq,Hp,M4,M3,Nm,M0,Mz,Nz,My,Mx,Mw,D.setCell.eq_1,Zj,Zw4,vZ,vQ,uU,Y5,Ju,Jt,Xm,Js,jO,J2,Zub,Z7,mW,Rn,Rm,Rl,J1,jK,jW,Z2,aA,Z6,Y3,Fn,Z5,lO,Rg,Rf,Rd,Xb,Wh,Kj,Z4,bZ,Nu,Ud,Zll,Zlk,Zlj,Zli,Zlh,Zlg,Zlf,Zle,Zld,Zlc,Zlb,Zla,Zk9,Zk8,Zk7,Zk6,Zk5,Zk4,Zk3,Zk2,Zk1,Zk0,Zkz,Zky,Zkx,Zkw,Zkv,Zku,Zkt,Zks,Zkr,Zkq,Zkp,Zko,Zkn,Zkm,Zkl,Zkk,Zkj,Zki,Zkh,Zkg,Zkf,Zke,Zkd,Zkc,Zkb,Zka,Zj9,Zj8,Zj7,Zj6,Zj5,Zj4,Zj3,Zj2,Zj1,Zj0,Zjz,Zjy,Zjx,Zjw,Zjv,Zju,Zjt,Zjs,Zjr,Zjq,Zjp,Zjo,Zjn,Zjm,Zjl,Zjk,Zjj,Zji,Zjh,Zjg,Zjf,Zje,Zjd,Zjc,Zjb,Zja,Zi9,Zi8,Zi7,Zi6,Zi5,Zi4,Zi3,Zi2,Zi1,Zi0,Ziz,Ziy,Zix,Ziw,Ziv,Ziu,Zit,Zis,Zir,Ziq,Zip,Zio,Zin,Zim,Zil,Zik,Zij,Zii,Zih,Zig,Zif,Zie,Zid,Zic,Zib,Zia,Zh9,Zh8,Zh7,Zh6,Zh5,Zh4,Zh3,Zh2,Zh1,Zh0,Zhz,Zhy,Zhx,Zhw,Zhv,Zhu,Zht,Zhs,Zhr,Zhq,Zhp,Zho,Zhn,Zhm,Zhl,Zhk,Zhj,Zhi,Zhh,Zhg,Zhf,Zhe,Zhd,Zhc,Zhb,Zha,Zg9,Zg8,Zg7,Zg6,Zg5,Zg4,Zg3,Zg2,Zg1,Zg0,Zgz,Zgy,Zgx,Zgw,Zgv,Zgu,Zgt,Zgs,Zgr,Zgq,Zgp,Zgo,Zgn,Zgm,Zgl,Zgk,Zgj,Zgi,Zgh,Zgg,Zgf,Zge,Zgd,Zgc,Zgb,Zga,Zf9,Zf8,Zf7,Zf6,Zf5,Zf4,Zf3,Zf2,Zf1,Zf0,Zfz,Zfy,Zfx,Zfw,Zfv,Zfu,Zft,Zfs,Zfr,Zfq,Zfp,Zfo,Zfn,Zfm,Zfl,Zfk,Zfj,Zfi,Zfh,Zfg,Zff,Zfe,Zfd,Zfc,Zfb,Zfa,Ze9,Ze8,Ze7,Ze6,Ze5,Ze4,Ze3,Ze2,Ze1,Ze0,Zez,Zey,Zex,Zew,Zev,Zeu,Zet,Zes,Zer,Zeq,Zep,Zeo,Zen,Zem,Zel,Zek,Zej,Zei,Zeh,Zeg,Zef,Zee,Zed,Zec,Zeb,Zea,Zd9,Zd8,Zd7,Zd6,Zd5,Zd4,Zd3,Zd2,Zd1,Zd0,Zdz,Zdy,Zdx,Zdw,Zdv,Zdu,Zdt,Zds,Zdr,Zdq,Zdp,Zdo,Zdn,Zdm,Zdl,Zdk,Zdj,Zdi,Zdh,Zdg,Zdf,Zde,Zdd,Zdc,Zdb,Zda,Zc9,Zc8,Zc7,Zc6,Zc5,Zc4,Zc3,Zc2,Zc1,Zc0,Zcz,Zcy,Zcx,Zcw,Zcv,Zcu,Zct,Zcs,Zcr,Zcq,Zcp,Zco,Zcn,Zcm,Zcl,Zck,Zcj,Zci,Zch,Zcg,Zcf,Zce,Zcd,Zcc,Zcb,Zca,Zb9,Zb8,Zb7,Zb6,Zb5,Zb4,Zb3,Zb2,Zb1,Zb0,Zbz,Zby,Of,Oe,Od,Oc,Ob,Oa,Le,Ld,Lb,La,B9,B8,B7,B6,B5,B4,B3,B1,B0,Bz,Bx,Bw,Bv,Bu,Bt,Bs,Br,Bq,Bp,Bo,Bn,Bm,Bl,Hn,Hm,Hl,Hk,Hj,Hi,Hh,Hg,Hf,He,Hd,Hc,Hb,Ha,G9,G8,G7,G6,G5,G4,G3,Gz,Gy,Gx,Gw,Gv,Gu,Gt,Gq,Gp,Gn])):p:=h
theorem U6 {p:Prop} (h:p:=by
 (sym=>simp [Kt,Kc,Kd,Kb,Ku,Kw,Ko,X9,Uv,Po,Cx,Oj,kK,oB,Zbx,Zlp,Zlo,Ok,Qb,Qf,Z9,Qe,Qc,Qh,Qn,Q6,Je,Q4,Zu,Zx,Zw,Zz,Zy,Qd,Z1,Z0,Qi,Qk,Qs,Q8,Q5,Qy,Jh,Jg,Wb,Wn,Wx,W0,Wz,Gb,Ga,H3,H2,Hq,Hp,M4,M3,Nm,M0,Mz,Nz,My,Mx,Mw,D.setCell.eq_1,Zj,Zw4,vZ,vQ,uU,Y5,Ju,Jt,Xm,Js,jO,J2,Zub,Z7,mW,Rn,Rm,Rl,J1,jK,jW,Z2,aA,Z6,Y3,Fn,Z5,lO,Rg,Rf,Rd,Xb,Wh,Kj,Z4,bZ,Nu,Ud,Zll,Zlk,Zlj,Zli,Zlh,Zlg,Zlf,Zle,Zld,Zlc,Zlb,Zla,Zk9,Zk8,Zk7,Zk6,Zk5,Zk4,Zk3,Zk2,Zk1,Zk0,Zkz,Zky,Zkx,Zkw,Zkv,Zku,Zkt,Zks,Zkr,Zkq,Zkp,Zko,Zkn,Zkm,Zkl,Zkk,Zkj,Zki,Zkh,Zkg,Zkf,Zke,Zkd,Zkc,Zkb,Zka,Zj9,Zj8,Zj7,Zj6,Zj5,Zj4,Zj3,Zj2,Zj1,Zj0,Zjz,Zjy,Zjx,Zjw,Zjv,Zju,Zjt,Zjs,Zjr,Zjq,Zjp,Zjo,Zjn,Zjm,Zjl,Zjk,Zjj,Zji,Zjh,Zjg,Zjf,Zje,Zjd,Zjc,Zjb,Zja,Zi9,Zi8,Zi7,Zi6,Zi5,Zi4,Zi3,Zi2,Zi1,Zi0,Ziz,Ziy,Zix,Ziw,Ziv,Ziu,Zit,Zis,Zir,Ziq,Zip,Zio,Zin,Zim,Zil,Zik,Zij,Zii,Zih,Zig,Zif,Zie,Zid,Zic,Zib,Zia,Zh9,Zh8,Zh7,Zh6,Zh5,Zh4,Zh3,Zh2,Zh1,Zh0,Zhz,Zhy,Zhx,Zhw,Zhv,Zhu,Zht,Zhs,Zhr,Zhq,Zhp,Zho,Zhn,Zhm,Zhl,Zhk,Zhj,Zhi,Zhh,Zhg,Zhf,Zhe,Zhd,Zhc,Zhb,Zha,Zg9,Zg8,Zg7,Zg6,Zg5,Zg4,Zg3,Zg2,Zg1,Zg0,Zgz,Zgy,Zgx,Zgw,Zgv,Zgu,Zgt,Zgs,Zgr,Zgq,Zgp,Zgo,Zgn,Zgm,Zgl,Zgk,Zgj,Zgi,Zgh,Zgg,Zgf,Zge,Zgd,Zgc,Zgb,Zga,Zf9,Zf8,Zf7,Zf6,Zf5,Zf4,Zf3,Zf2,Zf1,Zf0,Zfz,Zfy,Zfx,Zfw,Zfv,Zfu,Zft,Zfs,Zfr,Zfq,Zfp,Zfo,Zfn,Zfm,Zfl,Zfk,Zfj,Zfi,Zfh,Zfg,Zff,Zfe,Zfd,Zfc,Zfb,Zfa,Ze9,Ze8,Ze7,Ze6,Ze5,Ze4,Ze3,Ze2,Ze1,Ze0,Zez,Zey,Zex,Zew,Zev,Zeu,Zet,Zes,Zer,Zeq,Zep,Zeo,Zen,Zem,Zel,Zek,Zej,Zei,Zeh,Zeg,Zef,Zee,Zed,Zec,Zeb,Zea,Zd9,Zd8,Zd7,Zd6,Zd5,Zd4,Zd3,Zd2,Zd1,Zd0,Zdz,Zdy,Zdx,Zdw,Zdv,Zdu,Zdt,Zds,Zdr,Zdq,Zdp,Zdo,Zdn,Zdm,Zdl,Zdk,Zdj,Zdi,Zdh,Zdg,Zdf,Zde,Zdd,Zdc,Zdb,Zda,Zc9,Zc8,Zc7,Zc6,Zc5,Zc4,Zc3,Zc2,Zc1,Zc0,Zcz,Zcy,Zcx,Zcw,Zcv,Zcu,Zct,Zcs,Zcr,Zcq,Zcp,Zco,Zcn,Zcm,Zcl,Zck,Zcj,Zci,Zch,Zcg,Zcf,Zce,Zcd,Zcc,Zcb,Zca,Zb9,Zb8,Zb7,Zb6,Zb5,Zb4,Zb3,Zb2,Zb1,Zb0,Zbz,Zby,Of,Oe,Od,Oc,Ob,Oa,Le,Ld,Lb,La,B9,B8,B7,B6,B5,B4,B3,B1,B0,Bz,Bx,Bw,Bv,Bu,Bt,Bs,Br,Bq,Bp,Bo,Bn,Bm,Bl,Hn,Hm,Hl,Hk,Hj,Hi,Hh,Hg,Hf,He,Hd,Hc,Hb,Ha,G9,G8,G7,G6,G5,G4,G3,Gz,Gy,Gx,Gw,Gv,Gu,Gt,Gq,Gp,Gn];tactic =>
   try simp only [I4] at *
   try simp only [Zw8] at *
   try simp (maxSteps:=4000000) only [Qb,Qf,Z9,Qe,Qc,Qh,Qn,Q6,Je,Q4,Zu,Zx,Zw,Zz,Zy,Qd,Z1,Z0,Qi,Qk,Qs,Q8,Q5,Qy,Jh,Jg,Wb,Wn,Wx,W0,Wz,Gb,Ga,H3,H2,Hq,Hp,M4,M3,Nm,M0,Mz,Nz,My,Mx,Mw,D.setCell.eq_1,Zj,Zw4,vZ,vQ,uU,Y5,Ju,Jt,Xm,Js,jO,J2,Zub,Z7,mW,Rn,Rm,Rl,J1,jK,jW,Z2,aA,Z6,Y3,Fn,Z5,lO,Rg,Rf,Rd,Xb,Wh,Kj,Z4,bZ,Nu,Ud,oC]
   first|done|exact Kq.k)):p:=h
theorem wL {p:Prop} (h:p:=by
 first|(sym=>simp [Kt,Kc,Kd,Kb,Ku,Kw,Ko,X9,Uv,Po,Cx,Oj,kK,oB,Zbx,Zlp,Zlo,Ok,Qb,Qf,Z9,Qe,Qc,Qh,Qn,Q6,Je,Q4,Zu,Zx,Zw,Zz,Zy,Qd,Z1,Z0,Qi,Qk,Qs,Q8,Q5,Qy,Jh,Jg,Wb,Wn,Wx,W0,Wz,Gb,Ga,H3,H2,Hq,Hp,M4,M3,Nm,M0,Mz,Nz,My,Mx,Mw,D.setCell.eq_1,Zj,Zw4,vZ,vQ,uU,Y5,Ju,Jt,Xm,Js,jO,J2,Zub,Z7,mW,Rn,Rm,Rl,J1,jK,jW,Z2,aA,Z6,Y3,Fn,Z5,lO,Rg,Rf,Rd,Xb,Wh,Kj,Z4,bZ,Nu,Ud,Zll,Zlk,Zlj,Zli,Zlh,Zlg,Zlf,Zle,Zld,Zlc,Zlb,Zla,Zk9,Zk8,Zk7,Zk6,Zk5,Zk4,Zk3,Zk2,Zk1,Zk0,Zkz,Zky,Zkx,Zkw,Zkv,Zku,Zkt,Zks,Zkr,Zkq,Zkp,Zko,Zkn,Zkm,Zkl,Zkk,Zkj,Zki,Zkh,Zkg,Zkf,Zke,Zkd,Zkc,Zkb,Zka,Zj9,Zj8,Zj7,Zj6,Zj5,Zj4,Zj3,Zj2,Zj1,Zj0,Zjz,Zjy,Zjx,Zjw,Zjv,Zju,Zjt,Zjs,Zjr,Zjq,Zjp,Zjo,Zjn,Zjm,Zjl,Zjk,Zjj,Zji,Zjh,Zjg,Zjf,Zje,Zjd,Zjc,Zjb,Zja,Zi9,Zi8,Zi7,Zi6,Zi5,Zi4,Zi3,Zi2,Zi1,Zi0,Ziz,Ziy,Zix,Ziw,Ziv,Ziu,Zit,Zis,Zir,Ziq,Zip,Zio,Zin,Zim,Zil,Zik,Zij,Zii,Zih,Zig,Zif,Zie,Zid,Zic,Zib,Zia,Zh9,Zh8,Zh7,Zh6,Zh5,Zh4,Zh3,Zh2,Zh1,Zh0,Zhz,Zhy,Zhx,Zhw,Zhv,Zhu,Zht,Zhs,Zhr,Zhq,Zhp,Zho,Zhn,Zhm,Zhl,Zhk,Zhj,Zhi,Zhh,Zhg,Zhf,Zhe,Zhd,Zhc,Zhb,Zha,Zg9,Zg8,Zg7,Zg6,Zg5,Zg4,Zg3,Zg2,Zg1,Zg0,Zgz,Zgy,Zgx,Zgw,Zgv,Zgu,Zgt,Zgs,Zgr,Zgq,Zgp,Zgo,Zgn,Zgm,Zgl,Zgk,Zgj,Zgi,Zgh,Zgg,Zgf,Zge,Zgd,Zgc,Zgb,Zga,Zf9,Zf8,Zf7,Zf6,Zf5,Zf4,Zf3,Zf2,Zf1,Zf0,Zfz,Zfy,Zfx,Zfw,Zfv,Zfu,Zft,Zfs,Zfr,Zfq,Zfp,Zfo,Zfn,Zfm,Zfl,Zfk,Zfj,Zfi,Zfh,Zfg,Zff,Zfe,Zfd,Zfc,Zfb,Zfa,Ze9,Ze8,Ze7,Ze6,Ze5,Ze4,Ze3,Ze2,Ze1,Ze0,Zez,Zey,Zex,Zew,Zev,Zeu,Zet,Zes,Zer,Zeq,Zep,Zeo,Zen,Zem,Zel,Zek,Zej,Zei,Zeh,Zeg,Zef,Zee,Zed,Zec,Zeb,Zea,Zd9,Zd8,Zd7,Zd6,Zd5,Zd4,Zd3,Zd2,Zd1,Zd0,Zdz,Zdy,Zdx,Zdw,Zdv,Zdu,Zdt,Zds,Zdr,Zdq,Zdp,Zdo,Zdn,Zdm,Zdl,Zdk,Zdj,Zdi,Zdh,Zdg,Zdf,Zde,Zdd,Zdc,Zdb,Zda,Zc9,Zc8,Zc7,Zc6,Zc5,Zc4,Zc3,Zc2,Zc1,Zc0,Zcz,Zcy,Zcx,Zcw,Zcv,Zcu,Zct,Zcs,Zcr,Zcq,Zcp,Zco,Zcn,Zcm,Zcl,Zck,Zcj,Zci,Zch,Zcg,Zcf,Zce,Zcd,Zcc,Zcb,Zca,Zb9,Zb8,Zb7,Zb6,Zb5,Zb4,Zb3,Zb2,Zb1,Zb0,Zbz,Zby,Of,Oe,Od,Oc,Ob,Oa,Le,Ld,Lb,La,B9,B8,B7,B6,B5,B4,B3,B1,B0,Bz,Bx,Bw,Bv,Bu,Bt,Bs,Br,Bq,Bp,Bo,Bn,Bm,Bl,Hn,Hm,Hl,Hk,Hj,Hi,Hh,Hg,Hf,He,Hd,Hc,Hb,Ha,G9,G8,G7,G6,G5,G4,G3,Gz,Gy,Gx,Gw,Gv,Gu,Gt,Gq,Gp,Gn];tactic =>
   try simp only [I4] at *
   try simp only [Zw8] at *
   try simp (maxSteps:=4000000) only [Qb,Qf,Z9,Qe,Qc,Qh,Qn,Q6,Je,Q4,Zu,Zx,Zw,Zz,Zy,Qd,Z1,Z0,Qi,Qk,Qs,Q8,Q5,Qy,Jh,Jg,Wb,Wn,Wx,W0,Wz,Gb,Ga,H3,H2,Hq,Hp,M4,M3,Nm,M0,Mz,Nz,My,Mx,Mw,D.setCell.eq_1,Zj,Zw4,vZ,vQ,uU,Y5,Ju,Jt,Xm,Js,jO,J2,Zub,Z7,mW,Rn,Rm,Rl,J1,jK,jW,Z2,aA,Z6,Y3,Fn,Z5,lO,Rg,Rf,Rd,Xb,Wh,Kj,Z4,bZ,Nu,Ud,oC]
   repeat' first|with_reducible assumption|with_reducible apply Zb|intro _|omega|(rw [Xr];omega)
   all_goals first|with_reducible exact Jd|omega|rfl|trivial|exact Or.inr trivial|assumption|contradiction|exact Qw)|exact Zx0):p:=h
structure KaZ:Prop
theorem KaZ.k (_:KaZ) (h:p:=by
 repeat' first|exact Z8|with_reducible apply Zb|intro _
 all_goals first|with_reducible exact Jd|(unfold pX;simp_all)):p:=h
structure Kbb:Prop
theorem Kbb.k (_:Kbb) (h:p:=by
 repeat' first|exact Z8|with_reducible apply Zb|intro _
 all_goals with_reducible exact Jd):p:=h
structure Kbc:Prop
theorem Kbc.k (_:Kbc) (h:p:=by
 repeat' first|exact Z8|with_reducible apply Zb|intro _
 all_goals with_reducible exact Jd):p:=h
structure Kbd:Prop
theorem Kbd.k (_:Kbd) (h:p:=by
 repeat' first|exact Z8|with_reducible apply Zb|intro _
 all_goals first|with_reducible exact Jd|exact ⟨j+1,by exact Qw,by omega,hgo hnm' ho,by omega⟩):p:=h
structure Kba:Prop
theorem Kba.k (_:Kba) (h:p:=by
 repeat' first|exact Z8|with_reducible apply Zb|intro _
 all_goals first|with_reducible exact Jd|skip
 refine Zm [6,7,8,12,74,75,76,77,78,79,80,81,82,83,84,85,86,87,88,89,90,91,92,93,94,95,96,97,98] (fun j:Nat=>[(1,.d (.int .i64 (i+1+(ndss (xs.take j)).length:Nat))),(2,.d (.int .i64 (k+1+(ndss (ys.take j)).length:Nat))),(73,.d (.int .i64 j))]) (fun j:Nat=>[]) (fun j:Nat=>j≤xs.length∧∀ p,p<j→∀ (h:p<xs.length) (g:p<ys.length),xs[p].root.name=ys[p].root.name∧ov bel xs[p] ys[p]=true) (fun j:Nat=>xs.length-j) 0 ?_ ?_ ?_
 ·exact ⟨Nat.zero_le _,fun p hp=>absurd hp (by omega)⟩
 ·have Km:=@ndss.eq_1;have Fg:=@ndss.eq_2;exact Qw
 rintro j ⟨hj,hno⟩;rcases Zo j xs.length with ⟨hlt,Qk⟩|⟨hlt,Qk⟩
 ·have hlt':j<ys.length:=by omega
  have hax:=uL hks hlt;have hay:=uL hqs hlt';have hnr:(nds xs[j]).length<n:=by have:=Zve hlt;omega
  obtain ⟨xj,hxj⟩:=exq (xs[j]);obtain ⟨yj,hyj⟩:=exq (ys[j]);have hsx:=Dm hlt;have hsy:=Dm hlt';rw [hxj] at hax hnr hsx;rw [hyj] at hay hsy;have hgo:xj.root.name=yj.root.name→ov bel xj yj=true→∀ p,p<j+1→∀ (h:p<xs.length) (g:p<ys.length),xs[p].root.name=ys[p].root.name∧ov bel xs[p] ys[p]=true:=by
   intro Nm Nz p hp h g;by_cases hpj:p=j
   ·subst hpj;rw [hxj,hyj];exact ⟨Nm,Nz⟩
   ·exact hno p (by omega) h g
  have hst:¬ (xj.root.name=yj.root.name∧ov bel xj yj=true)→ov bel x y=false:=by
   intro h;rw [hov,Bool.eq_false_iff];intro hc;have:=(Zaq hlen).1 hc j hlt hlt hlt';rw [hxj,hyj] at this;exact h this
  obtain ⟨I,Qs⟩:=exq (i+1+(ndss (xs.take j)).length);obtain ⟨J,Q8⟩:=exq (k+1+(ndss (ys.take j)).length);rw [Qs] at hax;rw [Q8] at hay;have hIl:=hax.lt;have hJl:=hay.lt;have Jh:a.getD I n0=xj.root:=hax.root n0;have Jg:b.getD J n0=yj.root:=hay.root n0;have Wz:Yl ar a I=xj:=Vc hax;have Gb:Yl ar b J=yj:=Vc hay;have hrec:∃ x y,At ar a I x∧At ar b J y∧(nds x).length<n:=⟨xj,yj,hax,hay,hnr⟩;cases Wb:(xj.root.name==yj.root.name) with
  | false =>
   have Wn:=hbadR (hst fun h=>by rw [Za] at Wb;exact Wb h.1)
   have Q5:=Zr n0 hIl;have Qy:=Zr n0 hJl;have Kq:Kbb:=⟨⟩;exact U6
  | true =>
   have hnm':=Wb;rw [Zk] at hnm';cases ho:ov bel xj yj with
   | false =>
    have Wn:=hbadR (hst fun h=>by rw [ho] at h;cases h.2)
    have Ga:(I3 bel xj yj (I:Int) (J:Int)).2.2=false:=by rw [rX,ho]
    cases bel with
    | true =>
     have Wx:=Zr n0 hIl;have W0:=Zr n0 hJl;have Kq:Kbc:=⟨⟩;exact U6
    | false =>
     cases hbel
   | true =>
    have Ga:=Zsz (bel:=bel) (x:=xj) (y:=yj) (i:=I) (k:=J) ho;have Hq:I+(nds xj).length=i+1+(ndss (xs.take (j+1))).length:=by omega
    have Hp:J+(nds yj).length=k+1+(ndss (ys.take (j+1))).length:=by omega
    cases bel with
    | true =>
     have H3:=Zr n0 hIl;have H2:=Zr n0 hJl;have Kq:Kbd:=⟨⟩;exact U6
    | false =>
     cases hbel
 ·have hjk:j=xs.length:=by omega
  subst hjk;have ho:ov bel x y=true:=by
   rw [hov];exact (Zaq hlen).2 fun p _ h g=>hno p h h g
  have Ga:=Zsz (bel:=bel) (x:=x) (y:=y) (i:=i) (k:=k) ho;have Hq:i+1+(ndss (xs.take xs.length)).length=i+(nds x).length:=by rw [List.take_length];omega
  have Hp:k+1+(ndss (ys.take xs.length)).length=k+(nds y).length:=by rw [hlen,List.take_length];omega
  exact Zx0):p:=h
structure Kbe:Prop
theorem Kbe.k (_:Kbe) (h:p:=by
 repeat' first|exact Z8|with_reducible apply Zb|intro _
 all_goals with_reducible exact Jd):p:=h
structure Kbf:Prop
theorem Kbf.k (_:Kbf) (h:p:=by
 repeat' first|exact Z8|with_reducible apply Zb|intro _
 all_goals with_reducible exact Jd):p:=h
structure Kbg:Prop
theorem Kbg.k (_:Kbg) (h:p:=by
 repeat' first|exact Z8|with_reducible apply Zb|intro _
 all_goals with_reducible exact Jd):p:=h
theorem step_over (n:Nat) (ih:Qa Tryz.prog (129,V8 n)):Qa Tryz.prog (129,(V8 (n+1))):=by
 obtain ⟨Kx,Kt,Kc,Kd,Kb,Ku,Kw,K,X9,Uv,Po,Cx,_⟩:=Xe Zv Zn [] false (Q0 good_EndT aF.eq_def (Q0 good_KidsT cM.eq_def (Q0 vL Cq.eq_def (Q0 ih (Zub n) Xd))));have Ko:=(Zub (n+1));refine Xj K Tryz.func129 [.tmp 6,.tmp 7,.tmp 8] rfl 101 rfl (fun c hc cvs hpre=>?_);unfold V8 at hpre;obtain ⟨⟨a,b,bel⟩,i,k,rfl,ha,hb,hi0,hk0,x,y,hx,hy,hn,hbel⟩:=zZ hpre;simp only at hbel;obtain ⟨i,rfl⟩:∃ n:Nat,i=n:=⟨i.toNat,by omega⟩
 obtain ⟨k,rfl⟩:∃ n:Nat,k=n:=⟨k.toNat,by omega⟩
 simp only [Zj] at hx hy ha hb;have hil:=hx.lt;have hkl:=hy.lt;have hix:=hx.le;have hky:=hy.le;have Z9:a.getD i n0=x.root:=hx.root n0;have Qe:b.getD k n0=y.root:=hy.root n0;have Qc:Yl ar a i=x:=Vc hx;have Qh:Yl ar b k=y:=Vc hy;have Qn:Zbd a i=((i+(nds x).length:Nat):Int):=Zbc hx;have Q6:Zbd b k=((k+(nds y).length:Nat):Int):=Zbc hy;have hwx:=Zr8 hx;have hwy:=Zr8 hy;cases hc;refine Y4 6 ?_;have hdc:((x.root.kind==0)=true∧(x.root.kind==0||y.root.kind==0)=true)∨((x.root.kind==0)=false∧(y.root.kind==0)=true∧(x.root.kind==0||y.root.kind==0)=true)∨((x.root.kind==0)=false∧(y.root.kind==0)=false∧(x.root.kind==0||y.root.kind==0)=false):=by
  cases x.root.kind==0<;>cases y.root.kind==0<;>simp
 have hR:(x.root.kind==0||y.root.kind==0)=true→I3 bel x y i k=(((i+(nds x).length:Nat):Int),((k+(nds y).length:Nat):Int),pX bel y.root):=by
  intro hd;unfold I3;rw [hd];simp
 rcases hdc with ⟨Je,hd⟩|⟨Je,Zw,hd⟩|⟨Je,Zw,hd⟩
 ·have Q4:=hR hd;cases bel with
  | true =>
   have Qb:=Zr n0 hil;have Qf:=Zr n0 hkl;exact wL
  | false =>
   cases hbel
 ·have Q4:=hR hd;cases bel with
  | true =>
   have Zu:=Zr n0 hil;have Zx:=Zr n0 hkl;have Kq:KaZ:=⟨⟩;exact U6
  | false =>
   cases hbel
 ·obtain ⟨hks,hkn⟩:=hx.kids;obtain ⟨hqs,hqn⟩:=hy.kids;obtain ⟨xs,hxs⟩:=exq (x.kids);obtain ⟨ys,hys⟩:=exq (y.kids);have hov:ov bel x y=((x.root.kind==y.root.kind&&(x.root.name==y.root.name&&x.root.n==y.root.n))&&ovs bel xs ys):=by
   obtain ⟨m,zs⟩:=x;rw [ov];rw [show (mk m zs).root=m from rfl] at hd;rw [hd,hys,show zs=xs from hxs];rfl
  have hRo:I3 bel x y i k=cond (ov bel x y) (((i+(nds x).length:Nat):Int),((k+(nds y).length:Nat):Int),true) (0,0,false):=by
   unfold I3;rw [hd];simp
  have hkids:nE a i=P3 (i+1) xs:=by
   unfold nE;rw [if_neg (by omega)]
   simp only [Zj];rw [Qc,hxs]
  have Qi:(nE a i).length=xs.length:=by rw [hkids,Lw]
  have htree:Qgj a i:=fun _ _=>⟨x,by simpa using hx⟩
  have hbadR:ov bel x y=false→I3 bel x y i k=(0,0,false):=by
   intro h;rw [hRo,h];rfl
  have hsame:(x.root.kind==y.root.kind&&(x.root.name==y.root.name&&x.root.n==y.root.n))=true→xs.length=ys.length:=by
   intro h;simp only [Zg,Zk] at h;rw [hxs] at hkn;rw [hys] at hqn;rw [hkn,hqn,Qcv h.1 h.2.2]
  rw [hxs] at hks;rw [hys] at hqs;have hle:=Zz2 hks (by omega)
  have hnx:(nds x).length=1+(ndss xs).length:=by rw [pA,hxs,Zi];omega
  have hny:(nds y).length=1+(ndss ys).length:=by rw [pA,hys,Zi];omega
  have hxl:xs.length≤1000000000:=by
   have:=Lw (i+1) xs;have h2:xs.length≤(ndss xs).length:=by
    clear hks hle hov hkids Qi hbadR hRo hsame hxs hnx this
    induction xs with
    | nil=>simp
    | cons z zs ih=>simp only [Zi,ndss,Zf];have:=En z;omega
   omega
  by_cases hk1:x.root.kind=y.root.kind∧x.root.name=y.root.name∧x.root.n=y.root.n
  ·obtain ⟨e1,e2,e3⟩:=hk1;have Qd:(x.root.kind != y.root.kind)=false:=by simp [e1]
   have Z1:(x.root.name==y.root.name)=true:=by simp [e2]
   have Z0:(x.root.n != y.root.n)=false:=by simp [e3]
   have c1:(x.root.kind==y.root.kind)=true:=by simp [e1]
   have c3:(x.root.n==y.root.n)=true:=by simp [e3]
   have hlen:xs.length=ys.length:=hsame (by simp [e1,e2,e3])
   rw [c1,Z1,c3,Bool.true_and,Bool.true_and,Bool.true_and] at hov;have Zz:=Zr n0 hil;have Zy:=Zr n0 hkl;have Kq:Kba:=⟨⟩;exact U6
  ·have Wn:=hbadR (by
    rw [hov,Bool.eq_false_iff];intro hc;simp only [Zg,Zk] at hc;exact hk1 ⟨hc.1.1,hc.1.2.1,hc.1.2.2⟩)
   have hcs:(x.root.kind != y.root.kind)=true∨((x.root.kind != y.root.kind)=false∧(x.root.name==y.root.name)=false)∨((x.root.kind != y.root.kind)=false∧(x.root.name==y.root.name)=true∧(x.root.n != y.root.n)=true):=by
    simp only [bne_iff_ne,ne_eq,bne_eq_false_iff_eq,Za,Zk];by_cases h1:x.root.kind=y.root.kind
    ·by_cases h2:x.root.name=y.root.name
     ·exact .inr (.inr ⟨h1,h2,fun h3=>hk1 ⟨h1,h2,h3⟩⟩)
     ·exact .inr (.inl ⟨h1,h2⟩)
    ·exact .inl h1
   rcases hcs with Nm|⟨Nm,Nz⟩|⟨Nm,Nz,Mw⟩
   ·have M4:=Zr n0 hil;have M3:=Zr n0 hkl;have Kq:Kbe:=⟨⟩;exact U6
   ·have M0:=Zr n0 hil;have Mz:=Zr n0 hkl;have Kq:Kbf:=⟨⟩;exact U6
   ·have My:=Zr n0 hil;have Mx:=Zr n0 hkl;have Kq:Kbg:=⟨⟩;exact U6
theorem sF:∀ n,Qa Tryz.prog (129,V8 n)
 | 0=>X2 (Jp Tryz.func129 (by kernel_rfl) rfl) vS
 | n+1=>step_over n (sF n)
noncomputable def mC:Con:=V8 1000000001
theorem Zq5:Qa Tryz.prog (129,mC):=sF _
theorem Zou:mC=V8 1000000001:=rfl
theorem Zu6 {bel:Bool} {x y:Rose Node} {i k:Int}:(I3 bel x y i k).2.2=ov bel x y:=rX
def Qhl (t:List Node):Prop:=∃ x,At ar t 0 x
noncomputable def Zr5 (a b:List Node):Bool:=ov true (Yl ar a 0) (Yl ar b 0)
noncomputable def Is:Con:=Xc (fun (a b:Sl Node)=>a.l.length≤1000000000∧b.l.length≤1000000000∧Qhl a.l∧Qhl b.l) (fun a b=>Zr5 a.l b.l)
theorem Zbe {l:List Node}:(enc (Sl.mk l):D)=.list 3 (l.map enc):=rfl
structure Kbh:Prop
theorem Kbh.k (_:Kbh) (h:p:=by
 repeat' first|exact Z8|with_reducible apply Zb|intro _
 all_goals rfl):p:=h
theorem good_BelowP:Qa Tryz.prog (82,Is):=by
 obtain ⟨Kx,Kt,Kc,Kd,Kb,Ku,Kw,K,X9,_⟩:=Xe Zv Zn [] false (Q0 Zq5 mC.eq_def Xd);have Ko:=Is.eq_def;refine Xj K Tryz.func82 [.tmp 4] rfl 20 rfl (fun c hc cvs hpre=>?_);unfold Is at hpre;obtain ⟨⟨a⟩,⟨b⟩,rfl,ha,hb,⟨x,hx⟩,⟨y,hy⟩⟩:=Ql hpre;simp only at ha hb hx hy;have hrec:∃ x y,At ar a 0 x∧At ar b 0 y∧(nds x).length<1000000001:=⟨x,y,hx,hy,by have:=hx.le;omega⟩
 cases hc;have Qb:=@Zou;have Qf:=@Zbe;have Z9:=@Zu6;have Kq:Kbh:=⟨⟩;exact U6
structure MS where
 out:Option (List Node)
 done:Nat
def pP (k:Int):List UInt8:=if k=0 then [63] else if k=1 then [105,110,116] else if k=2 then [98,111,111,108] else if k=3 then [115,116,114,105,110,103] else [117,110,105,116]
def Zt6 (n:Node):Prop:=0≤n.kind∧n.kind≤4
def bS:Con:=J7 (fun (n:Node)=>Zt6 n) (fun n=>pP n.kind)
structure Kbi:Prop
theorem Kbi.k (_:Kbi) (h:p:=by
 unfold pP;repeat' first|exact Z8|with_reducible apply Zb|intro _
 all_goals first|(rename_i h;rw [h];rfl)|(rename_i h;simp only [h];rfl)|skip):p:=h
theorem good_word3:Qa Tryz.prog (160,bS):=by
 obtain ⟨Kx,Kt,Kc,Kd,Kb,Ku,Kw,K,_⟩:=Xe Zv Zn [] false Xd;have Ko:=bS.eq_def;refine Xj K Tryz.func160 [.tmp 2] rfl 25 rfl (fun c hc cvs hpre=>?_);unfold bS at hpre;obtain ⟨n,rfl,h0,h4⟩:=Q2 hpre;cases hc;have hc:n.kind=0∨n.kind=1∨n.kind=2∨n.kind=3∨n.kind=4:=by omega
 have Kq:Kbi:=⟨⟩;exact U6
def Zbl (x y:Node):List UInt8:=pP x.kind++[32,45,62,32]++pP y.kind
def pM (t:List Node):Prop:=∃ p x y,t=[p,x,y]∧p.kind=5∧Zt6 x∧Zt6 y
def Yg (n:Nat):Con:=Xc (fun (t:Sl Node) (i:Int)=>pM t.l∧((i=0∧2≤n)∨((i=1∨i=2)∧1≤n)))
 (fun t i=>if i=0 then Zbl (t.l.getD 1 n0) (t.l.getD 2 n0) else pP (t.l.getD i.toNat n0).kind)
theorem jE:∀ c,¬ (Yg 0).pre c:=by
 intro c h;unfold Yg at h;obtain ⟨_,_,_,_,h⟩:=Ql h;omega
theorem wK {k:Int}:(pP k).length≤6:=by
 unfold pP;repeat' split
 all_goals simp
theorem nK {n:Node} (h:Zt6 n):W8 n=0:=by
 obtain ⟨h1,h2⟩:=h;unfold W8;rw [if_neg (by omega),if_neg (by omega)]
theorem Zqs {n:Node} (h:n.kind=5):W8 n=2:=by unfold W8;rw [if_pos h]
structure Kbj:Prop
theorem Kbj.k (_:Kbj) (h:p:=by
 repeat' first|exact Z8|with_reducible apply Zb|intro _
 all_goals first|(simp only [Zf,Zi,List.length_nil];omega)|(unfold Zbl;simp only [List.append_assoc])|(simp;omega)):p:=h
theorem step_printed3 (n:Nat) (ih:Qa Tryz.prog (115,Yg n)):Qa Tryz.prog (115,(Yg (n+1))):=by
 obtain ⟨Kx,Kt,Kc,Kd,Kb,Ku,Kw,K,X9,Uv,Po,_⟩:=Xe Zv Zn [] false (Q0 good_Kids3 Rq.eq_def (Q0 good_word3 bS.eq_def (Q0 ih (Yg.eq_def n) Xd)));have Ko:=(Yg.eq_def (n+1));refine Xj K Tryz.func115 [.tmp 4] rfl 126 rfl (fun c hc cvs hpre=>?_);unfold Yg at hpre;obtain ⟨⟨t⟩,i,rfl,⟨p,x,y,ht,hp,hx,hy⟩,hi⟩:=Ql hpre;simp only at ht;subst ht;have mx:=nK hx;have my:=nK hy;have mp:=Zqs hp;have hT:Zpm [p,x,y]:=by
  refine ⟨by simp,fun n hn=>?_⟩
  simp only [Zs,Pc,or_false] at hn;rcases hn with rfl|rfl|rfl
  ·omega
  ·omega
  ·omega
 have hA:pM [p,x,y]:=⟨p,x,y,rfl,hp,hx,hy⟩;have Qe:el (List.map (enc:Node→D) [p,x,y]) 0=enc p:=rfl;have Qc:el (List.map (enc:Node→D) [p,x,y]) 1=enc x:=rfl;have Qh:el (List.map (enc:Node→D) [p,x,y]) 2=enc y:=rfl;obtain ⟨L,Qb⟩:=exq ([p,x,y]);have Qn:L.getD 0 n0=p:=by rw [←Qb];rfl
 have Q6:L.getD 1 n0=x:=by rw [←Qb];rfl
 have Je:L.getD 2 n0=y:=by rw [←Qb];rfl
 have Qf:L.length=3:=by rw [←Qb];rfl
 rw [Qb] at Qe Qc Qh hT hA;have Zu:(x.kind==5)=false:=by rw [Za];have:=hx.2;omega
 have Zz:(y.kind==5)=false:=by rw [Za];have:=hy.2;omega
 have Q4:(p.kind==5)=true:=by rw [Zk];exact hp
 have Zx:(x.kind != 6)=true:=by rw [bne_iff_ne];have:=hx.2;omega
 have Zy:(y.kind != 6)=true:=by rw [bne_iff_ne];have:=hy.2;omega
 have Zw:(x.kind != 7)=true:=by rw [bne_iff_ne];have:=hx.2;omega
 have Qd:(y.kind != 7)=true:=by rw [bne_iff_ne];have:=hy.2;omega
 have wx:=wK (k:=x.kind);have wy:=wK (k:=y.kind);cases hc;refine Y4 7 ?_;rcases hi with ⟨rfl,hn⟩|⟨rfl|rfl,hn⟩
 ·have Z9:Nd L 0=[1,2]:=by
   rw [←Qb];unfold Nd;rw [if_neg (by simp)]
   show Xo _ (W8 p).toNat 1=_;rw [mp];have e1:vW [x,y] 1=1:=by
    simp only [vW,mx];rfl
   have e2:(2:Int).toNat=1+1:=rfl;rw [e2,Xo,if_pos (by simp)]
   show (1:Int)::Xo [p,x,y] 1 (1+vW [x,y] 1)=_;rw [e1,Xo,if_pos (by simp)]
   rfl
  have Kq:Kbj:=⟨⟩;exact U6
 ·have Z9:Nd L 1=[]:=by
   rw [←Qb];unfold Nd;rw [if_neg (by simp)]
   show Xo _ (W8 x).toNat 2=_;rw [mx];rfl
  exact wL
 ·have Z9:Nd L 2=[]:=by
   rw [←Qb];unfold Nd;rw [if_neg (by simp)]
   show Xo _ (W8 y).toNat 3=_;rw [my];rfl
  exact wL
theorem aJ:∀ n,Qa Tryz.prog (115,Yg n)
 | 0=>X2 (Jp Tryz.func115 (by kernel_rfl) rfl) jE
 | n+1=>step_printed3 n (aJ n)
def Fq:Con:=Yg 2
theorem sG:Qa Tryz.prog (115,Fq):=aJ 2
theorem oS:Fq=Yg 2:=rfl
def Ij:Con:=J7 (fun (t:Sl Node)=>pM t.l) (fun t=>Zbl (t.l.getD 1 n0) (t.l.getD 2 n0))
theorem Zn4:Qa Tryz.prog (62,Ij):=by
 obtain ⟨Kx,Kt,Kc,Kd,Kb,Ku,Kw,K,X9,_⟩:=Xe Zv Zn [] false (Q0 sG Fq.eq_def Xd);have Ko:=Ij.eq_def;refine Xj K Tryz.func62 [.tmp 2] rfl 5 rfl (fun c hc cvs hpre=>?_);unfold Ij at hpre;obtain ⟨⟨t⟩,rfl,hA⟩:=Q2 hpre;simp only at hA;cases hc;have Qb:=@oS;have Qf:=@Yg.eq_def;exact wL
end Go.Am.Ty
