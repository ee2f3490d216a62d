/- Contracts of functions that the law reaches, and plain laws. Conditions: those that each contract states. -/
import Derived.Test.YtilpfkjhahnfaaaGreatP5
import Derived.Lib.OthersKept
import Derived.WalkKit
import Derived.WalkSmall
import Derived.BigCall
import Derived.Sort.Walk0
set_option maxHeartbeats 4000000
set_option linter.unusedVariables false
set_option linter.unusedSimpArgs false
variable {p:Prop}
set_option maxRecDepth 100000
namespace Go.Am.Ty
open Go.Proofs Go.Rose Go.Rose.Rose
open Enc (enc dec)
theorem Zc5 {t:List Node} (h:Ga t) (hl:t.length≤20000000):Zap t:=⟨hl,fun n hn=>bQ (h n hn)⟩
noncomputable def iI:Con:=Jy (fun (t:Sl Node) (i:Int)=>t.l.length≤10000000∧Ga t.l∧0≤i∧∃ x,At ar t.l i.toNat x) (fun t i=>Sl.mk (Qeo (nds (Xa ar t.l i.toNat))))
structure Kbq : Prop
theorem Kbq.k (_ : Kbq) (h : p := by
  first
    | exact hT
    | rw [List.length_set, Zf]
    | (revert hp
       cases nds x with
       | nil => intro hp; simp at hp
       | cons n r => intro _; rfl)) : p := h
theorem good_Part3 : Qc Tryz.prog (174, iI) := by
  obtain ⟨Kx, Kt, Kc, Kd, Kb, Ku, Kw, K, X4, _⟩ := J7 Zx Zo [] false (Q1 good_End3 O6.eq_def J5);have Ko := iI.eq_def;refine J9 K Tryz.func174 [.tmp 4] rfl 26 rfl (fun c hc Ji Zh => ?_);unfold iI at Zh;obtain ⟨⟨t⟩, i, rfl, ht, hN, hi, x, hx⟩ := Qf Zh;simp only at ht hx hN;obtain ⟨i, rfl⟩ : ∃ n : Nat, i = n := ⟨i.toNat, by omega⟩
  simp only [Zl] at hx;have hT : Zap t := Zc5 hN (by omega)
  have Qk := Zgv hN hx;have Er := hx.le;have hp := Di x;have Zhx := Zfk hx;have Qo : Xa ar t i = x := Xz hx;have Qi : List.drop i (List.take (i + (nds x).length) (t.map (enc : Node → D))) = (nds x).map enc := by rw [← List.map_take, ← List.map_drop, Zhx]
  cases hc;have Qn := @Zz;have Ql := @Z1;have Qp := @Z4;have Qv := @Z0;have Q3 := @Kg;have Jh := @Z2;have Kq : Kbq := ⟨⟩;exact Zh1
def Ht {A R S:Type} [Enc A] [Enc R] [Enc S] (p:A→Prop) (f:A→R×S):Con:=⟨[false],[false,false],fun c=>match c with
 | [.d x]=>Ul A x∧p (dec x)
 | _=>False,fun c=>match c with
 | [.d x]=>.tup [.d (enc (f (dec x)).1),.d (enc (f (dec x)).2)]
 | _=>.d .nilp⟩
theorem Yp:type_of% @Ht.eq_def:=@Ht.eq_def
theorem sA {A R S:Type} [Enc A] [Enc R] [Enc S] {p:A→Prop} {f:A→R×S} {c:List CV} (h:(Ht p f).pre c):∃ a,c=[.d (enc a)]∧p a:=by
 unfold Ht at h;simp only at h;split at h
 ·next x=>exact ⟨dec x,by rw [←h.1],h.2⟩
 ·exact h.elim
def Cn (t:List Node):Prop:=t.length≤10000000∧Ga t∧∃ x,t=nds x∧wf ar x
def W6 (ks:List (Rose Node)):List (Sl Node):=ks.map fun k=>Sl.mk (Qeo (nds k))
def Af (ks:List (Rose Node)):List (List UInt8):=ks.map fun k=>k.root.name
theorem Zxp {ks:List (Rose Node)} {j:Nat} (h:j<ks.length):(W6 (ks.take j)).map (enc:Sl Node→D)++[.list 3 ((Qeo (nds ks[j])).map enc)]=(W6 (ks.take (j+1))).map enc:=by
 rw [List.take_succ_eq_append_getElem h];unfold W6;rw [List.map_append,List.map_append];rfl
theorem Qdu {ks:List (Rose Node)} {j:Nat} (h:j<ks.length):(Af (ks.take j)).map (enc:List UInt8→D)++[.str ks[j].root.name]=(Af (ks.take (j+1))).map enc:=by
 rw [List.take_succ_eq_append_getElem h];unfold Af;rw [List.map_append,List.map_append];rfl
theorem Oj {ks:List (Rose Node)}:(W6 ks).length=ks.length:=by unfold W6;simp
theorem Ca {ks:List (Rose Node)}:(Af ks).length=ks.length:=by unfold Af;simp
noncomputable def Zkm (t:List Node):Sl (Sl Node)×Sl (List UInt8):=(⟨W6 (Xa ar t 0).kids⟩,⟨Af (Xa ar t 0).kids⟩)
noncomputable def O3:Con:=Ht (fun (t:Sl Node)=>Cn t.l) (fun t=>Zkm t.l)
theorem qB {p:Prop} (h:p:=by (sym=>simp [Kt,Kc,Kd,Kb,Ku,Kw,Ko,X4,V2,Mo,Tx,jB,vK,Za6,Zmm,Zm7,Zm6,jC,Qk,Qo,Qi,Qn,Ql,Qp,Qv,Q3,Jh,Jb,Z3,Z6,Z7,Qq,Qj,Qx,Qm,Qg,Qr,Qw,Q4,Jf,Jk,Ju,Xf,Xe,Wm,Wz,Yj,Yr,Yq,Mf,Me,M6,M5,Mv,Mu,S5,S4,Bs,S3,S0,Le,Sy,Sx,Sw,Nh,Ng,Nf,Nd,Nc,Nb,Na,H9,H8,H7,H6,H5,H4,H3,H2,H1,H0,Hz,Hy,Hx,Hw,Hv,D.setCell.eq_1,Zl,Uk,Xn,Xm,Yp,Wf,Yo,Xl,Xk,J2,Z4,J6,Zz,Z2,Uh,dG,Z1,Xd,Yw,Gz,lC,Z0,Ap,Kg,Gi,Zw0,Zwz,Zwy,Zwx,Zww,Zwv,Zwu,Zwt,Zws,Zwr,Zwq,Zwp,Zwo,Zwn,Zwm,Zwl,Zwk,Zwj,Zwi,Zwh,Zwg,Zwf,Zwe,Zwd,Zwc,Zwb,Zwa,Zv9,Zv8,Zv7,Zv6,Zv5,Zv4,Zv3,Zv2,Zv1,Zv0,Zvz,Zvy,Zvx,Zvw,Zvv,Zvu,Zvt,Zvs,Zvr,Zvq,Zvp,Zvo,Zvn,Zvm,Zvl,Zvk,Zvj,Zvi,Zvh,Zvg,Zvf,Zve,Zvd,Zvc,Zvb,Zva,Zu9,Zu8,Zu7,Zu6,Zu5,Zu4,Zu3,Zu2,Zu1,Zu0,Zuz,Zuy,Zux,Zuw,Zuv,Zuu,Zut,Zus,Zur,Zuq,Zup,Zuo,Zun,Zum,Zul,Zuk,Zuj,Zui,Zuh,Zug,Zuf,Zue,Zud,Zuc,Zub,Zua,Zt9,Zt8,Zt7,Zt6,Zt5,Zt4,Zt3,Zt2,Zt1,Zt0,Ztz,Zty,Ztx,Ztw,Ztv,Ztu,Ztt,Zts,Ztr,Ztq,Ztp,Zto,Ztn,Ztm,Ztl,Ztk,Ztj,Zti,Zth,Ztg,Ztf,Zte,Ztd,Ztc,Ztb,Zta,Zs9,Zs8,Zs7,Zs6,Zs5,Zs4,Zs3,Zs2,Zs1,Zs0,Zsz,Zsy,Zsx,Zsw,Zsv,Zsu,Zst,Zss,Zsr,Zsq,Zsp,Zso,Zsn,Zsm,Zsl,Zsk,Zsj,Zsi,Zsh,Zsg,Zsf,Zse,Zsd,Zsc,Zsb,Zsa,Zr9,Zr8,Zr7,Zr6,Zr5,Zr4,Zr3,Zr2,Zr1,Zr0,Zrz,Zry,Zrx,Zrw,Zrv,Zru,Zrt,Zrs,Zrr,Zrq,Zrp,Zro,Zrn,Zrm,Zrl,Zrk,Zrj,Zri,Zrh,Zrg,Zrf,Zre,Zrd,Zrc,Zrb,Zra,Zq9,Zq8,Zq7,Zq6,Zq5,Zq4,Zq3,Zq2,Zq1,Zq0,Zqz,Zqy,Zqx,Zqw,Zqv,Zqu,Zqt,Zqs,Zqr,Zqq,Zqp,Zqo,Zqn,Zqm,Zql,Zqk,Zqj,Zqi,Zqh,Zqg,Zqf,Zqe,Zqd,Zqc,Zqb,Zqa,Zp9,Zp8,Zp7,Zp6,Zp5,Zp4,Zp3,Zp2,Zp1,Zp0,Zpz,Zpy,Zpx,Zpw,Zpv,Zpu,Zpt,Zps,Zpr,Zpq,Zpp,Zpo,Zpn,Zpm,Zpl,Zpk,Zpj,Zpi,Zph,Zpg,Zpf,Zpe,Zpd,Zpc,Zpb,Zpa,Zo9,Zo8,Zo7,Zo6,Zo5,Zo4,Zo3,Zo2,Zo1,Zo0,Zoz,Zoy,Zox,Zow,Zov,Zou,Zot,Zos,Zor,Zoq,Zop,Zoo,Zon,Zom,Zol,Zok,Zoj,Zoi,Zoh,Zog,Zof,Zoe,Zod,Zoc,Zob,Zoa,Zn9,Zn8,Zn7,Zn6,Zn5,Zn4,Zn3,Zn2,Zn1,Zn0,Znz,Zny,Znx,Znw,Znv,Znu,Znt,Zns,Znr,Znq,Znp,Zno,Znn,Znm,Znl,Znk,Znj,Zni,Znh,Zng,Znf,Zne,Znd,kU,kT,kS,kR,kP,kO,Fm,Fl,Fk,Fj,Fi,Fh,Fg,Ff,Fe,Fc,Fb,Fa,E9,E8,E7,E6,E5,E4,E3,E1,E0,Ez,Ey,Ex,Ew,Ev,Eu,Bg,Bf,Be,Bc,Bb,Ba,P9,P8,P7,P6,P5,P4,P3,P0,Pz,Py,Px,Pw,Pv,Pu,Ps,Pr,Pq,Pp,Po,Pn,Pm,Pk,Pj,Ph,Pg])):p:=h
theorem Ae {p:Prop} (h:p:=by
 (sym=>simp [Kt,Kc,Kd,Kb,Ku,Kw,Ko,X4,V2,Mo,Tx,jB,vK,Za6,Zmm,Zm7,Zm6,jC,Qk,Qo,Qi,Qn,Ql,Qp,Qv,Q3,Jh,Jb,Z3,Z6,Z7,Qq,Qj,Qx,Qm,Qg,Qr,Qw,Q4,Jf,Jk,Ju,Xf,Xe,Wm,Wz,Yj,Yr,Yq,Mf,Me,M6,M5,Mv,Mu,S5,S4,Bs,S3,S0,Le,Sy,Sx,Sw,Nh,Ng,Nf,Nd,Nc,Nb,Na,H9,H8,H7,H6,H5,H4,H3,H2,H1,H0,Hz,Hy,Hx,Hw,Hv,D.setCell.eq_1,Zl,Uk,Xn,Xm,Yp,Wf,Yo,Xl,Xk,J2,Z4,J6,Zz,Z2,Uh,dG,Z1,Xd,Yw,Gz,lC,Z0,Ap,Kg,Gi,Zw0,Zwz,Zwy,Zwx,Zww,Zwv,Zwu,Zwt,Zws,Zwr,Zwq,Zwp,Zwo,Zwn,Zwm,Zwl,Zwk,Zwj,Zwi,Zwh,Zwg,Zwf,Zwe,Zwd,Zwc,Zwb,Zwa,Zv9,Zv8,Zv7,Zv6,Zv5,Zv4,Zv3,Zv2,Zv1,Zv0,Zvz,Zvy,Zvx,Zvw,Zvv,Zvu,Zvt,Zvs,Zvr,Zvq,Zvp,Zvo,Zvn,Zvm,Zvl,Zvk,Zvj,Zvi,Zvh,Zvg,Zvf,Zve,Zvd,Zvc,Zvb,Zva,Zu9,Zu8,Zu7,Zu6,Zu5,Zu4,Zu3,Zu2,Zu1,Zu0,Zuz,Zuy,Zux,Zuw,Zuv,Zuu,Zut,Zus,Zur,Zuq,Zup,Zuo,Zun,Zum,Zul,Zuk,Zuj,Zui,Zuh,Zug,Zuf,Zue,Zud,Zuc,Zub,Zua,Zt9,Zt8,Zt7,Zt6,Zt5,Zt4,Zt3,Zt2,Zt1,Zt0,Ztz,Zty,Ztx,Ztw,Ztv,Ztu,Ztt,Zts,Ztr,Ztq,Ztp,Zto,Ztn,Ztm,Ztl,Ztk,Ztj,Zti,Zth,Ztg,Ztf,Zte,Ztd,Ztc,Ztb,Zta,Zs9,Zs8,Zs7,Zs6,Zs5,Zs4,Zs3,Zs2,Zs1,Zs0,Zsz,Zsy,Zsx,Zsw,Zsv,Zsu,Zst,Zss,Zsr,Zsq,Zsp,Zso,Zsn,Zsm,Zsl,Zsk,Zsj,Zsi,Zsh,Zsg,Zsf,Zse,Zsd,Zsc,Zsb,Zsa,Zr9,Zr8,Zr7,Zr6,Zr5,Zr4,Zr3,Zr2,Zr1,Zr0,Zrz,Zry,Zrx,Zrw,Zrv,Zru,Zrt,Zrs,Zrr,Zrq,Zrp,Zro,Zrn,Zrm,Zrl,Zrk,Zrj,Zri,Zrh,Zrg,Zrf,Zre,Zrd,Zrc,Zrb,Zra,Zq9,Zq8,Zq7,Zq6,Zq5,Zq4,Zq3,Zq2,Zq1,Zq0,Zqz,Zqy,Zqx,Zqw,Zqv,Zqu,Zqt,Zqs,Zqr,Zqq,Zqp,Zqo,Zqn,Zqm,Zql,Zqk,Zqj,Zqi,Zqh,Zqg,Zqf,Zqe,Zqd,Zqc,Zqb,Zqa,Zp9,Zp8,Zp7,Zp6,Zp5,Zp4,Zp3,Zp2,Zp1,Zp0,Zpz,Zpy,Zpx,Zpw,Zpv,Zpu,Zpt,Zps,Zpr,Zpq,Zpp,Zpo,Zpn,Zpm,Zpl,Zpk,Zpj,Zpi,Zph,Zpg,Zpf,Zpe,Zpd,Zpc,Zpb,Zpa,Zo9,Zo8,Zo7,Zo6,Zo5,Zo4,Zo3,Zo2,Zo1,Zo0,Zoz,Zoy,Zox,Zow,Zov,Zou,Zot,Zos,Zor,Zoq,Zop,Zoo,Zon,Zom,Zol,Zok,Zoj,Zoi,Zoh,Zog,Zof,Zoe,Zod,Zoc,Zob,Zoa,Zn9,Zn8,Zn7,Zn6,Zn5,Zn4,Zn3,Zn2,Zn1,Zn0,Znz,Zny,Znx,Znw,Znv,Znu,Znt,Zns,Znr,Znq,Znp,Zno,Znn,Znm,Znl,Znk,Znj,Zni,Znh,Zng,Znf,Zne,Znd,kU,kT,kS,kR,kP,kO,Fm,Fl,Fk,Fj,Fi,Fh,Fg,Ff,Fe,Fc,Fb,Fa,E9,E8,E7,E6,E5,E4,E3,E1,E0,Ez,Ey,Ex,Ew,Ev,Eu,Bg,Bf,Be,Bc,Bb,Ba,P9,P8,P7,P6,P5,P4,P3,P0,Pz,Py,Px,Pw,Pv,Pu,Ps,Pr,Pq,Pp,Po,Pn,Pm,Pk,Pj,Ph,Pg];tactic =>
   try simp only [eK] at *
   try simp only [Qgv] at *
   try simp (maxSteps:=4000000) only [Qk,Qo,Qi,Qn,Ql,Qp,Qv,Q3,Jh,Jb,Z3,Z6,Z7,Qq,Qj,Qx,Qm,Qg,Qr,Qw,Q4,Jf,Jk,Ju,Xf,Xe,Wm,Wz,Yj,Yr,Yq,Mf,Me,M6,M5,Mv,Mu,S5,S4,Bs,S3,S0,Le,Sy,Sx,Sw,Nh,Ng,Nf,Nd,Nc,Nb,Na,H9,H8,H7,H6,H5,H4,H3,H2,H1,H0,Hz,Hy,Hx,Hw,Hv,D.setCell.eq_1,Zl,Uk,Xn,Xm,Yp,Wf,Yo,Xl,Xk,J2,Z4,J6,Zz,Z2,Uh,dG,Z1,Xd,Yw,Gz,lC,Z0,Ap,Kg,Gi,wI]
   first|done|exact Kq.k)):p:=h
theorem Xv {p:Prop} (h:p:=by
 (sym=>simp [Kt,Kc,Kd,Kb,Ku,Kw,Ko,X4,V2,Mo,Tx,jB,vK,Za6,Zmm,Zm7,Zm6,jC,Qk,Qo,Qi,Qn,Ql,Qp,Qv,Q3,Jh,Jb,Z3,Z6,Z7,Qq,Qj,Qx,Qm,Qg,Qr,Qw,Q4,Jf,Jk,Ju,Xf,Xe,Wm,Wz,Yj,Yr,Yq,Mf,Me,M6,M5,Mv,Mu,S5,S4,Bs,S3,S0,Le,Sy,Sx,Sw,Nh,Ng,Nf,Nd,Nc,Nb,Na,H9,H8,H7,H6,H5,H4,H3,H2,H1,H0,Hz,Hy,Hx,Hw,Hv,D.setCell.eq_1,Zl,Uk,Xn,Xm,Yp,Wf,Yo,Xl,Xk,J2,Z4,J6,Zz,Z2,Uh,dG,Z1,Xd,Yw,Gz,lC,Z0,Ap,Kg,Gi,Zw0,Zwz,Zwy,Zwx,Zww,Zwv,Zwu,Zwt,Zws,Zwr,Zwq,Zwp,Zwo,Zwn,Zwm,Zwl,Zwk,Zwj,Zwi,Zwh,Zwg,Zwf,Zwe,Zwd,Zwc,Zwb,Zwa,Zv9,Zv8,Zv7,Zv6,Zv5,Zv4,Zv3,Zv2,Zv1,Zv0,Zvz,Zvy,Zvx,Zvw,Zvv,Zvu,Zvt,Zvs,Zvr,Zvq,Zvp,Zvo,Zvn,Zvm,Zvl,Zvk,Zvj,Zvi,Zvh,Zvg,Zvf,Zve,Zvd,Zvc,Zvb,Zva,Zu9,Zu8,Zu7,Zu6,Zu5,Zu4,Zu3,Zu2,Zu1,Zu0,Zuz,Zuy,Zux,Zuw,Zuv,Zuu,Zut,Zus,Zur,Zuq,Zup,Zuo,Zun,Zum,Zul,Zuk,Zuj,Zui,Zuh,Zug,Zuf,Zue,Zud,Zuc,Zub,Zua,Zt9,Zt8,Zt7,Zt6,Zt5,Zt4,Zt3,Zt2,Zt1,Zt0,Ztz,Zty,Ztx,Ztw,Ztv,Ztu,Ztt,Zts,Ztr,Ztq,Ztp,Zto,Ztn,Ztm,Ztl,Ztk,Ztj,Zti,Zth,Ztg,Ztf,Zte,Ztd,Ztc,Ztb,Zta,Zs9,Zs8,Zs7,Zs6,Zs5,Zs4,Zs3,Zs2,Zs1,Zs0,Zsz,Zsy,Zsx,Zsw,Zsv,Zsu,Zst,Zss,Zsr,Zsq,Zsp,Zso,Zsn,Zsm,Zsl,Zsk,Zsj,Zsi,Zsh,Zsg,Zsf,Zse,Zsd,Zsc,Zsb,Zsa,Zr9,Zr8,Zr7,Zr6,Zr5,Zr4,Zr3,Zr2,Zr1,Zr0,Zrz,Zry,Zrx,Zrw,Zrv,Zru,Zrt,Zrs,Zrr,Zrq,Zrp,Zro,Zrn,Zrm,Zrl,Zrk,Zrj,Zri,Zrh,Zrg,Zrf,Zre,Zrd,Zrc,Zrb,Zra,Zq9,Zq8,Zq7,Zq6,Zq5,Zq4,Zq3,Zq2,Zq1,Zq0,Zqz,Zqy,Zqx,Zqw,Zqv,Zqu,Zqt,Zqs,Zqr,Zqq,Zqp,Zqo,Zqn,Zqm,Zql,Zqk,Zqj,Zqi,Zqh,Zqg,Zqf,Zqe,Zqd,Zqc,Zqb,Zqa,Zp9,Zp8,Zp7,Zp6,Zp5,Zp4,Zp3,Zp2,Zp1,Zp0,Zpz,Zpy,Zpx,Zpw,Zpv,Zpu,Zpt,Zps,Zpr,Zpq,Zpp,Zpo,Zpn,Zpm,Zpl,Zpk,Zpj,Zpi,Zph,Zpg,Zpf,Zpe,Zpd,Zpc,Zpb,Zpa,Zo9,Zo8,Zo7,Zo6,Zo5,Zo4,Zo3,Zo2,Zo1,Zo0,Zoz,Zoy,Zox,Zow,Zov,Zou,Zot,Zos,Zor,Zoq,Zop,Zoo,Zon,Zom,Zol,Zok,Zoj,Zoi,Zoh,Zog,Zof,Zoe,Zod,Zoc,Zob,Zoa,Zn9,Zn8,Zn7,Zn6,Zn5,Zn4,Zn3,Zn2,Zn1,Zn0,Znz,Zny,Znx,Znw,Znv,Znu,Znt,Zns,Znr,Znq,Znp,Zno,Znn,Znm,Znl,Znk,Znj,Zni,Znh,Zng,Znf,Zne,Znd,kU,kT,kS,kR,kP,kO,Fm,Fl,Fk,Fj,Fi,Fh,Fg,Ff,Fe,Fc,Fb,Fa,E9,E8,E7,E6,E5,E4,E3,E1,E0,Ez,Ey,Ex,Ew,Ev,Eu,Bg,Bf,Be,Bc,Bb,Ba,P9,P8,P7,P6,P5,P4,P3,P0,Pz,Py,Px,Pw,Pv,Pu,Ps,Pr,Pq,Pp,Po,Pn,Pm,Pk,Pj,Ph,Pg];tactic =>
   try simp only [eK] at *
   try simp only [Qgv] at *
   try simp (maxSteps:=4000000) only [Qk,Qo,Qi,Qn,Ql,Qp,Qv,Q3,Jh,Jb,Z3,Z6,Z7,Qq,Qj,Qx,Qm,Qg,Qr,Qw,Q4,Jf,Jk,Ju,Xf,Xe,Wm,Wz,Yj,Yr,Yq,Mf,Me,M6,M5,Mv,Mu,S5,S4,Bs,S3,S0,Le,Sy,Sx,Sw,Nh,Ng,Nf,Nd,Nc,Nb,Na,H9,H8,H7,H6,H5,H4,H3,H2,H1,H0,Hz,Hy,Hx,Hw,Hv,D.setCell.eq_1,Zl,Uk,Xn,Xm,Yp,Wf,Yo,Xl,Xk,J2,Z4,J6,Zz,Z2,Uh,dG,Z1,Xd,Yw,Gz,lC,Z0,Ap,Kg,Gi,wI]
   repeat' first|with_reducible assumption|with_reducible apply Zw|intro _|omega|(rw [Xt];omega)
   all_goals first|with_reducible exact uL|omega|exact Kq.k)):p:=h
theorem U3 {p:Prop} (h:p:=by
 first|(sym=>simp [Kt,Kc,Kd,Kb,Ku,Kw,Ko,X4,V2,Mo,Tx,jB,vK,Za6,Zmm,Zm7,Zm6,jC,Qk,Qo,Qi,Qn,Ql,Qp,Qv,Q3,Jh,Jb,Z3,Z6,Z7,Qq,Qj,Qx,Qm,Qg,Qr,Qw,Q4,Jf,Jk,Ju,Xf,Xe,Wm,Wz,Yj,Yr,Yq,Mf,Me,M6,M5,Mv,Mu,S5,S4,Bs,S3,S0,Le,Sy,Sx,Sw,Nh,Ng,Nf,Nd,Nc,Nb,Na,H9,H8,H7,H6,H5,H4,H3,H2,H1,H0,Hz,Hy,Hx,Hw,Hv,D.setCell.eq_1,Zl,Uk,Xn,Xm,Yp,Wf,Yo,Xl,Xk,J2,Z4,J6,Zz,Z2,Uh,dG,Z1,Xd,Yw,Gz,lC,Z0,Ap,Kg,Gi,Zw0,Zwz,Zwy,Zwx,Zww,Zwv,Zwu,Zwt,Zws,Zwr,Zwq,Zwp,Zwo,Zwn,Zwm,Zwl,Zwk,Zwj,Zwi,Zwh,Zwg,Zwf,Zwe,Zwd,Zwc,Zwb,Zwa,Zv9,Zv8,Zv7,Zv6,Zv5,Zv4,Zv3,Zv2,Zv1,Zv0,Zvz,Zvy,Zvx,Zvw,Zvv,Zvu,Zvt,Zvs,Zvr,Zvq,Zvp,Zvo,Zvn,Zvm,Zvl,Zvk,Zvj,Zvi,Zvh,Zvg,Zvf,Zve,Zvd,Zvc,Zvb,Zva,Zu9,Zu8,Zu7,Zu6,Zu5,Zu4,Zu3,Zu2,Zu1,Zu0,Zuz,Zuy,Zux,Zuw,Zuv,Zuu,Zut,Zus,Zur,Zuq,Zup,Zuo,Zun,Zum,Zul,Zuk,Zuj,Zui,Zuh,Zug,Zuf,Zue,Zud,Zuc,Zub,Zua,Zt9,Zt8,Zt7,Zt6,Zt5,Zt4,Zt3,Zt2,Zt1,Zt0,Ztz,Zty,Ztx,Ztw,Ztv,Ztu,Ztt,Zts,Ztr,Ztq,Ztp,Zto,Ztn,Ztm,Ztl,Ztk,Ztj,Zti,Zth,Ztg,Ztf,Zte,Ztd,Ztc,Ztb,Zta,Zs9,Zs8,Zs7,Zs6,Zs5,Zs4,Zs3,Zs2,Zs1,Zs0,Zsz,Zsy,Zsx,Zsw,Zsv,Zsu,Zst,Zss,Zsr,Zsq,Zsp,Zso,Zsn,Zsm,Zsl,Zsk,Zsj,Zsi,Zsh,Zsg,Zsf,Zse,Zsd,Zsc,Zsb,Zsa,Zr9,Zr8,Zr7,Zr6,Zr5,Zr4,Zr3,Zr2,Zr1,Zr0,Zrz,Zry,Zrx,Zrw,Zrv,Zru,Zrt,Zrs,Zrr,Zrq,Zrp,Zro,Zrn,Zrm,Zrl,Zrk,Zrj,Zri,Zrh,Zrg,Zrf,Zre,Zrd,Zrc,Zrb,Zra,Zq9,Zq8,Zq7,Zq6,Zq5,Zq4,Zq3,Zq2,Zq1,Zq0,Zqz,Zqy,Zqx,Zqw,Zqv,Zqu,Zqt,Zqs,Zqr,Zqq,Zqp,Zqo,Zqn,Zqm,Zql,Zqk,Zqj,Zqi,Zqh,Zqg,Zqf,Zqe,Zqd,Zqc,Zqb,Zqa,Zp9,Zp8,Zp7,Zp6,Zp5,Zp4,Zp3,Zp2,Zp1,Zp0,Zpz,Zpy,Zpx,Zpw,Zpv,Zpu,Zpt,Zps,Zpr,Zpq,Zpp,Zpo,Zpn,Zpm,Zpl,Zpk,Zpj,Zpi,Zph,Zpg,Zpf,Zpe,Zpd,Zpc,Zpb,Zpa,Zo9,Zo8,Zo7,Zo6,Zo5,Zo4,Zo3,Zo2,Zo1,Zo0,Zoz,Zoy,Zox,Zow,Zov,Zou,Zot,Zos,Zor,Zoq,Zop,Zoo,Zon,Zom,Zol,Zok,Zoj,Zoi,Zoh,Zog,Zof,Zoe,Zod,Zoc,Zob,Zoa,Zn9,Zn8,Zn7,Zn6,Zn5,Zn4,Zn3,Zn2,Zn1,Zn0,Znz,Zny,Znx,Znw,Znv,Znu,Znt,Zns,Znr,Znq,Znp,Zno,Znn,Znm,Znl,Znk,Znj,Zni,Znh,Zng,Znf,Zne,Znd,kU,kT,kS,kR,kP,kO,Fm,Fl,Fk,Fj,Fi,Fh,Fg,Ff,Fe,Fc,Fb,Fa,E9,E8,E7,E6,E5,E4,E3,E1,E0,Ez,Ey,Ex,Ew,Ev,Eu,Bg,Bf,Be,Bc,Bb,Ba,P9,P8,P7,P6,P5,P4,P3,P0,Pz,Py,Px,Pw,Pv,Pu,Ps,Pr,Pq,Pp,Po,Pn,Pm,Pk,Pj,Ph,Pg];tactic =>
   try simp only [eK] at *
   try simp only [Qgv] at *
   try simp (maxSteps:=4000000) only [Qk,Qo,Qi,Qn,Ql,Qp,Qv,Q3,Jh,Jb,Z3,Z6,Z7,Qq,Qj,Qx,Qm,Qg,Qr,Qw,Q4,Jf,Jk,Ju,Xf,Xe,Wm,Wz,Yj,Yr,Yq,Mf,Me,M6,M5,Mv,Mu,S5,S4,Bs,S3,S0,Le,Sy,Sx,Sw,Nh,Ng,Nf,Nd,Nc,Nb,Na,H9,H8,H7,H6,H5,H4,H3,H2,H1,H0,Hz,Hy,Hx,Hw,Hv,D.setCell.eq_1,Zl,Uk,Xn,Xm,Yp,Wf,Yo,Xl,Xk,J2,Z4,J6,Zz,Z2,Uh,dG,Z1,Xd,Yw,Gz,lC,Z0,Ap,Kg,Gi,wI]
   repeat' first|with_reducible assumption|with_reducible apply Zw|intro _|omega|(rw [Xt];omega)
   all_goals first|with_reducible exact uL|omega|rfl|trivial|exact Or.inr trivial|assumption|contradiction|exact Qt)|exact qB):p:=h
class Kbs:Prop
theorem Kbs.k (_:Kbs) (h:p:=by
 repeat' first|exact M7|with_reducible apply Zw|intro _
 ·exact ⟨_,ha⟩
 ·have Qv8:(W6 (ks.take (j+1))).length=j+1:=by rw [Oj,List.length_take];omega
  have wQ:(Af (ks.take (j+1))).length=j+1:=by rw [Ca,List.length_take];omega
  refine ⟨j+1,?_,by omega,by omega⟩
  have Vc:=Qv8;have Cs:=wQ;refine Qvf ?_;exact Z3):p:=h
class Kbt:Prop
theorem Kbt.k (_:Kbt) (h:p:=by
 repeat' first|exact M7|with_reducible apply Zw|intro _
 all_goals rw [Oe,List.take_length]):p:=h
class Kbr:Prop
theorem Kbr.k (_:Kbr) (h:p:=by
 refine Zm [12,13,14,15,16,17,18,19,20,21,22,23,24,25,26,27,28,29,30,31,32,33,34,35,36,37] (fun j:Nat=>[(4,.sl 8 ((W6 (ks.take j)).map (enc:Sl Node→D)).length),(5,.sl 9 ((Af (ks.take j)).map (enc:List UInt8→D)).length),(7,.d (.int .i64 j))]) (fun j:Nat=>[(8,.row 1 ((W6 (ks.take j)).map enc) 0),(9,.row 1 ((Af (ks.take j)).map enc) 0)]) (fun j:Nat=>j≤ks.length) (fun j:Nat=>ks.length-j) 0 ?_ ?_ ?_
 ·omega
 ·refine Qvf ?_;exact ⟨⟨rfl,rfl⟩,rfl,rfl⟩
 rintro j hj;have Qn:(W6 (ks.take j)).length=j:=by rw [Oj,List.length_take];omega
 have Ql:(Af (ks.take j)).length=j:=by rw [Ca,List.length_take];omega
 rcases Zn j l.length with ⟨Zv,Qi⟩|⟨Zv,Qi⟩
 ·have hlt':j<ks.length:=by omega
  have Qv:=gV 1 ks j hlt';rw [hl] at Qv;have ha:=sD jV hlt';have Qle:=ha.lt;have Qp:=Zp (0:Int) (by omega:j<l.length)
  have Q3:=Zp n0 Qle;have Jh:t.getD (1+(ndss (ks.take j)).length) n0=ks[j].root:=ha.root n0;have Jb:Xa ar t (1+(ndss (ks.take j)).length)=ks[j]:=Xz ha;have Z3:=Zxp hlt';have Z6:=Qdu hlt';have Kq:Kbs:=⟨⟩;exact Ae
 ·have Oe:j=ks.length:=by omega
  have Kq:Kbt:=⟨⟩;exact Ae):p:=h
theorem good_kids7:Qc Tryz.prog (133,O3):=by
 obtain ⟨Kx,Kt,Kc,Kd,Kb,Ku,Kw,K,X4,V2,_⟩:=J7 Zx Zo [] false (Q1 good_Kids3 En.eq_def (Q1 good_Part3 iI.eq_def J5));have Ko:=O3.eq_def;refine J9 K Tryz.func133 [.tmp 2,.tmp 3] rfl 40 rfl (fun c hc Ji Zh=>?_);unfold O3 at Zh;obtain ⟨⟨t⟩,rfl,ht,hN,x,Zzm,hx⟩:=sA Zh;simp only at ht hN Zzm;have Iu:At ar t 0 x:=by rw [Zzm];exact G7 hx
 have hT:Zap t:=Zc5 hN (by omega)
 have Zmr:Xa ar t 0=x:=Xz Iu;have Qwq:G3 t 0=Mt 1 x.kids:=Zkn hN Iu;obtain ⟨jV,aK⟩:=Iu.kids;have Qo:Zkm t=(⟨W6 x.kids⟩,⟨Af x.kids⟩):=by unfold Zkm;rw [Zmr]
 obtain ⟨ks,hk⟩:=exq (x.kids);rw [hk] at jV aK Qwq Qo;replace jV:Zhi ar t 1 ks:=jV;have Er:=Zg6 jV (by have:=Iu.lt;omega)
 obtain ⟨l,hl⟩:=exq (Mt 1 ks);have Is:l.length=ks.length:=by rw [←hl,Bn]
 have Qk:G3 t 0=l:=by rw [Qwq,←hl]
 have Qfl:ks.length≤10000000:=by
  have:ks.length≤(ndss ks).length:=by
   clear jV aK Er Is hl hk Qo Qwq Qk
   induction ks with
   | nil=>simp
   | cons y ys ih=>simp only [Zi,ndss,Ze];have:=Di y;omega
  omega
 cases hc;refine W5 2 ?_;have Kq:Kbr:=⟨⟩;exact Xv
def mC (x y:Rose Node):Bool:=x.root.kind==y.root.kind&&Af x.kids==Af y.kids
theorem oX {t:List Node} {x:Rose Node} (h:At ar t 0 x):Zkm t=(⟨W6 x.kids⟩,⟨Af x.kids⟩):=by unfold Zkm;rw [Xz h]
noncomputable def cQ:Con:=Jy (fun (a b:Sl Node)=>Cn a.l∧Cn b.l) (fun a b=>mC (Xa ar a.l 0) (Xa ar b.l 0))
theorem Zga {t:List Node} {x:Rose Node} (h:At ar t 0 x):(Af x.kids).length≤t.length:=by
 rw [Ca];have Er:=Zg6 h.kids.1 (by have:=h.lt;omega)
 have:∀ ks:List (Rose Node),ks.length≤(ndss ks).length:=by
  intro ks
  induction ks with
  | nil=>simp
  | cons y ys ih=>simp only [Zi,ndss,Ze];have:=Di y;omega
 have:=this x.kids;omega
class Kbv:Prop
theorem Kbv.k (_:Kbv) (h:p:=by
 repeat' first|exact M7|with_reducible apply Zw|intro _
 ·with_reducible exact uL
 ·rename_i h;symm;rw [Za];intro e;exact h (by rw [e])
 ·rename_i h;refine ⟨k+1,by exact Qt,by omega,fun j hj=>?_,by omega⟩
  by_cases Oe:j=k
  ·subst Oe;exact h
  ·exact Jl j (by omega)):p:=h
class Kbw:Prop
theorem Kbw.k (_:Kbw) (h:p:=by
 symm;rw [Zj];refine List.ext_getElem Q5 fun j h1 h2=>?_;have:=Jl j (by omega)
 simpa [h1,h2] using this):p:=h
class Kbu:Prop
theorem Kbu.k (_:Kbu) (h:p:=by
 repeat' first|exact M7|with_reducible apply Zw|intro _
 ·with_reducible exact uL
 refine Zm [4,34,35,36,37,38,39,40,41,42,43,44,45,46,47,48] (fun k:Nat=>[(9,.d (.int .i64 k))]) (fun k:Nat=>[]) (fun k:Nat=>k≤X.length∧∀ j,j<k→X.getD j []=Y.getD j []) (fun k:Nat=>X.length-k) 0 ?_ ?_ ?_
 ·simp
 ·exact Qt
 rintro k ⟨Zba,Jl⟩;rcases Zn k X.length with ⟨Zv,Z6⟩|⟨Zv,Z6⟩
 ·have Z7:=Zp ([]:List UInt8) Zv;have Qq:=Zp ([]:List UInt8) (show k<Y.length by omega)
  have Kq:Kbv:=⟨⟩;exact Ae
 ·have Kq:Kbw:=⟨⟩;exact Ae):p:=h
class Kbx:Prop
theorem Kbx.k (_:Kbx) (h:p:=by
 repeat' first|exact M7|with_reducible apply Zw|intro _
 all_goals with_reducible exact uL):p:=h
class Kby:Prop
theorem Kby.k (_:Kby) (h:p:=by
 repeat' first|exact M7|with_reducible apply Zw|intro _
 all_goals with_reducible exact uL):p:=h
theorem good_alike7:Qc Tryz.prog (132,cQ):=by
 obtain ⟨Kx,Kt,Kc,Kd,Kb,Ku,Kw,K,X4,_⟩:=J7 Zx Zo [] false (Q1 good_kids7 O3.eq_def J5);have Ko:=cQ.eq_def;refine J9 K Tryz.func132 [.tmp 4] rfl 49 rfl (fun c hc Ji Zh=>?_);unfold cQ at Zh;obtain ⟨⟨a⟩,⟨b⟩,rfl,Qu4,Qu3⟩:=Qf Zh;obtain ⟨ha,Qo6,x,Zzm,hx⟩:Cn a:=Qu4;obtain ⟨hb,Qu8,y,Qik,hy⟩:Cn b:=Qu3;have aa:At ar a 0 x:=by rw [Zzm];exact G7 hx
 have ab:At ar b 0 y:=by rw [Qik];exact G7 hy
 have Qk:Xa ar a 0=x:=Xz aa;have Qo:Xa ar b 0=y:=Xz ab;have la:=aa.lt;have lb:=ab.lt;have Qi:=oX aa;have Qn:=oX ab;have Ql:=Zp n0 la;have Qp:=Zp n0 lb;have Qv:a.getD 0 n0=x.root:=aa.root n0;have Q3:b.getD 0 n0=y.root:=ab.root n0;have pa:Cn a:=⟨ha,Qo6,x,Zzm,hx⟩;have pb:Cn b:=⟨hb,Qu8,y,Qik,hy⟩;have lla:=Zga aa;have llb:=Zga ab;obtain ⟨X,hX⟩:=exq (Af x.kids);obtain ⟨Y,hY⟩:=exq (Af y.kids);have Z3:mC x y=(x.root.kind==y.root.kind&&X==Y):=by unfold mC;rw [hX,hY]
 rw [hX] at Qi lla;rw [hY] at Qn llb;clear Zzm Qik Zh;cases hc;refine W5 3 ?_;by_cases hk:x.root.kind=y.root.kind
 ·have Jh:(x.root.kind != y.root.kind)=false:=by simp [hk]
  have Ni:(x.root.kind==y.root.kind)=true:=by simp [hk]
  rw [Ni,Bool.true_and] at Z3;by_cases Q5:X.length=Y.length
  ·have Jb:((X.length:Int) != (Y.length:Int))=false:=by simp [Q5]
   have Kq:Kbu:=⟨⟩;exact Ae
  ·have Jb:((X.length:Int) != (Y.length:Int))=true:=by
    rw [bne_iff_ne];omega
   have Qfi:(X==Y)=false:=by
    rw [Za];intro e;exact Q5 (by rw [e])
   rw [Qfi] at Z3;have Kq:Kbx:=⟨⟩;exact Ae
 ·have Jh:(x.root.kind != y.root.kind)=true:=by simp [hk]
  have Ni:(x.root.kind==y.root.kind)=false:=by simp [hk]
  rw [Ni,Bool.false_and] at Z3;have Kq:Kby:=⟨⟩;exact Ae
def Qks (n:Node):Node:=⟨n.kind,[],n.n⟩
def dI:Rose Node→Rose Node
 | mk n ks=>mk (Qks n) ks
theorem Zjy:∀ x:Rose Node,nds (dI x)=Qeo (nds x)
 | mk n ks=>by rw [dI,Y2,Y2];rfl
theorem Zz3:∀ {x:Rose Node},wf ar x→wf ar (dI x)
 | mk n ks,h=>⟨h.1,h.2⟩
theorem Zeo:∀ x:Rose Node,dI (dI x)=dI x
 | mk n ks=>rfl
def Zh2 (f:Bool) (x y:Rose Node):Bool:=ov f (dI x) (dI y)
theorem Qky {f:Bool} {x y:Rose Node}:Zh2 f (dI x) (dI y)=Zh2 f x y:=by unfold Zh2;rw [Zeo,Zeo]
theorem Zze {f:Bool}:∀ {x y:Rose Node},x.root.name=y.root.name→Zh2 f x y=ov f x y
 | mk n ks,mk m qs,h=>by
  simp only [root] at h;unfold Zh2;rw [dI,dI,Qaj,Qaj];simp only [root,kids,Qf8,Qks,h,beq_self_eq_true,Bool.true_and];rfl
theorem Zf1 {f:Bool}:∀ {ks qs:List (Rose Node)},ks.length=qs.length→(ovs f ks qs=true↔Af ks=Af qs∧∀ j,j<ks.length→Zh2 f (ks.getD j (mk n0 [])) (qs.getD j (mk n0 []))=true)
 | [],[],_=>by rw [ovs];simp [Af]
 | [],_::_,h=>by simp at h
 | _::_,[],h=>by simp at h
 | x::xs,y::ys,h=>by
  rw [ovs,Zg,Zg,Zf1 (by simpa using h),Zj]
  constructor
  ·rintro ⟨h1,h2,h3,h4⟩;refine ⟨by unfold Af at *;simp [h1,h3],fun j hj=>?_⟩
   cases j with
   | zero=>simpa [Zze h1] using h2
   | succ j=>exact h4 j (by simpa using hj)
  ·rintro ⟨h1,h2⟩;unfold Af at h1;rw [List.map_cons,List.map_cons,List.cons.injEq] at h1;have h0:=h2 0 (by simp)
   simp only [List.getD_cons_zero] at h0;rw [Zze h1.1] at h0;exact ⟨h1.1,h0,h1.2,fun j hj=>h2 (j+1) (by simpa using hj)⟩
theorem Qm8 {n m:Node} (hk:n.kind=m.kind) (ha:ar n=ar m) (h0:n.kind≠0) (n1:V0 n=true) (n2:V0 m=true) (p1:n.kind≠8∧n.kind≠9):n.n=m.n:=by
 have t1:=Dl n1;have t2:=Dl n2;rw [ha,←t2] at t1;unfold Yc at t1;rw [hk] at t1;unfold V0 at n1 n2;rw [if_neg (by omega)] at n1
 rw [if_neg (by omega)] at n2
 by_cases h5:1≤n.kind∧n.kind≤5
 ·rw [if_pos h5] at n1;rw [if_pos (by omega)] at n2
  have:=of_decide_eq_true n1;have:=of_decide_eq_true n2;omega
 ·rw [if_neg h5] at n1;by_cases h6:m.kind=6∨m.kind=7
  ·rw [if_neg (by omega),if_pos h6,if_neg (by omega),if_pos h6] at t1
   exact t1
  ·rw [if_neg (by omega),if_neg (by omega)] at n1
   cases n1
theorem Qnp {f:Bool} {x y:Rose Node} (hx:wf ar x) (hy:wf ar y) (nx:Ga (nds x)) (ny:Ga (nds y)) (px:Ya (nds x)=true) (h0:x.root.kind≠0) (h1:y.root.kind≠0) :
  Zh2 f x y=true↔mC x y=true∧∀ j,j<x.kids.length→Zh2 f (x.kids.getD j (mk n0 [])) (y.kids.getD j (mk n0 []))=true:=by
 have k1:=nx _ (xX x);have k2:=ny _ (xX y);have k3:=V8.1 px _ (xX x);obtain ⟨n,ks⟩:=x;obtain ⟨m,qs⟩:=y;simp only [root,kids] at *;unfold Zh2 mC;rw [dI,dI,Qaj];simp only [root,kids,Qks,Za.2 h0,Za.2 h1,Bool.or_self,cond_false,Zg,Zj,Qf8,true_and];constructor
 ·rintro ⟨⟨g1,g2⟩,g3⟩;have hl:ks.length=qs.length:=by
   rw [hx.1,hy.1];unfold ar;rw [g1,g2]
  obtain ⟨e1,e2⟩:=(Zf1 hl).1 g3;exact ⟨⟨g1,e1⟩,e2⟩
 ·rintro ⟨⟨g1,g2⟩,g3⟩;have hl:ks.length=qs.length:=by rw [←Ca (ks:=ks),g2,Ca]
  exact ⟨⟨g1,Qm8 g1 (by rw [←hx.1,←hy.1,hl]) h0 k1 k2 k3⟩,(Zf1 hl).2 ⟨g2,g3⟩⟩
theorem Qkx {f:Bool}:∀ {x y:Rose Node},x.root.kind=0∨y.root.kind=0→Zh2 f x y=Zme f y.root
 | mk n ks,mk m qs,h=>by
  unfold Zh2;rw [dI,dI,Qaj];simp only [root,Qks] at h ⊢;have:(n.kind==0||m.kind==0)=true:=by rw [Bool.or_eq_true,Zj,Zj];exact h
  rw [this];rfl
theorem Qkr (t:List Node):(Qeo t).length=t.length:=by cases t<;>rfl
theorem Zjm {ks:List (Rose Node)} {j:Nat} (h:j<ks.length):(W6 ks).getD j ⟨[]⟩=Sl.mk (Qeo (nds (ks.getD j (mk n0 [])))):=by
 unfold W6;simp [h]
theorem Qhp {t:List Node} (h:Ga t):Ga (Qeo t):=by
 cases t with
 | nil=>exact h
 | cons n r =>
  intro m hm;rcases Zs.1 hm with rfl|hm
  ·have:=h n (by simp)
   exact this
  ·exact h m (by simp [hm])
theorem Qen {t:List Node} (h:Ya t=true):Ya (Qeo t)=true:=by
 cases t with
 | nil=>exact h
 | cons n r =>
  rw [V8] at *;intro m hm;rcases Zs.1 hm with rfl|hm
  ·exact h n (by simp)
  ·exact h m (by simp [hm])
theorem Qmz {ks:List (Rose Node)} (h:wfs ar ks) {j:Nat} (hj:j<ks.length):wf ar (ks.getD j (mk n0 [])):=by
 induction ks generalizing j with
 | nil=>simp at hj
 | cons x xs ih =>
  cases j with
  | zero=>exact h.1
  | succ j=>exact ih h.2 (by simpa using hj)
theorem Qaq {ks:List (Rose Node)} {j:Nat} (hj:j<ks.length) {n:Node} (hn:n∈nds (ks.getD j (mk n0 []))):n∈ndss ks:=by
 induction ks generalizing j with
 | nil=>simp at hj
 | cons x xs ih =>
  rw [ndss,List.mem_append];cases j with
  | zero=>exact .inl hn
  | succ j=>exact .inr (ih (by simpa using hj) hn)
theorem Qj8 {ks:List (Rose Node)} {j:Nat} (hj:j<ks.length):(nds (ks.getD j (mk n0 []))).length≤(ndss ks).length:=by
 induction ks generalizing j with
 | nil=>simp at hj
 | cons x xs ih =>
  rw [ndss,Ze];cases j with
  | zero=>simp
  | succ j=>have:=ih (j:=j) (by simpa using hj);simp only [List.getD_cons_succ];omega
theorem Qp9 {x:Rose Node} (hx:wf ar x) (hN:Ga (nds x)) (hp:Ya (nds x)=true) (hl:(nds x).length≤10000000) {j:Nat} (hj:j<x.kids.length) :
  Cn (Qeo (nds (x.kids.getD j (mk n0 []))))∧Ya (Qeo (nds (x.kids.getD j (mk n0 []))))=true∧(Qeo (nds (x.kids.getD j (mk n0 [])))).length<(nds x).length∧Xa ar (Qeo (nds (x.kids.getD j (mk n0 [])))) 0=dI (x.kids.getD j (mk n0 [])):=by
 obtain ⟨n,ks⟩:=x;simp only [kids] at *;rw [Y2] at *;have Q5:=Qj8 hj;have hw:=Qmz hx.2 hj;have Zv:(Qeo (nds (ks.getD j (mk n0 [])))).length<(n::ndss ks).length:=by rw [Qkr,Zi];omega
 have hn:Ga (nds (ks.getD j (mk n0 []))):=fun m hm=>hN m (List.mem_cons_of_mem _ (Qaq hj hm));have Jaw:Ya (nds (ks.getD j (mk n0 [])))=true:=by
  rw [V8] at *;exact fun m hm=>hp m (List.mem_cons_of_mem _ (Qaq hj hm))
 refine ⟨⟨by omega,Qhp hn,dI _,(Zjy _).symm,Zz3 hw⟩,Qen Jaw,Zv,?_⟩
 rw [←Zjy];exact Xz (G7 (Zz3 hw))
noncomputable def Gv (n:Nat):Con:=Jy (fun (a b:Sl Node)=>Cn a.l∧Cn b.l∧Ya a.l=true∧Ya b.l=true∧a.l.length<n) (fun a b=>Zh2 true (Xa ar a.l 0) (Xa ar b.l 0))
theorem vY:∀ c,¬ (Gv 0).pre c:=by
 intro c h;unfold Gv at h;obtain ⟨_,_,_,_,_,_,_,h⟩:=Qf h;omega
structure KbA : Prop
theorem KbA.k (_ : KbA) (h : p := by
  first
    | assumption
    | (refine ⟨k + 1, by exact Qt, by omega, fun j hj => ?_, by omega⟩
       by_cases Oe : j = k
       · subst Oe; exact hr
       · exact Jl j (by omega))) : p := h
structure Kbz : Prop
theorem Kbz.k (_ : Kbz) (h : p := by
  refine Zm [4, 36, 37, 38, 39, 40, 41, 42, 43, 44, 45, 46, 47, 48, 49, 50, 51] (fun k : Nat => [(9, .d (.int .i64 k))]) (fun k : Nat => []) (fun k : Nat => k ≤ x.kids.length ∧ ∀ j, j < k → Zh2 true (x.kids.getD j (mk n0 [])) (y.kids.getD j (mk n0 [])) = true) (fun k : Nat => x.kids.length - k) 0 ?_ ?_ ?_
  · simp
  · exact Qt
  rintro k ⟨Zba, Jl⟩;rcases Zn k x.kids.length with ⟨Zv, Qq⟩ | ⟨Zv, Qq⟩
  · obtain ⟨u1, u2, u3, Qr⟩ := Qy1 Zv
    obtain ⟨w1, w2, w3, Qw⟩ := Qy0 (show k < y.kids.length by omega)
    have Qm := Zp (⟨[]⟩ : Sl Node) (show k < (W6 x.kids).length by omega)
    have Qg := Zp (⟨[]⟩ : Sl Node) (show k < (W6 y.kids).length by rw [Oj]; omega)
    rw [Zjm Zv] at Qm;rw [Zjm (show k < y.kids.length by omega)] at Qg
    have Q4 := Qky (f := true) (x := x.kids.getD k (mk n0 [])) (y := y.kids.getD k (mk n0 []));have Qx : (W6 y.kids).length = y.kids.length := Oj;cases hr : Zh2 true (x.kids.getD k (mk n0 [])) (y.kids.getD k (mk n0 [])) with
    | false =>
      have Qo : v = false := by
        rw [← Bool.not_eq_true];intro e;have := (Zca.1 e).2 k Zv;rw [hr] at this;cases this
      rw [hr] at Q4;exact U3
    | true =>
      rw [hr] at Q4;have Kq : KbA := ⟨⟩;exact Xv
  · have Qo : v = true := Zca.2 ⟨Z7, fun j hj => Jl j (by omega)⟩
    exact qB) : p := h
theorem step_Below7 (n : Nat) (ih : Qc Tryz.prog (85, Gv n)) : Qc Tryz.prog (85, (Gv (n + 1))) := by
  obtain ⟨Kx, Kt, Kc, Kd, Kb, Ku, Kw, K, X4, V2, Mo, _⟩ := J7 Zx Zo [] false (Q1 good_alike7 cQ.eq_def (Q1 good_kids7 O3.eq_def (Q1 ih (Gv.eq_def n) J5)));have Ko := (Gv.eq_def (n + 1));refine J9 K Tryz.func85 [.tmp 4] rfl 52 rfl (fun c hc Ji Zh => ?_);unfold Gv at Zh;obtain ⟨⟨a⟩, ⟨b⟩, rfl, Qu4, Qu3, Qwb, Qut, hn⟩ := Qf Zh;have pa : Cn a := Qu4;have pb : Cn b := Qu3;obtain ⟨ha, Qo6, x, Zzm, hx⟩ : Cn a := Qu4;obtain ⟨hb, Qu8, y, Qik, hy⟩ : Cn b := Qu3;simp only at Qwb Qut hn;have aa : At ar a 0 x := by rw [Zzm]; exact G7 hx
  have ab : At ar b 0 y := by rw [Qik]; exact G7 hy
  have Qi : Xa ar a 0 = x := Xz aa;have Qn : Xa ar b 0 = y := Xz ab;have la := aa.lt;have lb := ab.lt;have Qp := oX aa;have Qv := oX ab;have Q3 := Zp n0 la;have Jh := Zp n0 lb;have Jb : a.getD 0 n0 = x.root := aa.root n0;have Z3 : b.getD 0 n0 = y.root := ab.root n0;have lla := Zga aa;rw [Ca] at lla;have Qot := Qkx (f := true) (x := x) (y := y);have Qy1 := @Qp9 x hx (by rw [← Zzm]; exact Qo6) (by rw [← Zzm]; exact Qwb) (by rw [← Zzm]; exact ha)
  have Qy0 := @Qp9 y hy (by rw [← Qik]; exact Qu8) (by rw [← Qik]; exact Qut) (by rw [← Qik]; exact hb)
  have Zca := Qnp (f := true) hx hy (by rw [← Zzm]; exact Qo6) (by rw [← Qik]; exact Qu8) (by rw [← Zzm]; exact Qwb)
  rw [← Zzm] at Qy1;rw [← Qik] at Qy0;obtain ⟨v, Ql⟩ : ∃ v, Zh2 true x y = v := ⟨_, rfl⟩;rw [Ql] at Qot Zca;clear Zzm Qik Zh;cases hc;refine W5 3 ?_;by_cases Qfh : y.root.kind = 0
  · have Qk : (y.root.kind == 0) = true := by simp [Qfh]
    have Qo : v = true := by rw [Qot (.inr Qfh)]; simp [Zme, Qfh]
    exact U3
  have Qk : (y.root.kind == 0) = false := by simp [Qfh]
  by_cases sI : x.root.kind = 0
  · have Z6 : (x.root.kind == 0) = true := by simp [sI]
    have Qo : v = false := by rw [Qot (.inl sI)]; simp [Zme, Qfh]
    exact U3
  have Z6 : (x.root.kind == 0) = false := by simp [sI]
  have Qk : (y.root.kind == 0) = false := by simp [Qfh]
  specialize Zca sI Qfh;cases Z7 : mC x y with
  | false =>
    have Qo : v = false := by
      rw [← Bool.not_eq_true];intro e;have := (Zca.1 e).1;rw [Z7] at this;cases this
    exact U3
  | true =>
    have Is : x.kids.length = y.kids.length := by
      unfold mC at Z7;rw [Zg, Zj, Zj] at Z7;have := congrArg List.length Z7.2;rw [Ca, Ca] at this;exact this
    have Qj : (W6 x.kids).length = x.kids.length := Oj;have Kq : Kbz := ⟨⟩;exact Xv
structure Fn0 (f:Nat) where
instance encFn0 (f:Nat):Enc (Fn0 f):=⟨fun _=>.clo f [],fun _=>⟨⟩,fun _=>rfl⟩
theorem Gp {f:Nat} {a:Fn0 f}:(enc a:D)=.clo f []:=rfl
theorem Gm {f:Nat}:Ul (Fn0 f) (.clo f [])=True:=eq_true rfl
def Zi6 (x y:Node):Bool:=Cy x==Cy y
def iC:Con:=Jy (fun (_ _:Node)=>True) Zi6
class KbB:Prop
theorem KbB.k (_:KbB) (h:p:=by
 repeat' first|exact M7|with_reducible apply Zw|intro _
 all_goals
  unfold Zi6;rw [Bool.eq_iff_iff];simp only [Zj];unfold Cy;obtain ⟨xk,xn,xm⟩:=x;obtain ⟨yk,yn,ym⟩:=y;simp only at *;repeat' split
  all_goals
   first|(simp only [Node.mk.injEq];done)|(simp only [Node.mk.injEq];constructor<;>(intro h;simp_all))):p:=h
theorem good_SameN:Qc Tryz.prog (171,iC):=by
 obtain ⟨Kx,Kt,Kc,Kd,Kb,Ku,Kw,K,_⟩:=J7 Zx Zo [] false J5;have Ko:=iC.eq_def;refine J9 K Tryz.func171 [.tmp 4] rfl 21 rfl (fun c hc Ji Zh=>?_);unfold iC at Zh;obtain ⟨x,y,rfl,-⟩:=Qf Zh;cases hc;have Kq:KbB:=⟨⟩;exact Ae
def Lu:Con:=Um (fun (a b:Sl Node) (_:Fn0 171)=>a.l.length≤9223372036854775807∧b.l.length≤9223372036854775807) (fun a b _=>Lk a.l b.l)
class KbD:Prop
theorem KbD.k (_:KbD) (h:p:=by
 first|exact ⟨k+1,by exact Qt,by omega,Vx,by omega⟩):p:=h
class KbE:Prop
theorem KbE.k (_:KbE) (h:p:=by
 symm;unfold Lk;rw [Zj];refine List.ext_getElem (by simp [Q5]) fun j h1 h2=>?_
 rw [Zf] at h1 h2;have:=Jl j (by omega)
 simpa [h1,h2] using this):p:=h
class KbC:Prop
theorem KbC.k (_:KbC) (h:p:=by
 refine ⟨fun Tz=>?_,fun Zh7=>?_⟩
 ·symm;unfold Lk;rw [Za];intro h;have:=congrArg List.length h;rw [Zf,Zf] at this;exact Tz (by rw [this])
 have Q5:a.length=b.length:=by omega
 refine Zm [6,7,8,9,18,19,20,21,22,23,24,25,26,27,28,29,30,31] (fun k:Nat=>[(17,.d (.int .i64 k))]) (fun k:Nat=>[]) (fun k:Nat=>k≤a.length∧∀ j,j<k→Cy (a.getD j ⟨0,[],0⟩)=Cy (b.getD j ⟨0,[],0⟩)) (fun k:Nat=>a.length-k) 0 ?_ ?_ ?_
 ·simp
 ·exact Qt
 rintro k ⟨hk,Jl⟩;rcases Zn k a.length with ⟨Zv,Qk⟩|⟨Zv,Qk⟩
 ·have Qo:=Zp (⟨0,[],0⟩:Node) Zv;have Qi:=Zp (⟨0,[],0⟩:Node) (show k<b.length by omega)
  cases Qn:Zi6 (a.getD k ⟨0,[],0⟩) (b.getD k ⟨0,[],0⟩) with
  | false =>
   have Qs:false=Lk a b:=by
    symm;unfold Lk;rw [Za];intro e;unfold Zi6 at Qn;rw [Za] at Qn;apply Qn;have h1:(a.map Cy).getD k ⟨0,[],0⟩=(b.map Cy).getD k ⟨0,[],0⟩:=by rw [e]
    simpa [Zv,show k<b.length by omega] using h1
   have Ql:=@Gp;exact U3
  | true =>
   have Vx:∀ j,j<k+1→Cy (a.getD j ⟨0,[],0⟩)=Cy (b.getD j ⟨0,[],0⟩):=by
    intro j hj;unfold Zi6 at Qn;rw [Zj] at Qn;by_cases Oe:j=k
    ·subst Oe;exact Qn
    ·exact Jl j (by omega)
   have Ql:=@Gp;have Kq:KbD:=⟨⟩;exact Xv
 ·have Kq:KbE:=⟨⟩;exact Ae):p:=h
theorem good_equalNodes:Qc Tryz.prog (170,Lu):=by
 obtain ⟨Kx,Kt,Kc,Kd,Kb,Ku,Kw,K,X4,_⟩:=J7 Zx Zo [] false (Q1 good_SameN iC.eq_def J5);have Ko:=Lu.eq_def;refine J9 K Tryz.func170 [.tmp 6] rfl 32 rfl (fun c hc Ji Zh=>?_);unfold Lu at Zh;obtain ⟨⟨a⟩,⟨b⟩,f,rfl,ha,hb⟩:=Vb Zh;simp only at ha hb;cases hc;refine W5 2 ?_;have Ql:=@Gp;have Kq:KbC:=⟨⟩;exact Ae
def iB:Con:=Jy (fun (a b:Sl Node)=>a.l.length≤9223372036854775807∧b.l.length≤9223372036854775807) (fun a b=>Lk a.l b.l)
theorem Zyg:Qc Tryz.prog (127,iB):=by
 obtain ⟨Kx,Kt,Kc,Kd,Kb,Ku,Kw,K,X4,_⟩:=J7 Zx Zo [] false (Q1 good_equalNodes Lu.eq_def J5);have Ko:=iB.eq_def;refine J9 K Tryz.func127 [.tmp 4] rfl 8 rfl (fun c hc Ji Zh=>?_);unfold iB at Zh;obtain ⟨⟨a⟩,⟨b⟩,rfl,ha,hb⟩:=Qf Zh;simp only at ha hb;cases hc;have Qk:=@Gm;exact U3
def Zku {α:Type} (p:α→Bool) (l:List α):Int:=match l.findIdx? p with
 | some i=>(i:Int)
 | none=>-1
theorem Qa6 {α:Type} {p:α→Bool} {l:List α} {k:Nat} (d:α) (hk:k<l.length) (Jl:∀ j,j<k→p (l.getD j d)=false) (hp:p (l.getD k d)=true):Zku p l=k:=by
 have h:l.findIdx? p=some k:=by
  rw [List.findIdx?_eq_some_iff_getElem];refine ⟨hk,by simpa [hk] using hp,fun j hj=>?_⟩
  have:=Jl j hj;simpa [show j<l.length by omega] using this
 unfold Zku;rw [h]
theorem Zdu {α:Type} {p:α→Bool} {l:List α} (d:α) (Jl:∀ j,j<l.length→p (l.getD j d)=false):Zku p l=-1:=by
 have h:l.findIdx? p=none:=by
  rw [List.findIdx?_eq_none_iff];intro x hx;obtain ⟨j,hj,rfl⟩:=List.getElem_of_mem hx;have:=Jl j hj;simpa [hj] using this
 unfold Zku;rw [h]
theorem Zkt {α:Type} {p:α→Bool} {l:List α}:Xp 0 (Zku p l)=l.any p:=by
 unfold Zku;cases h:l.findIdx? p with
 | none =>
  rw [List.findIdx?_eq_none_iff] at h;have:l.any p=false:=by rw [List.any_eq_false];intro x hx;rw [h x hx];simp
  rw [this];rfl
 | some i =>
  rw [List.findIdx?_eq_some_iff_getElem] at h;obtain ⟨hi,hp,_⟩:=h;have:l.any p=true:=by rw [List.any_eq_true];exact ⟨_,List.getElem_mem hi,hp⟩
  rw [this];simp [Xp]
def Qi7 (v:Int) (x:Int):Bool:=v==x
def Dy:Con:=Jy (fun (l:Sl Int) (_:Int)=>l.l.length≤9223372036854775807) (fun l v=>Zku (Qi7 v) l.l)
class KbG:Prop
theorem KbG.k (_:KbG) (h:p:=by
 refine ⟨k+1,by exact Qt,by omega,fun j hj=>?_,by omega⟩
 by_cases Oe:j=k
 ·subst Oe;exact hs
 ·exact Jl j (by omega)):p:=h
class KbF:Prop
theorem KbF.k (_:KbF) (h:p:=by
 refine Zm [4,5,9,10,11,12,13,14,15,16,17,18] (fun k:Nat=>[(8,.d (.int .i64 k))]) (fun k:Nat=>[]) (fun k:Nat=>k≤l.length∧∀ j,j<k→Qi7 v (l.getD j 0)=false) (fun k:Nat=>l.length-k) 0 ?_ ?_ ?_
 ·simp
 ·exact Qt
 rintro k ⟨hk,Jl⟩;rcases Zn k l.length with ⟨Zv,Qk⟩|⟨Zv,Qk⟩
 ·have Qo:=Zp (0:Int) Zv;cases hs:Qi7 v (l.getD k 0) with
  | false =>
   have Qi:(v==l.getD k 0)=false:=hs;have Kq:KbG:=⟨⟩;exact Xv
  | true =>
   have Qi:(v==l.getD k 0)=true:=hs;have Qn:=Qa6 0 Zv Jl hs;exact U3
 ·have Qn:=Zdu (p:=Qi7 v) (l:=l) 0 (fun j hj=>Jl j (by omega))
  exact qB):p:=h
theorem good_indexInt:Qc Tryz.prog (235,Dy):=by
 obtain ⟨Kx,Kt,Kc,Kd,Kb,Ku,Kw,K,_⟩:=J7 Zx Zo [] false J5;have Ko:=Dy.eq_def;refine J9 K Tryz.func235 [.tmp 4] rfl 19 rfl (fun c hc Ji Zh=>?_);unfold Dy at Zh;obtain ⟨⟨l⟩,v,rfl,hl⟩:=Qf Zh;simp only at hl;cases hc;have Kq:KbF:=⟨⟩;exact Ae
def Pf:Con:=Jy (fun (l:Sl Int) (_:Int)=>l.l.length≤9223372036854775807) (fun l v=>l.l.any (Qi7 v))
theorem rP:Qc Tryz.prog (197,Pf):=by
 obtain ⟨Kx,Kt,Kc,Kd,Kb,Ku,Kw,K,X4,_⟩:=J7 Zx Zo [] false (Q1 good_indexInt Dy.eq_def J5);have Ko:=Pf.eq_def;refine J9 K Tryz.func197 [.tmp 4] rfl 9 rfl (fun c hc Ji Zh=>?_);unfold Pf at Zh;obtain ⟨⟨l⟩,v,rfl,hl⟩:=Qf Zh;simp only at hl;have Qk:=Zkt (p:=Qi7 v) (l:=l);cases hc;exact U3
structure PI where
 l:List Int
instance encPI:Enc PI:=⟨fun p=>.ptr 1 (.list 1 (p.l.map enc)),fun x=>match x with
 | .ptr _ y=>⟨y.l.map dec⟩
 | _=>⟨[]⟩,fun p=>by
  have h:∀ l:List Int,(l.map (enc:Int→D)).map dec=l:=fun l=>Jx;obtain ⟨l⟩:=p;simp [D.l,h]⟩
theorem Qnh {l:List Int}:(enc (PI.mk l):D)=.ptr 1 (.list 1 (l.map enc)):=rfl
theorem Qnt {l:List Int}:(PI.mk l).l=l:=rfl
theorem Zy0 {l:List Int}:(dec (.ptr 1 (.list 1 (l.map enc))):PI)=⟨l⟩:=Enc.dec_enc (PI.mk l)
theorem Qg5 {l:List Int}:Ul PI (.ptr 1 (.list 1 (l.map enc)))=True:=eq_true (Wc (PI.mk l))
structure NoneF where
 l:List Int
instance encNoneF:Enc NoneF:=⟨fun p=>.clo 196 [.ptr 1 (.list 1 (p.l.map enc))],fun x=>match x with
 | .clo _ [.ptr _ y]=>⟨y.l.map dec⟩
 | _=>⟨[]⟩,fun p=>by
  have h:∀ l:List Int,(l.map (enc:Int→D)).map dec=l:=fun l=>Jx;obtain ⟨l⟩:=p;simp [D.l,h]⟩
theorem gO {l:List Int}:(enc (NoneF.mk l):D)=.clo 196 [.ptr 1 (.list 1 (l.map enc))]:=rfl
theorem vT {l:List Int}:(NoneF.mk l).l=l:=rfl
theorem sJ {l:List Int}:(dec (.clo 196 [.ptr 1 (.list 1 (l.map enc))]):NoneF)=⟨l⟩:=Enc.dec_enc (NoneF.mk l)
theorem Qdy {l:List Int}:Ul NoneF (.clo 196 [.ptr 1 (.list 1 (l.map enc))])=True:=eq_true (Wc (NoneF.mk l))
theorem Qeh {l:List Int}:(dec (.clo 196 [.ptr 1 (enc (Sl.mk l))]):NoneF)=⟨l⟩:=Enc.dec_enc (NoneF.mk l)
theorem Qdx {l:List Int}:Ul NoneF (.clo 196 [.ptr 1 (enc (Sl.mk l))])=True:=eq_true (Wc (NoneF.mk l))
def So (l:List Int) (n:Node):Bool:=l.any (Qi7 n.kind)
def gT:Con:=Jy (fun (_:Node) (p:PI)=>p.l.length≤1000000) (fun n p=>So p.l n)
theorem Zx9:Qc Tryz.prog (196,gT):=by
 obtain ⟨Kx,Kt,Kc,Kd,Kb,Ku,Kw,K,X4,_⟩:=J7 Zx Zo [] false (Q1 rP Pf.eq_def J5);have Ko:=gT.eq_def;refine J9 K Tryz.func196 [.tmp 3] rfl 8 rfl (fun c hc Ji Zh=>?_);unfold gT at Zh;obtain ⟨n,⟨l⟩,rfl,hl⟩:=Qf Zh;simp only at hl;have Qk:So l n=l.any (Qi7 n.kind):=rfl;cases hc;have Qo:=@Qnh;have Qi:=@Zy0;have Qn:=@Qnt;exact U3
def Tq:Con:=Jy (fun (l:Sl Node) (f:NoneF)=>l.l.length≤9223372036854775807∧f.l.length≤1000000) (fun l f=>Zku (So f.l) l.l)
class KbI:Prop
theorem KbI.k (_:KbI) (h:p:=by
 refine ⟨k+1,by exact Qt,by omega,fun j hj=>?_,by omega⟩
 by_cases Oe:j=k
 ·subst Oe;exact Qi
 ·exact Jl j (by omega)):p:=h
class KbH:Prop
theorem KbH.k (_:KbH) (h:p:=by
 refine Zm [4,5,9,10,11,12,13,14,15,16,17,18] (fun k:Nat=>[(8,.d (.int .i64 k))]) (fun k:Nat=>[]) (fun k:Nat=>k≤l.length∧∀ j,j<k→So v (l.getD j ⟨0,[],0⟩)=false) (fun k:Nat=>l.length-k) 0 ?_ ?_ ?_
 ·simp
 ·exact Qt
 rintro k ⟨hk,Jl⟩;rcases Zn k l.length with ⟨Zv,Qk⟩|⟨Zv,Qk⟩
 ·have Qo:=Zp (⟨0,[],0⟩:Node) Zv;cases Qi:So v (l.getD k ⟨0,[],0⟩) with
  | false =>
   have Ql:=@gO;have Qp:=@Zy0;have Qv:=@Qg5;have Q3:=@Qnt;have Kq:KbI:=⟨⟩;exact Xv
  | true =>
   have Qn:=Qa6 ⟨0,[],0⟩ Zv Jl Qi;have Ql:=@gO;have Qp:=@sJ;have Qv:=@Zy0;have Q3:=@Qg5;have Jh:=@Qnt;have Jb:=@vT;exact U3
 ·have Qn:=Zdu (p:=So v) (l:=l) ⟨0,[],0⟩ (fun j hj=>Jl j (by omega))
  have Ql:=@sJ;have Qp:=@vT;exact qB):p:=h
theorem good_indexNode:Qc Tryz.prog (234,Tq):=by
 obtain ⟨Kx,Kt,Kc,Kd,Kb,Ku,Kw,K,X4,_⟩:=J7 Zx Zo [] false (Q1 Zx9 gT.eq_def J5);have Ko:=Tq.eq_def;refine J9 K Tryz.func234 [.tmp 4] rfl 19 rfl (fun c hc Ji Zh=>?_);unfold Tq at Zh;obtain ⟨⟨l⟩,⟨v⟩,rfl,hl,hv⟩:=Qf Zh;simp only at hl hv;cases hc;have Ql:=@gO;have Kq:KbH:=⟨⟩;exact Ae
def Mh:Con:=Jy (fun (l:Sl Node) (f:NoneF)=>l.l.length≤9223372036854775807∧f.l.length≤1000000) (fun l f=>l.l.any (So f.l))
theorem oE:Qc Tryz.prog (195,Mh):=by
 obtain ⟨Kx,Kt,Kc,Kd,Kb,Ku,Kw,K,X4,_⟩:=J7 Zx Zo [] false (Q1 good_indexNode Tq.eq_def J5);have Ko:=Mh.eq_def;refine J9 K Tryz.func195 [.tmp 4] rfl 9 rfl (fun c hc Ji Zh=>?_);unfold Mh at Zh;obtain ⟨⟨l⟩,⟨v⟩,rfl,hl,hv⟩:=Qf Zh;simp only at hl hv;have Qk:=Zkt (p:=So v) (l:=l);cases hc;have Qo:=@gO;have Qi:=@sJ;have Qn:=@Qdy;have Ql:=@vT;exact U3
def O1:Con:=Jy (fun (l:Sl Node) (f:Sl Int)=>l.l.length≤9223372036854775807∧f.l.length≤1000000) (fun l f=>!l.l.any (So f.l))
theorem yO:Qc Tryz.prog (166,O1):=by
 obtain ⟨Kx,Kt,Kc,Kd,Kb,Ku,Kw,K,X4,_⟩:=J7 Zx Zo [] false (Q1 oE Mh.eq_def J5);have Ko:=O1.eq_def;refine J9 K Tryz.func166 [.tmp 4] rfl 9 rfl (fun c hc Ji Zh=>?_);unfold O1 at Zh;obtain ⟨⟨l⟩,⟨v⟩,rfl,hl,hv⟩:=Qf Zh;simp only at hl hv;cases hc;have Qk:=@Qeh;have Qo:=@Qdx;have Qi:=@vT;exact U3
theorem Zxm (t:List Node):(!t.any (So [8,9]))=Ya t:=by
 unfold Ya;rw [List.not_any_eq_all_not]
 congr 1
 funext n
 simp [So,Qi7,bne]
def cK:Con:=Xj (fun (t:Sl Node)=>t.l.length≤9223372036854775807) (fun t=>Ya t.l)
theorem Zk3:Qc Tryz.prog (117,cK):=by
 obtain ⟨Kx,Kt,Kc,Kd,Kb,Ku,Kw,K,X4,_⟩:=J7 Zx Zo [] false (Q1 yO O1.eq_def J5);have Ko:=cK.eq_def;refine J9 K Tryz.func117 [.tmp 2] rfl 6 rfl (fun c hc Ji Zh=>?_);unfold cK at Zh;obtain ⟨⟨t⟩,rfl,ht⟩:=Q8 Zh;simp only at ht;have Qk:=Zxm t;cases hc;exact U3
open Go.Proofs
structure Rune where
 v:Int
instance encRune:Enc Rune:=⟨fun a=>.int .i32 a.v,fun x=>⟨x.i⟩,fun _=>rfl⟩
theorem zV {a:Rune}:(enc a:D)=.int .i32 a.v:=rfl
theorem zF {v:Int}:(dec (.int .i32 v):Rune)=⟨v⟩:=rfl
theorem yF {v:Int}:Ul Rune (.int .i32 v)=True:=eq_true rfl
theorem Qnq {v:Int}:(Rune.mk v).v=v:=rfl
theorem xQ {a:Rune}:Rune.mk a.v=a:=rfl
def Sh (r:Int):Bool:=Xp 97 r&&Xp r 122
def Su (r:Int):Bool:=Xp 65 r&&Xp r 90
def Tv (r:Int):Bool:=Sh r||(Su r||((Xp 48 r&&Xp r 57)||r==95))
def Dv:Con:=Xj (fun (_:Rune)=>True) (fun a=>Sh a.v)
class KbJ:Prop
theorem KbJ.k (_:KbJ) (h:p:=by
 unfold Sh;repeat' first|exact M7|with_reducible apply Zw|intro _
 all_goals first|(simp_all [Xp];done)|(simp_all [Xp];omega)):p:=h
theorem good_isSmallG:Qc Tryz.prog (232,Dv):=by
 obtain ⟨Kx,Kt,Kc,Kd,Kb,Ku,Kw,K,_⟩:=J7 Zx Zo [] false J5;have Ko:=Dv.eq_def;refine J9 K Tryz.func232 [.tmp 2] rfl 9 rfl (fun c hc Ji Zh=>?_);unfold Dv at Zh;obtain ⟨a,rfl,-⟩:=Q8 Zh;cases hc;have Qk:=@zV;have Qo:=@zF;have Qi:=@yF;have Qn:=@xQ;have Kq:KbJ:=⟨⟩;exact Ae
def Dx:Con:=Xj (fun (_:Rune)=>True) (fun a=>Su a.v)
class KbK:Prop
theorem KbK.k (_:KbK) (h:p:=by
 unfold Su;repeat' first|exact M7|with_reducible apply Zw|intro _
 all_goals first|(simp_all [Xp];done)|(simp_all [Xp];omega)):p:=h
theorem good_isGreatG:Qc Tryz.prog (233,Dx):=by
 obtain ⟨Kx,Kt,Kc,Kd,Kb,Ku,Kw,K,_⟩:=J7 Zx Zo [] false J5;have Ko:=Dx.eq_def;refine J9 K Tryz.func233 [.tmp 2] rfl 9 rfl (fun c hc Ji Zh=>?_);unfold Dx at Zh;obtain ⟨a,rfl,-⟩:=Q8 Zh;cases hc;have Qk:=@zV;have Qo:=@zF;have Qi:=@yF;have Qn:=@xQ;have Kq:KbK:=⟨⟩;exact Ae
def I6:Con:=Xj (fun (_:Rune)=>True) (fun a=>Tv a.v)
class KbL:Prop
theorem KbL.k (_:KbL) (h:p:=by
 unfold Tv;repeat' first|exact M7|with_reducible apply Zw|intro _
 all_goals first|(simp_all [Xp];done)|(simp_all [Xp];omega)):p:=h
theorem good_isBehindG:Qc Tryz.prog (256,I6):=by
 obtain ⟨Kx,Kt,Kc,Kd,Kb,Ku,Kw,K,X4,V2,_⟩:=J7 Zx Zo [] false (Q1 good_isSmallG Dv.eq_def (Q1 good_isGreatG Dx.eq_def J5));have Ko:=I6.eq_def;refine J9 K Tryz.func256 [.tmp 2] rfl 21 rfl (fun c hc Ji Zh=>?_);unfold I6 at Zh;obtain ⟨a,rfl,-⟩:=Q8 Zh;cases hc;have Qk:=@zV;have Qo:=@zF;have Qi:=@yF;have Qn:=@xQ;have Ql:=@Qnq;have Kq:KbL:=⟨⟩;exact Ae
theorem Zae {P:Program} {f:FuncId} {con:Con} {b:Bool} (hg:Qc P (f,con)) (W:World) (xs:List D) (args:Array Value) (hR:Rs (Rb W) xs args.toList) (Zh:con.pre (xs.map .d)) (sN:con.fn (xs.map .d)=.d (.bool b)) :
  Calls P f args W fun e W'=>e=.returned (.bool b)∧Go.RowKit.Below W.heap.size W W':=by
 have h:=hg.2 (Rb W).m W (xs.map .d) args.toList Zh (mD hR) (by rw [Ok];exact List.nodup_nil) (Zd1 W)
 rw [show args.toList.toArray=args by simp] at h
 refine h.mono ?_;rintro e W' ⟨v,m',rfl,Zaz,_,_,Zaw⟩
 change Zm5 _ _ _ (con.fn (xs.map .d)) v at Zaw
 rw [sN] at Zaw;simp only [Zm5,Uw,Ze1,R] at Zaw;obtain ⟨⟨v1,r,aW,rfl,rfl⟩,_⟩:=Zaw;injection aW with aW _
 subst aW;refine ⟨rfl,Zaz.os,Zaz.tape,Zaz.output,Zaz.size,fun k hk=>Zaz.block k hk ?_⟩;rw [Ok];exact Ee
theorem lY {f:FuncId} {p:Int→Bool} (hg:Qc Tryz.prog (f,Xj (fun (_:Rune)=>True) (fun a=>p a.v))) (r:Int) (W:World) :
  Calls Tryz.prog f #[.int .i32 r] W fun e W'=>e=.returned (.bool (p r))∧Go.RowKit.Below W.heap.size W W' :=
 Zae (con:=Xj (fun (_:Rune)=>True) (fun a=>p a.v)) hg W [.int .i32 r] #[.int .i32 r] ⟨_,_,rfl,rfl,rfl⟩ ⟨rfl,trivial⟩ rfl
theorem kC (r:Int) (W:World):Calls Tryz.prog 232 #[.int .i32 r] W fun e W'=>e=.returned (.bool (Sh r))∧Go.RowKit.Below W.heap.size W W':=lY good_isSmallG r W
theorem kD (r:Int) (W:World):Calls Tryz.prog 233 #[.int .i32 r] W fun e W'=>e=.returned (.bool (Su r))∧Go.RowKit.Below W.heap.size W W':=lY good_isGreatG r W
theorem L3 (r:Int) (W:World):Calls Tryz.prog 256 #[.int .i32 r] W fun e W'=>e=.returned (.bool (Tv r))∧Go.RowKit.Below W.heap.size W W':=lY good_isBehindG r W
open Go.Proofs Go.RowKit
theorem Zcj (s:ByteArray) (pos:Nat) (h:pos<s.size):1≤(Utf8.decode s pos).2:=by
 simp only [Utf8.decode];repeat' split
 all_goals simp
def Y5 (p:Int→Bool) (s:ByteArray):Nat→Nat→Bool
 | 0,_=>true
 | n+1,pos=>if pos<s.size then (cond (pos==0) (p ((Utf8.decode s pos).1:Int)) (Tv ((Utf8.decode s pos).1:Int))&&Y5 p s n (pos+(Utf8.decode s pos).2)) else true
theorem lU {p:Int→Bool} {s:ByteArray} {n pos:Nat} (h:¬ pos<s.size):Y5 p s n pos=true:=by
 cases n with
 | zero=>rfl
 | succ n=>rw [Y5,if_neg h]
theorem Cl {B B':Nat} {a b:World} (h:Below B' a b) (hl:B≤B'):Below B a b:=⟨h.os,h.tape,h.output,h.size,fun k hk=>h.block k (by omega)⟩
theorem Zym (s:ByteArray) (w:World) :
  Calls Tryz.prog 231 #[.string s,.func (.func 232) #[] #[]] w fun e w'=>e=.returned (.bool (Y5 Sh s s.size 0&&!(s.data.toList==[])))∧Below w.heap.size w w':=by
 go_enter Tryz.func231,Tryz.ntmps231
 go_wp2
 go_loopw [] (fun wr=>∃ pos fuel:Nat,wr.heap[w.heap.size]?=some (.stringIter s pos)∧Below w.heap.size w wr∧Hid (Y5 Sh s fuel pos=Y5 Sh s s.size 0)∧s.size≤pos+fuel) (fun wr=>s.size-wr.iterPos w.heap.size)
 case atStart=>exact ⟨0,s.size,World.iter_heap w s 0,(Below.refl _ _).alloc (Zr _) _,rfl,by omega⟩
 case round =>
  obtain ⟨pos,fuel,L9,Qoz,HS,hb⟩:=hrel;have Zmt:=iterPos_of L9;by_cases hp:pos<s.size
  ·have dN:∀ ty,(Instr.next (.pointer (some ⟨w.heap.size,0,none⟩)) true ty).run Tryz.prog wr=_:=fun ty=>Lib.run_next_any_at wr w.heap.size s pos ty L9 hp;have Jam:=Zcj s pos hp;obtain ⟨fuel,rfl⟩:∃ f',fuel=f'+1:=⟨fuel-1,by omega⟩
   have Zhu:=Lib.iterAt_heap wr w.heap.size s pos (pos+(Utf8.decode s pos).2) L9;have Za1:=Lib.below_iterAt Qoz (k:=w.heap.size) (Zr _) s (pos+(Utf8.decode s pos).2);obtain ⟨W1,Qtz⟩:∃ W1,W1=wr.iterAt w.heap.size s (pos+(Utf8.decode s pos).2):=⟨_,rfl⟩;rw [←Qtz] at dN Zhu Za1;have Zv:w.heap.size<W1.heap.size:=lt_of_block Zhu;clear Qtz L9 Qoz;by_cases h0:pos=0
   ·subst h0;cases hr:Sh ((Utf8.decode s 0).1:Int) with
    | false =>
     go_wp2_with (go_at_call 232;refine (kC _ _).mono ?_;rintro e W2 ⟨rfl,aB⟩;simp only [hr])
     go_ret
     refine ⟨?_,Za1.trans (Cl aB (by first|omega|(simp;omega)|exact Zv|exact Nat.le_of_lt Zv))⟩
     have e0:Y5 Sh s s.size 0=false:=by rw [←HS.out];simp [Y5,hp,hr]
     rw [e0,Bool.false_and];rfl
    | true =>
     go_wp2_with (go_at_call 232;refine (kC _ _).mono ?_;rintro e W2 ⟨rfl,aB⟩;simp only [hr])
     have Zay:W2.heap[w.heap.size]?=some (.stringIter s (0+(Utf8.decode s 0).2)):=(aB.block w.heap.size (by first|omega|(simp;omega)|exact Zv|exact Nat.le_of_lt Zv)).trans Zhu
     refine ⟨⟨_,fuel,Zay,Za1.trans (Cl aB (by first|omega|(simp;omega)|exact Zv|exact Nat.le_of_lt Zv)),?_,by omega⟩,?_⟩
     ·show _=_;rw [←HS.out];simp [Y5,hp,hr]
     ·rw [iterPos_of Zay,Zmt];omega
   ·have Qut:((pos:Int)==0)=false:=by rw [Za];omega
    have Jax:(decide ((pos:Int) > 0))=true:=by rw [decide_eq_true_eq];omega
    have Qoe:(pos==0)=false:=by rw [Za];exact h0
    cases hr:Tv ((Utf8.decode s pos).1:Int) with
    | false =>
     go_wp2_with (go_at_call 256;refine (L3 _ _).mono ?_;rintro e W2 ⟨rfl,aB⟩;simp only [hr])
     go_ret
     refine ⟨?_,Za1.trans (Cl aB (by first|omega|(simp;omega)|exact Zv|exact Nat.le_of_lt Zv))⟩
     have e0:Y5 Sh s s.size 0=false:=by rw [←HS.out];simp [Y5,hp,hr,Qoe]
     rw [e0,Bool.false_and];rfl
    | true =>
     go_wp2_with (go_at_call 256;refine (L3 _ _).mono ?_;rintro e W2 ⟨rfl,aB⟩;simp only [hr])
     have Zay:W2.heap[w.heap.size]?=some (.stringIter s (pos+(Utf8.decode s pos).2)):=(aB.block w.heap.size (by first|omega|(simp;omega)|exact Zv|exact Nat.le_of_lt Zv)).trans Zhu
     refine ⟨⟨_,fuel,Zay,Za1.trans (Cl aB (by first|omega|(simp;omega)|exact Zv|exact Nat.le_of_lt Zv)),?_,by omega⟩,?_⟩
     ·show _=_;rw [←HS.out];simp [Y5,hp,hr,Qoe]
     ·rw [iterPos_of Zay,Zmt];omega
  ·have dN:∀ ty,(Instr.next (.pointer (some ⟨w.heap.size,0,none⟩)) true ty).run Tryz.prog wr=_:=fun ty=>Lib.run_next_end_at wr w.heap.size s pos ty L9 hp
   go_wp2
   go_ret
   refine ⟨?_,Qoz⟩;rw [←HS.out,lU hp,Bool.true_and]
   congr 2
   rw [ByteArray.toList_mk];cases s.data.toList<;>rfl
theorem Zyn (s:ByteArray) (w:World) :
  Calls Tryz.prog 231 #[.string s,.func (.func 233) #[] #[]] w fun e w'=>e=.returned (.bool (Y5 Su s s.size 0&&!(s.data.toList==[])))∧Below w.heap.size w w':=by
 go_enter Tryz.func231,Tryz.ntmps231
 go_wp2
 go_loopw [] (fun wr=>∃ pos fuel:Nat,wr.heap[w.heap.size]?=some (.stringIter s pos)∧Below w.heap.size w wr∧Hid (Y5 Su s fuel pos=Y5 Su s s.size 0)∧s.size≤pos+fuel) (fun wr=>s.size-wr.iterPos w.heap.size)
 case atStart=>exact ⟨0,s.size,World.iter_heap w s 0,(Below.refl _ _).alloc (Zr _) _,rfl,by omega⟩
 case round =>
  obtain ⟨pos,fuel,L9,Qoz,HS,hb⟩:=hrel;have Zmt:=iterPos_of L9;by_cases hp:pos<s.size
  ·have dN:∀ ty,(Instr.next (.pointer (some ⟨w.heap.size,0,none⟩)) true ty).run Tryz.prog wr=_:=fun ty=>Lib.run_next_any_at wr w.heap.size s pos ty L9 hp;have Jam:=Zcj s pos hp;obtain ⟨fuel,rfl⟩:∃ f',fuel=f'+1:=⟨fuel-1,by omega⟩
   have Zhu:=Lib.iterAt_heap wr w.heap.size s pos (pos+(Utf8.decode s pos).2) L9;have Za1:=Lib.below_iterAt Qoz (k:=w.heap.size) (Zr _) s (pos+(Utf8.decode s pos).2);obtain ⟨W1,Qtz⟩:∃ W1,W1=wr.iterAt w.heap.size s (pos+(Utf8.decode s pos).2):=⟨_,rfl⟩;rw [←Qtz] at dN Zhu Za1;have Zv:w.heap.size<W1.heap.size:=lt_of_block Zhu;clear Qtz L9 Qoz;by_cases h0:pos=0
   ·subst h0;cases hr:Su ((Utf8.decode s 0).1:Int) with
    | false =>
     go_wp2_with (go_at_call 233;refine (kD _ _).mono ?_;rintro e W2 ⟨rfl,aB⟩;simp only [hr])
     go_ret
     refine ⟨?_,Za1.trans (Cl aB (by first|omega|(simp;omega)|exact Zv|exact Nat.le_of_lt Zv))⟩
     have e0:Y5 Su s s.size 0=false:=by rw [←HS.out];simp [Y5,hp,hr]
     rw [e0,Bool.false_and];rfl
    | true =>
     go_wp2_with (go_at_call 233;refine (kD _ _).mono ?_;rintro e W2 ⟨rfl,aB⟩;simp only [hr])
     have Zay:W2.heap[w.heap.size]?=some (.stringIter s (0+(Utf8.decode s 0).2)):=(aB.block w.heap.size (by first|omega|(simp;omega)|exact Zv|exact Nat.le_of_lt Zv)).trans Zhu
     refine ⟨⟨_,fuel,Zay,Za1.trans (Cl aB (by first|omega|(simp;omega)|exact Zv|exact Nat.le_of_lt Zv)),?_,by omega⟩,?_⟩
     ·show _=_;rw [←HS.out];simp [Y5,hp,hr]
     ·rw [iterPos_of Zay,Zmt];omega
   ·have Qut:((pos:Int)==0)=false:=by rw [Za];omega
    have Jax:(decide ((pos:Int) > 0))=true:=by rw [decide_eq_true_eq];omega
    have Qoe:(pos==0)=false:=by rw [Za];exact h0
    cases hr:Tv ((Utf8.decode s pos).1:Int) with
    | false =>
     go_wp2_with (go_at_call 256;refine (L3 _ _).mono ?_;rintro e W2 ⟨rfl,aB⟩;simp only [hr])
     go_ret
     refine ⟨?_,Za1.trans (Cl aB (by first|omega|(simp;omega)|exact Zv|exact Nat.le_of_lt Zv))⟩
     have e0:Y5 Su s s.size 0=false:=by rw [←HS.out];simp [Y5,hp,hr,Qoe]
     rw [e0,Bool.false_and];rfl
    | true =>
     go_wp2_with (go_at_call 256;refine (L3 _ _).mono ?_;rintro e W2 ⟨rfl,aB⟩;simp only [hr])
     have Zay:W2.heap[w.heap.size]?=some (.stringIter s (pos+(Utf8.decode s pos).2)):=(aB.block w.heap.size (by first|omega|(simp;omega)|exact Zv|exact Nat.le_of_lt Zv)).trans Zhu
     refine ⟨⟨_,fuel,Zay,Za1.trans (Cl aB (by first|omega|(simp;omega)|exact Zv|exact Nat.le_of_lt Zv)),?_,by omega⟩,?_⟩
     ·show _=_;rw [←HS.out];simp [Y5,hp,hr,Qoe]
     ·rw [iterPos_of Zay,Zmt];omega
  ·have dN:∀ ty,(Instr.next (.pointer (some ⟨w.heap.size,0,none⟩)) true ty).run Tryz.prog wr=_:=fun ty=>Lib.run_next_end_at wr w.heap.size s pos ty L9 hp
   go_wp2
   go_ret
   refine ⟨?_,Qoz⟩;rw [←HS.out,lU hp,Bool.true_and]
   congr 2
   rw [ByteArray.toList_mk];cases s.data.toList<;>rfl
theorem Qg9 (s:ByteArray) (pos:Nat) (h:pos<s.size):s.get! (pos+0)=s.data.toList[pos]'(by simpa using h):=by
 show s.get! pos=_;simp [ByteArray.get!,getElem!_pos,h]
theorem zE {s:ByteArray} {pos:Nat} (h:pos<s.size) (hc:(s.data.toList[pos]'(by simpa using h)).toNat<128):Utf8.decode s pos=((s.data.toList[pos]'(by simpa using h)).toNat,1):=by
 simp only [Utf8.decode,Qg9 s pos h,if_pos hc]
theorem tU {s:ByteArray} {pos:Nat} (h:pos<s.size) (hc:¬ (s.data.toList[pos]'(by simpa using h)).toNat<128):128≤(Utf8.decode s pos).1:=by
 simp only [Utf8.decode,Qg9 s pos h,if_neg hc,Utf8.runeError];repeat' split
 all_goals simp_all
 all_goals omega
theorem Zl5 {c:UInt8} (h:c.toNat<128):Tv (c.toNat:Int)=behind c:=by
 have:∀ c:Fin 256,Tv ((c.val:Nat):Int)=behind (UInt8.ofNat c.val):=by decide +kernel
 have:=this ⟨c.toNat,c.toNat_lt⟩;simpa using this
theorem Zg4 {r:Nat} (h:128≤r):Tv (r:Int)=false:=by
 simp [Tv,Sh,Su,Xp];omega
theorem Zl4 {c:UInt8} (h:¬ c.toNat<128):behind c=false:=by
 have:∀ c:Fin 256,128≤c.val→behind (UInt8.ofNat c.val)=false:=by decide +kernel
 have:=this ⟨c.toNat,c.toNat_lt⟩ (by simp;omega)
 simpa using this
theorem kW {p:Int→Bool} {s:ByteArray}:∀ {n pos:Nat},0<pos→s.size≤pos+n→Y5 p s n pos=B8 (s.data.toList.drop pos)
 | 0,pos,h0,h=>by
  rw [List.drop_eq_nil_of_le (by simpa using h)]
  rfl
 | n+1,pos,h0,h=>by
  by_cases hp:pos<s.size
  ·have hl:pos<s.data.toList.length:=by simpa using hp
   rw [Y5,if_pos hp,List.drop_eq_getElem_cons hl];have hz:(pos==0)=false:=by rw [Za];omega
   rw [hz,cond_false];unfold B8;rw [List.all_cons];by_cases hc:(s.data.toList[pos]'hl).toNat<128
   ·rw [zE hp hc,Zl5 hc];simp only;rw [kW (by omega) (by omega)]
    rfl
   ·rw [Zg4 (tU hp hc),Zl4 hc,Bool.false_and,Bool.false_and]
  ·rw [lU hp,List.drop_eq_nil_of_le (by simpa using hp)]
   rfl
theorem Qbc {p:Int→Bool} {q:UInt8→Bool} (h1:∀ c:UInt8,c.toNat<128→p (c.toNat:Int)=q c) (h2:∀ r:Nat,128≤r→p (r:Int)=false) (h3:∀ c:UInt8,¬ c.toNat<128→q c=false) (s:ByteArray) :
  (Y5 p s s.size 0&&!(s.data.toList==[]))=match s.data.toList with
  | []=>false
  | c::r=>q c&&B8 r:=by
 have My:s.size=s.data.toList.length:=by simp
 obtain ⟨l,hl⟩:=exq (s.data.toList);cases l with
 | nil=>rw [hl];simp
 | cons c r =>
  have hn:s.size=r.length+1:=by rw [My,hl];simp
  have h0:0<s.size:=by omega
  have hc:s.data.toList[0]'(by rw [←My];exact h0)=c:=by simp [hl]
  have hd:s.data.toList.drop 1=r:=by rw [hl];rfl
  rw [show Y5 p s s.size 0=Y5 p s (r.length+1) 0 by rw [hn],Y5,if_pos h0,hl]
  simp only [beq_self_eq_true,cond_true];by_cases h:c.toNat<128
  ·rw [zE h0 (by rw [hc];exact h),hc,h1 c h]
   simp only [Nat.zero_add];rw [kW (by omega) (by omega),hd]
   simp
  ·rw [h2 _ (tU h0 (by rw [hc];exact h)),h3 c h]
   simp
theorem kY {f:FuncId} {con:Con} (he:Oa Tryz.prog f)
  (h:∀ Ji,con.pre Ji→∃ (xs:List D) (b:Bool),Ji=xs.map .d∧con.fn Ji=.d (.bool b)∧∀ (F:Fix) (vs:List Value) (w:World),Uw F (xs.map .d) vs→Calls Tryz.prog f vs.toArray w fun e w'=>e=.returned (.bool b)∧Below w.heap.size w w'):Qc Tryz.prog (f,con):=by
 refine ⟨he,?_⟩;intro m w Ji vs Zh Znc qF N5;obtain ⟨xs,b,rfl,sN,hc⟩:=h Ji Zh;refine (hc _ vs w Znc).mono ?_;rintro e w' ⟨rfl,hb⟩;refine ⟨_,m,rfl,⟨hb.os,hb.tape,hb.output,hb.size,fun k hk _=>hb.block k hk⟩,fun _ _ _=>rfl,fun k hk=>N5 k (by have:=hb.size;omega),?_⟩
 change Zm5 _ _ _ (con.fn (xs.map .d)) _
 rw [sN];simp only [Zm5,Uw,Ze1,R];refine ⟨⟨_,[],rfl,rfl,rfl⟩,fun k hk=>?_⟩;have:Jc ([D.bool b].map .d) [Value.bool b]=[]:=Ok _ _
 change k∈Jc ([D.bool b].map .d) [Value.bool b] at hk
 rw [this] at hk;cases hk
theorem mP (a b c:UInt8):X8 c a b=(Xp (a.toNat:Int) (c.toNat:Int)&&Xp (c.toNat:Int) (b.toNat:Int)):=by rw [Gz,Gz];rfl
def Zei:Con:=Jy (fun (_:List UInt8) (_:Fn0 232)=>True) (fun s _=>Wr s)
theorem Zyd:Qc Tryz.prog (231,Zei):=by
 refine kY (Jv Tryz.func231 (by kernel_rfl) rfl) fun Ji Zh=>?_
 obtain ⟨s,f,rfl,-⟩:=Qf Zh;refine ⟨[.str s,.clo 232 []],Wr s,rfl,rfl,fun F vs w Znc=>?_⟩;simp only [List.map,Uw,Ze1,R,Rs] at Znc;obtain ⟨v1,r1,rfl,rfl,v2,r2,rfl,⟨cs,rfl,rfl⟩,rfl⟩:=Znc;have h:=Qbc (p:=Sh) (q:=fun c=>X8 c 97 122) (fun c _=>(mP 97 122 c).symm) (fun r hr=>by simp [Sh,Xp];omega) (fun c hc=>by rw [mP];simp [Xp];omega) ⟨s.toArray⟩
 refine (Zym ⟨s.toArray⟩ w).mono ?_;rintro e w' ⟨rfl,hb⟩;refine ⟨?_,hb⟩;rw [h];cases s<;>rfl
def Zeh:Con:=Jy (fun (_:List UInt8) (_:Fn0 233)=>True) (fun s _=>Mm s)
theorem Zyc:Qc Tryz.prog (231,Zeh):=by
 refine kY (Jv Tryz.func231 (by kernel_rfl) rfl) fun Ji Zh=>?_
 obtain ⟨s,f,rfl,-⟩:=Qf Zh;refine ⟨[.str s,.clo 233 []],Mm s,rfl,rfl,fun F vs w Znc=>?_⟩;simp only [List.map,Uw,Ze1,R,Rs] at Znc;obtain ⟨v1,r1,rfl,rfl,v2,r2,rfl,⟨cs,rfl,rfl⟩,rfl⟩:=Znc;have h:=Qbc (p:=Su) (q:=fun c=>X8 c 65 90) (fun c _=>(mP 65 90 c).symm) (fun r hr=>by simp [Su,Xp];omega) (fun c hc=>by rw [mP];simp [Xp];omega) ⟨s.toArray⟩
 refine (Zyn ⟨s.toArray⟩ w).mono ?_;rintro e w' ⟨rfl,hb⟩;refine ⟨?_,hb⟩;rw [h];cases s<;>rfl
def Im:Con:=Xj (fun (_:List UInt8)=>True) (fun s=>Wr s)
theorem Zgm:Qc Tryz.prog (193,Im):=by
 obtain ⟨Kx,Kt,Kc,Kd,Kb,Ku,Kw,K,X4,_⟩:=J7 Zx Zo [] false (Q1 Zyd Zei.eq_def J5);have Ko:=Im.eq_def;refine J9 K Tryz.func193 [.tmp 2] rfl 5 rfl (fun c hc Ji Zh=>?_);unfold Im at Zh;obtain ⟨s,rfl,-⟩:=Q8 Zh;cases hc;have Qk:=@Gm;exact qB
def cF:Con:=Xj (fun (_:List UInt8)=>True) (fun s=>Mm s)
theorem Zk5:Qc Tryz.prog (194,cF):=by
 obtain ⟨Kx,Kt,Kc,Kd,Kb,Ku,Kw,K,X4,_⟩:=J7 Zx Zo [] false (Q1 Zyc Zeh.eq_def J5);have Ko:=cF.eq_def;refine J9 K Tryz.func194 [.tmp 2] rfl 5 rfl (fun c hc Ji Zh=>?_);unfold cF at Zh;obtain ⟨s,rfl,-⟩:=Q8 Zh;cases hc;have Qk:=@Gm;exact qB
def A7:Con:=Xj (fun (_:Node)=>True) (fun n=>V0 n)
class KbM:Prop
theorem KbM.k (_:KbM) (h:p:=by
 unfold V0;repeat' first|exact M7|with_reducible apply Zw|intro _
 all_goals
  rw [Bool.eq_iff_iff];repeat' split
  all_goals first|(exfalso;omega)|(simp only [Xp,Wd,Zg,decide_eq_true_eq,Zj,Zu];omega)|(simp only [Xp,Wd,Zg,decide_eq_true_eq,Zj,Zu,false_iff];omega)|(simp only [Xp,Wd,Zg,decide_eq_true_eq,Zj,Zu];done)):p:=h
theorem good_isNodeT:Qc Tryz.prog (162,A7):=by
 obtain ⟨Kx,Kt,Kc,Kd,Kb,Ku,Kw,K,_⟩:=J7 Zx Zo [] false J5;have Ko:=A7.eq_def;refine J9 K Tryz.func162 [.tmp 2] rfl 45 rfl (fun c hc Ji Zh=>?_);unfold A7 at Zh;obtain ⟨n,rfl,-⟩:=Q8 Zh;cases hc;refine W5 2 ?_;have Kq:KbM:=⟨⟩;exact Ae
def Zx2 (k:Int) (s:List UInt8):Bool:=if k=6 then Wr s else if k=7 then Mm s else s==[]
def Dw:Con:=Jy (fun (_:Int) (_:List UInt8)=>True) Zx2
class KbN:Prop
theorem KbN.k (_:KbN) (h:p:=by
 unfold Zx2;repeat' first|exact M7|with_reducible apply Zw|intro _
 all_goals simp_all):p:=h
theorem good_isLabelT:Qc Tryz.prog (165,Dw):=by
 obtain ⟨Kx,Kt,Kc,Kd,Kb,Ku,Kw,K,X4,V2,_⟩:=J7 Zx Zo [] false (Q1 Zgm Im.eq_def (Q1 Zk5 cF.eq_def J5));have Ko:=Dw.eq_def;refine J9 K Tryz.func165 [.tmp 4] rfl 16 rfl (fun c hc Ji Zh=>?_);unfold Dw at Zh;obtain ⟨k,s,rfl,-⟩:=Qf Zh;cases hc;have Kq:KbN:=⟨⟩;exact Ae
def Ea (p:Node) (k:Nat) (x:Node) (last:List UInt8):Bool :=
 cond (x.kind==9) (cond (!Gl p) true (cond (Wd (k:Int) (p.n-1)) true (!(x.name==[]))))
  (cond (!Zx2 p.kind x.name) true (cond (Gl p) (Op.bytesLess x.name last||x.name==last) false))
def Ov (t:List Node) (tr:Nat→Bool×Nat) (p:Node):Nat→Nat→List UInt8→Nat→Bool×Nat
 | 0,_,_,at_=>(true,at_)
 | m+1,k,last,at_=>cond (Xp (t.length:Int) at_) (false,at_)
   (cond (Ea p k (t.getD at_ n0) last) (false,at_)
    (cond (tr at_).1 (Ov t tr p m (k+1) (t.getD at_ n0).name (tr at_).2) (false,(tr at_).2)))
def Uz (t:List Node):Nat→Nat→Bool×Nat
 | 0,at_=>(false,at_)
 | f+1,at_=>cond (Xp (t.length:Int) at_) (false,at_)
   (cond (V0 (t.getD at_ n0)) (Ov t (Uz t f) (t.getD at_ n0) (ar (t.getD at_ n0)) 0 [] (at_+1)) (false,at_))
structure TX where
 t:List Node
 i:Nat
 f:Nat
 d:Int
def Vo (t:List Node) (i:Nat):List Obj:=[.box false [.d (.int .i64 i)],.box false [.d (.list 3 (t.map enc))],.box false [.clo 161 [.ref 90000 0,.ref 90001 0,.ref 90002 0]]]
theorem X5 {t:List Node} {i:Nat}:Vo t i=[.box false [.d (.int .i64 i)],.box false [.d (.list 3 (t.map enc))],.box false [.clo 161 [.ref 90000 0,.ref 90001 0,.ref 90002 0]]]:=rfl
def X6 (n:Nat):BCon where
 X:=TX
 ok x:=x.t.length≤1000000∧Ym x.t∧x.f≤100∧x.d=101-x.f∧x.f<n
 args x:=[.d (.int .i64 x.d),.ref 90000 0,.ref 90001 0,.ref 90002 0]
 objs x:=Vo x.t x.i
 res x:=.bool (Uz x.t x.f x.i).1
 post x:=Vo x.t (Uz x.t x.f x.i).2
theorem vV:∀ x,¬ (X6 0).ok x:=by
 rintro x ⟨_,_,_,_,h⟩;omega
theorem kN {n:Nat} {t:List Node} {i f:Nat} {d:Int}:(X6 n).post ⟨t,i,f,d⟩=Vo t (Uz t f i).2:=rfl
theorem qL {n:Nat} {t:List Node} {i f:Nat} {d:Int}:(X6 n).res ⟨t,i,f,d⟩=.bool (Uz t f i).1:=rfl
theorem Zjs {p:Node} (h:V0 p=true) (hr:Gl p=true):0≤p.n∧p.n≤50:=by
 unfold Gl at hr;rw [Bool.or_eq_true,Zj,Zj] at hr;unfold V0 at h;rw [if_neg (by omega),if_neg (by omega)] at h
 split at h
 ·simp only [Zg,decide_eq_true_eq] at h;exact h
 ·rw [if_pos (by omega)] at h
  simp only [Zg,decide_eq_true_eq] at h;omega
theorem Lz:Qbn 3 [90000,90001,90002]:=by
 intro j hj
 match j,hj with
 | 0,_=>rfl
 | 1,_=>rfl
 | 2,_=>rfl
class KbO:Prop
theorem KbO.k (_:KbO) (h:p:=by
 refine ⟨[90000,90001,90002],by simp,rfl,Lz,?_⟩
 simp [Jd,lk,Cw,rnA,rnAs,rk]):p:=h
class KbP:Prop
theorem KbP.k (_:KbP) (h:p:=by
 refine ⟨[90000,90001,90002],by simp,rfl,Lz,?_⟩
 simp [Jd,lk,Cw,rnA,rnAs,rk]):p:=h
class KbQ:Prop
theorem KbQ.k (_:KbQ) (h:p:=by
 refine ⟨[90000,90001,90002],by simp,rfl,Lz,?_⟩
 simp [Jd,lk,Cw,rnA,rnAs,rk]):p:=h
class KbR:Prop
theorem KbR.k (_:KbR) (h:p:=by
 refine ⟨[90000,90001,90002],by simp,rfl,Lz,?_⟩
 simp [Jd,lk,Cw,rnA,rnAs,rk]):p:=h
class KbT:Prop
theorem KbT.k (_:KbT) (h:p:=by
 refine ⟨[90000,90001,90002],by simp,rfl,Lz,?_⟩
 simp [Jd,lk,Cw,rnA,rnAs,rk]):p:=h
class KbU:Prop
theorem KbU.k (_:KbU) (h:p:=by
 refine ⟨[90000,90001,90002],by simp,rfl,Lz,?_⟩
 simp [Jd,lk,Cw,rnA,rnAs,rk]):p:=h
class KbV:Prop
theorem KbV.k (_:KbV) (h:p:=by
 refine ⟨[90000,90001,90002],by simp,rfl,Lz,?_⟩
 simp [Jd,lk,Cw,rnA,rnAs,rk]):p:=h
class KbW:Prop
theorem KbW.k (_:KbW) (h:p:=by
 refine ⟨[90000,90001,90002],by simp,rfl,Lz,?_⟩
 simp [Jd,lk,Cw,rnA,rnAs,rk]):p:=h
class KbY:Prop
theorem KbY.k (_:KbY) (h:p:=by
 refine ⟨[90000,90001,90002],by simp,rfl,Lz,?_⟩
 simp [Jd,lk,Cw,rnA,rnAs,rk]):p:=h
class KbZ:Prop
theorem KbZ.k (_:KbZ) (h:p:=by
 refine ⟨(k+1,x.name,w2),by exact Qt,by simp only;omega,?_,by simp only;omega⟩
 simp only;rw [show ar p-(k+1)=m by omega]
 exact hR):p:=h
class KbX:Prop
theorem KbX.k (_:KbX) (h:p:=by
 refine O9 (bc:=X6 n) ⟨t,j,f,d+1⟩ [90000,90001,90002] ⟨ht,hN,by simp only;omega,by simp only;omega,by simp only;omega⟩ rfl (by simp) (by rw [Z6];rfl) ?_ ?_ ?_
 ·show Jd _ _ (Vo t j) _;rw [X5];simp [Jd,lk,Cw,rnA,rnAs,rk]
 ·show Wi (List.drop (Vo t j).length _) _;rw [X5];simp [Wi,lk]
 cases w1 with
 | false =>
  rw [cond_false] at hR;injection hR with Zhn jJ
  subst Zhn;subst jJ;have Qx:=@X5;have Kq:KbY:=⟨⟩;exact Xv
 | true =>
  rw [cond_true] at hR;have Qx:=@X5;have Kq:KbZ:=⟨⟩;exact Xv):p:=h
class Kca:Prop
theorem Kca.k (_:Kca) (h:p:=by
 refine ⟨[90000,90001,90002],by simp,rfl,Lz,?_⟩
 simp [Jd,lk,Cw,rnA,rnAs,rk]):p:=h
class Kcc:Prop
theorem Kcc.k (_:Kcc) (h:p:=by
 refine ⟨[90000,90001,90002],by simp,rfl,Lz,?_⟩
 simp [Jd,lk,Cw,rnA,rnAs,rk]):p:=h
class Kcd:Prop
theorem Kcd.k (_:Kcd) (h:p:=by
 refine ⟨(k+1,x.name,w2),by exact Qt,by simp only;omega,?_,by simp only;omega⟩
 simp only;rw [show ar p-(k+1)=m by omega]
 exact hR):p:=h
class Kcb:Prop
theorem Kcb.k (_:Kcb) (h:p:=by
 refine O9 (bc:=X6 n) ⟨t,j,f,d+1⟩ [90000,90001,90002] ⟨ht,hN,by simp only;omega,by simp only;omega,by simp only;omega⟩ rfl (by simp) (by rw [Z6];rfl) ?_ ?_ ?_
 ·show Jd _ _ (Vo t j) _;rw [X5];simp [Jd,lk,Cw,rnA,rnAs,rk]
 ·show Wi (List.drop (Vo t j).length _) _;rw [X5];simp [Wi,lk]
 cases w1 with
 | false =>
  rw [cond_false] at hR;injection hR with Zhn jJ
  subst Zhn;subst jJ;have Qx:=@X5;have Kq:Kcc:=⟨⟩;exact Xv
 | true =>
  rw [cond_true] at hR;have Qx:=@X5;have Kq:Kcd:=⟨⟩;exact Xv):p:=h
class Kce:Prop
theorem Kce.k (_:Kce) (h:p:=by
 refine ⟨[90000,90001,90002],by simp,rfl,Lz,?_⟩
 simp [Jd,lk,Cw,rnA,rnAs,rk]):p:=h
class Kcg:Prop
theorem Kcg.k (_:Kcg) (h:p:=by
 refine ⟨[90000,90001,90002],by simp,rfl,Lz,?_⟩
 simp [Jd,lk,Cw,rnA,rnAs,rk]):p:=h
class Kch:Prop
theorem Kch.k (_:Kch) (h:p:=by
 refine ⟨(k+1,x.name,w2),by exact Qt,by simp only;omega,?_,by simp only;omega⟩
 simp only;rw [show ar p-(k+1)=m by omega]
 exact hR):p:=h
class Kcf:Prop
theorem Kcf.k (_:Kcf) (h:p:=by
 refine O9 (bc:=X6 n) ⟨t,j,f,d+1⟩ [90000,90001,90002] ⟨ht,hN,by simp only;omega,by simp only;omega,by simp only;omega⟩ rfl (by simp) (by rw [Z6];rfl) ?_ ?_ ?_
 ·show Jd _ _ (Vo t j) _;rw [X5];simp [Jd,lk,Cw,rnA,rnAs,rk]
 ·show Wi (List.drop (Vo t j).length _) _;rw [X5];simp [Wi,lk]
 cases w1 with
 | false =>
  rw [cond_false] at hR;injection hR with Zhn jJ
  subst Zhn;subst jJ;have Qx:=@X5;have Kq:Kcg:=⟨⟩;exact Xv
 | true =>
  rw [cond_true] at hR;have Qx:=@X5;have Kq:Kch:=⟨⟩;exact Xv):p:=h
class Kci:Prop
theorem Kci.k (_:Kci) (h:p:=by
 refine ⟨[90000,90001,90002],by simp,rfl,Lz,?_⟩
 simp [Jd,lk,Cw,rnA,rnAs,rk]):p:=h
class KbS:Prop
theorem KbS.k (_:KbS) (h:p:=by
 refine Zm [5,8,9,35,36,37,38,39,40,41,42,43,44,45,46,47,48,49,50,51,52,53,54,55,56,57,58,59,60,61,62,63,64,65,66,67,68,69,70,71,72,73,74,75,76,77,78,79,80,81,82,83,84,85,86,87,88] (fun q:Nat×List UInt8×Nat=>[(7,.d (.str q.2.1)),(34,.d (.int .i64 q.1))]) (fun q:Nat×List UInt8×Nat=>[(90000,.box false [.d (.int .i64 q.2.2)])]) (fun q:Nat×List UInt8×Nat=>q.1≤ar p∧Ov t (Uz t f) p (ar p-q.1) q.1 q.2.1 q.2.2=(r1,r2)) (fun q:Nat×List UInt8×Nat=>ar p-q.1) (0,[],i+1) ?_ ?_ ?_
 ·exact ⟨Nat.zero_le _,hr⟩
 ·exact Qt
 rintro ⟨k,last,j⟩ ⟨hk,hR⟩;simp only at hk hR;rcases Zn k (ar p) with ⟨Zv,Ql⟩|⟨Zv,Ql⟩
 ·obtain ⟨m,hm⟩:∃ m,ar p-k=m+1:=⟨ar p-k-1,by omega⟩
  rw [hm,Ov] at hR;rcases Ou t.length j with ⟨Qwl,Qp⟩|⟨Qwl,Qp⟩
  ·rw [Qp,cond_true] at hR;injection hR with Zhn jJ
   subst Zhn;subst jJ;have Kq:KbT:=⟨⟩;exact Xv
  rw [Qp,cond_false] at hR;have C6:j<t.length:=by omega
  have Qv:=Zp n0 C6;obtain ⟨x,hx⟩:=exq (t.getD j n0);rw [hx] at Qv hR;cases Q3:(x.kind==9) with
  | true =>
   cases Jh:Gl p with
   | false =>
    have hb:Ea p k x last=true:=by simp only [Ea,Q3,Jh,cond_true,cond_false,Bool.not_true,Bool.not_false]
    rw [hb,cond_true] at hR;injection hR with Zhn jJ
    subst Zhn;subst jJ;have Kq:KbU:=⟨⟩;exact Xv
   | true =>
    have Qoe:=Zjs Qn Jh;cases Jb:Wd (k:Int) (p.n-1) with
    | true =>
     have hb:Ea p k x last=true:=by simp only [Ea,Q3,Jh,Jb,cond_true,cond_false,Bool.not_true,Bool.not_false]
     rw [hb,cond_true] at hR;injection hR with Zhn jJ
     subst Zhn;subst jJ;have Kq:KbV:=⟨⟩;exact Xv
    | false =>
     cases Z3:(x.name==[]) with
     | false =>
      have hb:Ea p k x last=true:=by simp only [Ea,Q3,Jh,Jb,Z3,cond_true,cond_false,Bool.not_true,Bool.not_false]
      rw [hb,cond_true] at hR;injection hR with Zhn jJ
      subst Zhn;subst jJ;have Kq:KbW:=⟨⟩;exact Xv
     | true =>
      have hb:Ea p k x last=false:=by simp only [Ea,Q3,Jh,Jb,Z3,cond_true,cond_false,Bool.not_true,Bool.not_false]
      rw [hb,cond_false] at hR;obtain ⟨w,hw⟩:=exq (Uz t f j);rw [hw] at hR;obtain ⟨w1,w2⟩:=w;simp only at hR;have Z6:(X6 n).post ⟨t,j,f,d+1⟩=Vo t w2:=by rw [kN,hw]
      have Z7:(X6 n).res ⟨t,j,f,d+1⟩=.bool w1:=by rw [qL,hw]
      have Kq:KbX:=⟨⟩;exact Xv
  | false =>
   cases Qq:Zx2 p.kind x.name with
   | false =>
    have hb:Ea p k x last=true:=by simp only [Ea,Q3,Qq,cond_true,cond_false,Bool.not_true,Bool.not_false]
    rw [hb,cond_true] at hR;injection hR with Zhn jJ
    subst Zhn;subst jJ;have Kq:Kca:=⟨⟩;exact Xv
   | true =>
    cases Jh:Gl p with
    | false =>
     have hb:Ea p k x last=false:=by simp only [Ea,Q3,Qq,Jh,cond_true,cond_false,Bool.not_true,Bool.not_false]
     rw [hb,cond_false] at hR;obtain ⟨w,hw⟩:=exq (Uz t f j);rw [hw] at hR;obtain ⟨w1,w2⟩:=w;simp only at hR;have Z6:(X6 n).post ⟨t,j,f,d+1⟩=Vo t w2:=by rw [kN,hw]
     have Z7:(X6 n).res ⟨t,j,f,d+1⟩=.bool w1:=by rw [qL,hw]
     have Kq:Kcb:=⟨⟩;exact Xv
    | true =>
     cases Qj:(Op.bytesLess x.name last||x.name==last) with
     | true =>
      have hb:Ea p k x last=true:=by simp only [Ea,Q3,Qq,Jh,Qj,cond_true,cond_false,Bool.not_true,Bool.not_false]
      rw [hb,cond_true] at hR;injection hR with Zhn jJ
      subst Zhn;subst jJ;have Kq:Kce:=⟨⟩;exact Xv
     | false =>
      have hb:Ea p k x last=false:=by simp only [Ea,Q3,Qq,Jh,Qj,cond_true,cond_false,Bool.not_true,Bool.not_false]
      rw [hb,cond_false] at hR;obtain ⟨w,hw⟩:=exq (Uz t f j);rw [hw] at hR;obtain ⟨w1,w2⟩:=w;simp only at hR;have Z6:(X6 n).post ⟨t,j,f,d+1⟩=Vo t w2:=by rw [kN,hw]
      have Z7:(X6 n).res ⟨t,j,f,d+1⟩=.bool w1:=by rw [qL,hw]
      have Kq:Kcf:=⟨⟩;exact Xv
 ·have hz:ar p-k=0:=by omega
  rw [hz,Ov] at hR;injection hR with Zhn jJ
  subst Zhn;subst jJ;have Kq:Kci:=⟨⟩;exact Xv):p:=h
theorem stepb_treeT (n:Nat) (ih:dA Tryz.prog (161,X6 n)):dA Tryz.prog (161,(X6 (n+1))):=by
 obtain ⟨Kx,Kt,Kc,Kd,Kb,Ku,Kw,K,X4,V2,Mo,Tx,jB,_⟩:=J7 Zx Zo [] false (Q1 good_manyT Ek.eq_def (Q1 good_isRowT Rq.eq_def (Q1 good_isNodeT A7.eq_def (Q1 good_isLabelT Dw.eq_def (Qpj ih (X6.eq_def n) J5)))));refine Qkf K Tryz.func161 [.tmp 5] rfl 89 rfl (fun c hc x Vt=>?_);obtain ⟨t,i,f,d⟩:=x;obtain ⟨ht,hN,hf,hd,hn⟩:=Vt;simp only at ht hN hf hd hn;refine ⟨?_,?_,?_,?_,?_⟩
 ·show Ah [.d (.int .i64 d),.ref 90000 0,.ref 90001 0,.ref 90002 0] (Vo t i);rw [X5];simp [Ah,Lj,Obj.tied,J4,keptAll,AV.kept,Jq,Bl,lk]
 ·show J4 (Vo t i);rw [X5];simp [J4]
 ·show Ah [] (Vo t (Uz t f i).2);rw [X5];simp [Ah,Lj,Obj.tied,J4,keptAll,AV.kept,Jq,Bl,lk]
 ·show (Vo t i).length≤(Vo t (Uz t f i).2).length;rw [X5,X5];simp
 show Tw Kx c (uK _ _ (Vo t i).length (.bool (Uz t f i).1) (Vo t (Uz t f i).2)) ⟨[.d (.int .i64 d),.ref 90000 0,.ref 90001 0,.ref 90002 0]++Dc 85,Jq (Vo t i)⟩;rw [X5,X5];cases hc;refine W5 5 ?_;cases f with
 | zero =>
  have h0:Uz t 0 i=(false,i):=rfl;rw [h0];have Qo:Wd 100 d=true:=by rw [Jj];omega
  rcases Ou t.length i with ⟨Er,Qk⟩|⟨Er,Qk⟩
  ·have Kq:KbO:=⟨⟩;exact Xv
  ·have Kq:KbP:=⟨⟩;exact Xv
 | succ f =>
  have Qo:Wd 100 d=false:=by rw [Q7];omega
  have Mp:Uz t (f+1) i=cond (Xp (t.length:Int) i) (false,i)
   (cond (V0 (t.getD i n0)) (Ov t (Uz t f) (t.getD i n0) (ar (t.getD i n0)) 0 [] (i+1)) (false,i)):=rfl
  rcases Ou t.length i with ⟨Er,Qk⟩|⟨Er,Qk⟩
  ·rw [Qk,cond_true] at Mp;rw [Mp];have Kq:KbQ:=⟨⟩;exact Xv
  rw [Qk,cond_false] at Mp;have Ai:i<t.length:=by omega
  have Qi:=Zp n0 Ai;obtain ⟨p,hp⟩:=exq (t.getD i n0);rw [hp] at Qi Mp;cases Qn:V0 p with
  | false =>
   rw [Qn,cond_false] at Mp;rw [Mp];have Kq:KbR:=⟨⟩;exact Xv
  | true =>
   have Jcr:ar p≤50:=by have:=(bQ Qn).2;rw [Dl Qn] at this;omega
   rw [Qn,cond_true] at Mp;rw [Mp];obtain ⟨r,hr⟩:=exq (Ov t (Uz t f) p (ar p) 0 [] (i+1));rw [hr];obtain ⟨r1,r2⟩:=r;simp only;have Kq:KbS:=⟨⟩;exact Xv
theorem oC:∀ n,dA Tryz.prog (161,X6 n)
 | 0=>Zx7 (Jv Tryz.func161 (by kernel_rfl) rfl) vV
 | n+1=>stepb_treeT n (oC n)
def N4:BCon:=X6 101
theorem Zgh:dA Tryz.prog (161,N4):=oC _
theorem Ziq {t:List Node} {i f:Nat} {d:Int}:N4.post ⟨t,i,f,d⟩=Vo t (Uz t f i).2:=rfl
theorem Zw3 {t:List Node} {i f:Nat} {d:Int}:N4.res ⟨t,i,f,d⟩=.bool (Uz t f i).1:=rfl
def Ft (t:List Node):Bool:=!Wl t&&((Uz t 100 0).1&&((Uz t 100 0).2:Int)==(t.length:Int))
def cJ:Con:=Xj (fun (t:Sl Node)=>t.l.length≤1000000∧Ym t.l) (fun t=>Ft t.l)
class Kcj:Prop
theorem Kcj.k (_:Kcj) (h:p:=by
 refine O9 (bc:=N4) ⟨t,0,100,1⟩ [3,1,4] ⟨ht,hN,by simp only;omega,by simp only;omega,by simp only;omega⟩ rfl (by simp) (by rw [Qv];rfl) ?_ ?_ ?_
 ·show Jd _ _ (Vo t 0) _;rw [X5];simp [Jd,lk,Cw,rnA,rnAs,rk];rfl
 ·show Wi (List.drop (Vo t 0).length _) _;rw [X5];simp [Wi,lk]
 cases w1 with
 | false =>
  have Qo:Ft t=false:=by rw [hR];rfl
  have Jh:=@X5;exact qB
 | true =>
  have Qo:Ft t=((w2:Int)==(t.length:Int)):=by rw [hR];rfl
  have Jh:=@X5;exact qB):p:=h
theorem good_RightT:Qc Tryz.prog (116,cJ):=by
 obtain ⟨Kx,Kt,Kc,Kd,Kb,Ku,Kw,K,X4,_⟩:=J7 Zx Zo [] false (Qpj Zgh N4.eq_def J5);have Ko:=cJ.eq_def;refine J9 K Tryz.func116 [.tmp 2] rfl 36 rfl (fun c hc Ji Zh=>?_);unfold cJ at Zh;obtain ⟨⟨t⟩,rfl,ht,hN⟩:=Q8 Zh;simp only at ht hN;obtain ⟨w,hw⟩:=exq (Uz t 100 0);obtain ⟨w1,w2⟩:=w;have hR:Ft t=(!Wl t&&(w1&&(w2:Int)==(t.length:Int))):=by unfold Ft;rw [hw]
 cases hc;refine W5 2 ?_;by_cases h0:t.length=0
 ·have hb:Wl t=true:=by unfold Wl;simp [h0]
  have Qo:Ft t=false:=by rw [hR,hb];rfl
  have Qk:((t.length:Int)==0)=true:=by rw [Zj];omega
  exact qB
 have Qk:((t.length:Int)==0)=false:=by rw [Za];omega
 have Qpx:(t.length==0)=false:=by rw [Za];exact h0
 have mH:0<t.length:=by omega
 have Qn:=Qki mH;rcases Y3 10000 t.length with ⟨hl,Qi⟩|⟨hl,Qi⟩
 ·have hb:Wl t=true:=by unfold Wl;rw [Qi];simp
  have Qo:Ft t=false:=by rw [hR,hb];rfl
  exact qB
 cases Ql:((t.getD 0 n0).name==[]) with
 | false =>
  have hb:Wl t=true:=by unfold Wl;rw [Ql];simp
  have Qo:Ft t=false:=by rw [hR,hb];rfl
  exact U3
 | true =>
  cases Qp:((t.getD 0 n0).kind==9) with
  | true =>
   have hb:Wl t=true:=by unfold Wl;rw [Qp];simp
   have Qo:Ft t=false:=by rw [hR,hb];rfl
   exact U3
  | false =>
   have hb:Wl t=false:=by unfold Wl;rw [Qpx,Qi,Ql,Qp];rfl
   rw [hb,Bool.not_false,Bool.true_and] at hR;have Qv:N4.post ⟨t,0,100,1⟩=Vo t w2:=by rw [Ziq,hw]
   have Q3:N4.res ⟨t,0,100,1⟩=.bool w1:=by rw [Zw3,hw]
   have Kq:Kcj:=⟨⟩;exact Xv
theorem less_not (x y:List UInt8):(Op.bytesLess x y||x==y)=!Op.bytesLess y x:=by
 rw [bytesLess_eq,bytesLess_eq,Bool.eq_iff_iff];simp only [Bool.or_eq_true,decide_eq_true_eq,Zj,Bool.not_eq_true',decide_eq_false_iff_not,List.not_lt];constructor
 ·rintro (h|rfl)
  ·exact List.le_of_lt h
  ·exact List.le_refl _
 ·intro h;rcases List.le_iff_lt_or_eq.1 h with h|h
  ·exact .inl h
  ·exact .inr h
theorem Zkh (x:List UInt8):Op.bytesLess x []=false:=by
 rw [bytesLess_eq];simp
theorem Qg4 (p:Node):rL p=Gl p:=rfl
theorem Qax {p x prev:Node} {k m:Nat} {last:List UInt8} (hn:V0 p=true) (hm:m=ar p) (hk:k<m) (Qpx:k=0→last=[]) (Zhs:0<k→last=prev.name) :
  Zgb p x prev (Wd 0 (k:Int)) ((k:Int)==(m:Int)-1)=!Ea p k x last:=by
 unfold Zgb Ea;rw [Qg4];cases h9:(x.kind==9) with
 | true =>
  simp only [cond_true];cases hr:Gl p with
  | false=>rfl
  | true =>
   have Qoe:=Zjs hn hr;have Qjd:(m:Int)=p.n:=by
    have h1:=Dl hn;rw [hm,←h1];unfold Yc;unfold Gl at hr;rw [Bool.or_eq_true,Zj,Zj] at hr;rw [if_neg (by omega),if_pos hr]
   rcases Y3 (k:Int) (p.n-1) with ⟨h1,h2⟩|⟨h1,h2⟩
   ·have:((k:Int)==(m:Int)-1)=false:=by rw [Za];omega
    rw [h2,this];rfl
   ·have:((k:Int)==(m:Int)-1)=true:=by rw [Zj];omega
    rw [h2,this];simp
 | false =>
  simp only [cond_false];have Qms:∀ q:Bool,(q=true→x.name≠[])→(!(!q)&&(!(!true&&!(x.name==[]))&&!(true&&(Wd 0 (k:Int)&&!Op.bytesLess prev.name x.name))))=!cond (!q) true (Op.bytesLess x.name last||x.name==last):=by
   intro q hq;cases q with
   | false=>rfl
   | true =>
    rcases Nat.eq_zero_or_pos k with rfl|kH
    ·rw [Qpx rfl,Zkh];have:(x.name==[])=false:=by rw [Za];exact hq rfl
     rw [this];rfl
    ·have:Wd 0 (k:Int)=true:=by rw [Jj];omega
     rw [this,Zhs kH,less_not];simp
  by_cases h6:p.kind=6
  ·have hr:Gl p=true:=by unfold Gl;simp [h6]
   have:=Qms (Wr x.name) (fun h e=>by rw [e] at h;cases h)
   simp only [Zx2,h6,hr,cond_true] at this ⊢;simpa using this
  ·by_cases h7:p.kind=7
   ·have hr:Gl p=true:=by unfold Gl;simp [h7]
    have:=Qms (Mm x.name) (fun h e=>by rw [e] at h;cases h)
    simp only [Zx2,h7,hr,cond_true] at this ⊢;simpa using this
   ·have hr:Gl p=false:=by unfold Gl;simp [h6,h7]
    simp only [Zx2,if_neg h6,if_neg h7,hr,cond_false,Za.2 h6,Za.2 h7];cases (x.name==[])<;>rfl
def Qdw (ks:List (Rose Node)) (q:Nat):Node:=(ks.getD q (mk n0 [])).root
def jT (ks:List (Rose Node)) (last:List UInt8) (q:Nat):List UInt8:=if q=0 then last else (Qdw ks (q-1)).name
theorem yW {x:Rose Node} {xs:List (Rose Node)} {last:List UInt8} {q:Nat}:jT (x::xs) last (q+1)=jT xs x.root.name q:=by
 unfold jT Qdw;rw [if_neg (by omega)]
 cases q with
 | zero=>rfl
 | succ q=>rw [if_neg (by omega)];rfl
theorem Zkj {p:Node} {ks:List (Rose Node)} (hn:V0 p=true) (hk:ks.length=ar p):Qgz p ks=true↔∀ q,q<ks.length→Ea p q (Qdw ks q) (jT ks [] q)=false:=by
 unfold Qgz;rw [List.all_eq_true];constructor
 ·intro h q hq;have:=h q (List.mem_range.2 hq);rw [Qax hn hk hq (last:=jT ks [] q) (fun e=>by subst e;rfl) (fun e=>by unfold jT;rw [if_neg (by omega)];rfl)] at this
  rw [Bool.not_eq_true'] at this;exact this
 ·intro h q hq;have hq:=List.mem_range.1 hq;rw [Qax hn hk hq (last:=jT ks [] q) (fun e=>by subst e;rfl) (fun e=>by unfold jT;rw [if_neg (by omega)];rfl)]
  have:=h q hq;unfold Qdw at this;rw [this];rfl
theorem Qgu {t:List Node} {i:Nat} (h:i<t.length):Xp (t.length:Int) (i:Int)=false:=by rw [St];omega
mutual
theorem treeR_ok {t:List Node} (hN:Ga t):∀ {x:Rose Node} {i f:Nat},At ar t i x→depth x≤f→labT x=true→Uz t f i=(true,i+(nds x).length)
 | mk n ks,i,f,h,hd,hl=>by
  cases f with
  | zero=>rw [depth] at hd;omega
  | succ f =>
   have Zv:=h.lt;have Zav:t.getD i n0=n:=h.root n0;obtain ⟨jV,aK⟩:=h.kids;simp only [kids,root] at jV aK;rw [depth] at hd;rw [labT,Zg] at hl;have uB:V0 n=true:=by rw [←Zav];exact hN _ (by simp [Zv])
   rw [Uz,Qgu Zv,cond_false,Zav,uB,cond_true,←aK];rw [kidsR_ok hN jV (by omega) hl.2 (fun q hq=>by rw [Nat.zero_add];exact (Zkj uB aK).1 hl.1 q hq),Y2,Zi]
   congr 1
   omega
theorem kidsR_ok {t:List Node} (hN:Ga t):∀ {ks:List (Rose Node)} {p:Node} {k:Nat} {last:List UInt8} {j f:Nat},Zhi ar t j ks→depths ks≤f→labTs ks=true→(∀ q,q<ks.length→Ea p (k+q) (Qdw ks q) (jT ks last q)=false) →
  Ov t (Uz t f) p ks.length k last j=(true,j+(ndss ks).length)
 | [],p,k,last,j,f,_,_,_,_=>by rw [List.length_nil,Ov];simp [ndss]
 | x::xs,p,k,last,j,f,h,hd,hl,hb=>by
  obtain ⟨hx,dM⟩:=h.head;have hj:=hx.lt;rw [depths] at hd;rw [labTs,Zg] at hl;have Qi2:Ea p k x.root last=false:=hb 0 (by simp)
  rw [Zi,Ov,Qgu hj,cond_false,hx.root n0,Qi2,cond_false,treeR_ok hN hx (by omega) hl.1]
  simp only [cond_true];rw [kidsR_ok hN dM (by omega) hl.2 (fun q hq=>by
   have:=hb (q+1) (by simp only [Zi];omega)
   rw [yW] at this;rw [show k+1+q=k+(q+1) by omega]
   exact this),ndss,Ze]
  congr 1
  omega
end
theorem Qh5 {t:List Node} {j:Nat} {x:Rose Node} {xs:List (Rose Node)} (hx:At ar t j x) (dM:Zhi ar t (j+(nds x).length) xs):Zhi ar t j (x::xs):=by
 obtain ⟨h1,r,h2⟩:=hx;obtain ⟨g1,s,g2⟩:=dM;refine ⟨⟨h1,g1⟩,s,?_⟩;rw [←List.drop_drop,h2,List.drop_left'] at g2
 ·rw [h2,g2,ndss,List.append_assoc]
 ·rfl
theorem Qet {t:List Node} {i:Nat} {ks:List (Rose Node)} (hi:i<t.length) (hk:ks.length=ar (t.getD i n0)) (h:Zhi ar t (i+1) ks):At ar t i (mk (t.getD i n0) ks):=by
 obtain ⟨g1,s,g2⟩:=h;refine ⟨⟨hk,g1⟩,s,?_⟩;rw [List.drop_eq_getElem_cons hi,g2,Y2];simp [hi]
theorem yB {t:List Node} {p:Node} {f:Nat} {tr:Nat→Bool×Nat} (Zmr:∀ i j,tr i=(true,j)→∃ x,At ar t i x∧j=i+(nds x).length∧depth x≤f∧labT x=true∧Ga (nds x)):∀ {m k:Nat} {last:List UInt8} {j e:Nat},Ov t tr p m k last j=(true,e)→j≤t.length →
  ∃ ks:List (Rose Node),ks.length=m∧Zhi ar t j ks∧e=j+(ndss ks).length∧depths ks≤f∧labTs ks=true∧Ga (ndss ks)∧∀ q,q<ks.length→Ea p (k+q) (Qdw ks q) (jT ks last q)=false
 | 0,k,last,j,e,h,hj=>by
  rw [Ov] at h;injection h with _ h
  exact ⟨[],rfl,⟨trivial,t.drop j,by simp [ndss]⟩,by simp [ndss,h],by simp [depths],rfl,fun n hn=>by simp [ndss] at hn,fun q hq=>by simp at hq⟩
 | m+1,k,last,j,e,h,hj=>by
  rw [Ov] at h;cases hl:Xp (t.length:Int) (j:Int) with
  | true=>rw [hl,cond_true] at h;cases h
  | false =>
   rw [hl,cond_false] at h;cases hb:Ea p k (t.getD j n0) last with
   | true=>rw [hb,cond_true] at h;cases h
   | false =>
    rw [hb,cond_false] at h;obtain ⟨w,hw⟩:=exq (tr j);obtain ⟨w1,w2⟩:=w;rw [hw] at h;simp only at h;cases w1 with
    | false=>rw [cond_false] at h;cases h
    | true =>
     rw [cond_true] at h;obtain ⟨x,hx,rfl,hd,Qtg,hn⟩:=Zmr j w2 hw;obtain ⟨ks,e1,e2,e3,e4,e5,e6,e7⟩:=yB Zmr h hx.le;have uA:=hx.root n0;refine ⟨x::ks,by simp [e1],Qh5 hx e2,?_,?_,?_,?_,fun q hq=>?_⟩
     ·rw [e3,ndss,Ze];omega
     ·rw [depths];omega
     ·rw [labTs,Qtg,e5];rfl
     ·intro n hm;rw [ndss,List.mem_append] at hm;rcases hm with hm|hm
      ·exact hn n hm
      ·exact e6 n hm
     ·cases q with
      | zero=>rw [uA] at hb;exact hb
      | succ q =>
       rw [yW,←uA,show k+(q+1)=k+1+q by omega]
       exact e7 q (by simpa using hq)
theorem wG {t:List Node}:∀ {f i j:Nat},Uz t f i=(true,j)→∃ x,At ar t i x∧j=i+(nds x).length∧depth x≤f∧labT x=true∧Ga (nds x)
 | 0,i,j,h=>by rw [Uz] at h;cases h
 | f+1,i,j,h=>by
  rw [Uz] at h;cases hl:Xp (t.length:Int) (i:Int) with
  | true=>rw [hl,cond_true] at h;cases h
  | false =>
   rw [hl,cond_false] at h;rw [St] at hl;have hi:i<t.length:=by omega
   cases uB:V0 (t.getD i n0) with
   | false=>rw [uB,cond_false] at h;cases h
   | true =>
    rw [uB,cond_true] at h;obtain ⟨ks,e1,e2,e3,e4,e5,e6,e7⟩:=yB (f:=f) (fun i j h=>wG h) h (by omega)
    refine ⟨mk (t.getD i n0) ks,Qet hi e1 e2,?_,?_,?_,?_⟩
    ·rw [e3,Y2,Zi];omega
    ·rw [depth];omega
    ·rw [labT,Zg];exact ⟨(Zkj uB e1).2 fun q hq=>by have:=e7 q hq;rwa [Nat.zero_add] at this,e5⟩
    ·intro n hm;rw [Y2] at hm;rcases Zs.1 hm with rfl|hm
     ·exact uB
     ·exact e6 n hm
theorem Zxf (t:List Node):Ft t=Wg t:=by
 rw [Bool.eq_iff_iff];unfold Ft;constructor
 ·intro h;rw [Zg,Zg,Zj,Bool.not_eq_true'] at h;obtain ⟨h1,h2,h3⟩:=h;obtain ⟨x,hx,e,hd,hl,hn⟩:=wG (t:=t) (f:=100) (i:=0) (j:=(Uz t 100 0).2) (by rw [←h2])
  unfold Wl at h1;simp only [Bool.or_eq_false_iff,Za,Bool.not_eq_false',Zj,Q7] at h1;obtain ⟨⟨⟨g1,g2⟩,g3⟩,g4⟩:=h1;have uA:=hx.root n0;have ht:t=nds x:=by
   obtain ⟨_,r,h5⟩:=hx;rw [List.drop_zero] at h5;have h6:=congrArg List.length h5;rw [Ze] at h6;have:r=[]:=List.length_eq_zero_iff.1 (by omega)
   rw [h5,this,List.append_nil]
  rw [ht];exact Zcv ⟨hx.1,hn,hd,hl,by rw [←uA];exact g3,by rw [←uA];exact g4,by rw [←ht];omega⟩
 ·intro h;obtain ⟨x,rfl,hx⟩:=Dg h;have ha:=G7 hx.wf;have uA:=ha.root n0;rw [treeR_ok hx.numb ha hx.depth hx.lab];have hh:Wl (nds x)=false:=by
   unfold Wg at h;rw [Zg,Bool.not_eq_true'] at h;exact h.1
  rw [hh];simp
structure Part where
 kind:Int
 label:List UInt8
 name:List UInt8
 bind:List UInt8
 many:Int
 num:Int
 t:List Node
 u:List Node
 deriving DecidableEq
instance encPart:Enc Part:=⟨fun a=>.agg [.int .i64 a.kind,.str a.label,.str a.name,.str a.bind,.int .i64 a.many,.int .i64 a.num,.list 3 (a.t.map enc),.list 3 (a.u.map enc)],fun x=>match x with
 | .agg [a,b,c,d,e,f,g,h]=>⟨a.i,b.s,c.s,d.s,e.i,f.i,g.l.map dec,h.l.map dec⟩
 | _=>⟨0,[],[],[],0,0,[],[]⟩,fun a=>by
  have h:∀ l:List Node,(l.map (enc:Node→D)).map dec=l:=fun l=>Jx;cases a;simp [D.l,D.i,D.s,h]⟩
instance szPart:Sz Part:=⟨8⟩
theorem U0:Sz.sz Part=8:=rfl
theorem Z5 {n:Part}:(enc n:D)=.agg [.int .i64 n.kind,.str n.label,.str n.name,.str n.bind,.int .i64 n.many,.int .i64 n.num,.list 3 (n.t.map enc),.list 3 (n.u.map enc)]:=rfl
theorem Qb {a:Int} {b c d:List UInt8} {e f:Int} {g h:List Node}:(dec (.agg [.int .i64 a,.str b,.str c,.str d,.int .i64 e,.int .i64 f,.list 3 (g.map enc),.list 3 (h.map enc)]):Part)=⟨a,b,c,d,e,f,g,h⟩:=Enc.dec_enc (Part.mk a b c d e f g h)
theorem Qa {a:Int} {b c d:List UInt8} {e f:Int} {g h:List Node}:Ul Part (.agg [.int .i64 a,.str b,.str c,.str d,.int .i64 e,.int .i64 f,.list 3 (g.map enc),.list 3 (h.map enc)])=True:=eq_true (Wc (Part.mk a b c d e f g h))
theorem Qe {n:Part}:Part.mk n.kind n.label n.name n.bind n.many n.num n.t n.u=n:=rfl
def e0:Part:=⟨0,[],[],[],0,0,[],[]⟩
def Qnx (p:Part):Prop:=(p.t.length≤9223372036854775807∧Ym p.t)∧(p.u.length≤9223372036854775807∧Ym p.u)∧p.label.length≤9223372036854775807∧p.name.length≤9223372036854775807∧p.bind.length≤9223372036854775807
theorem Vd {p:Nat→Prop} {k:Nat} (h:∀ j,j<k→p j) (hk:p k):∀ j,j<k+1→p j:=fun j hj=>by
 rcases Nat.lt_or_ge j k with h1|h1
 ·exact h j h1
 ·have:j=k:=by omega
  exact this▸hk
def Vr (p:Part):Int :=
 if p.kind=2∨p.kind=8∨p.kind=11∨p.kind=12∨p.kind=13∨p.kind=14 then 1
 else if p.kind=3∨p.kind=4∨p.kind=5∨p.kind=9 then 2
 else if p.kind=6 then 3
 else if p.kind=7 then Zj9 p.many 0+1
 else if p.kind=10 then Zj9 p.many 0
 else 0
def Tg:Con:=Xj (fun (p:Part)=>p.many≤1000000) (fun p=>Vr p)
class Kck:Prop
theorem Kck.k (_:Kck) (h:p:=by
 first|(rw [Xt,Qoh];split<;>omega)|(unfold Vr;simp_all;done)):p:=h
theorem good_Many5:Qc Tryz.prog (140,Tg):=by
 obtain ⟨Kx,Kt,Kc,Kd,Kb,Ku,Kw,K,_⟩:=J7 Zx Zo [] false J5;have Ko:=Tg.eq_def;refine J9 K Tryz.func140 [.tmp 2] rfl 30 rfl (fun c hc Ji Zh=>?_);unfold Tg at Zh;obtain ⟨p,rfl,hm⟩:=Q8 Zh;have Qoh:Zj9 p.many 0=if p.many<0 then 0 else p.many:=rfl
 cases hc;have Qk:=@Z5;have Qo:=@Qa;have Qi:=@Qb;have Qn:=@Qe;have Ql:=@U0;have Kq:Kck:=⟨⟩;exact Xv
def dH:List Part→Int→Nat
 | [],_=>0
 | n::l,o=>if o-1+Vr n=0 then 1 else 1+dH l (o-1+Vr n)
def pX (t:List Part) (i:Int):Int:=if i<0∨(t.length:Int)≤i then -1 else i+dH (t.drop i.toNat) 1
def uW (t:List Part):Prop:=t.length≤100000∧∀ n∈t,0≤Vr n∧Vr n≤60∧n.many≤1000000
def fW:Con:=Jy (fun (t:Sl Part) (i:Int)=>uW t.l∧Za4 .i64 i) (fun t i=>pX t.l i)
class Kcm:Prop
theorem Kcm.k (_:Kcm) (h:p:=by
 repeat' first|exact M7|with_reducible apply Zw|intro _
 ·rename_i hz;rw [if_pos hz] at he;rw [e00];omega
 ·rename_i hz;rw [if_neg hz] at he;exact ⟨(k+1,o-1+Vr x),by exact Qt,by simp only;omega,by simp only;omega,by simp only;omega,by simp only;omega,by simp only;omega,by simp only;omega⟩):p:=h
class Kcn:Prop
theorem Kcn.k (_:Kcn) (h:p:=by
 rw [e00];omega):p:=h
class Kcl:Prop
theorem Kcl.k (_:Kcl) (h:p:=by
 repeat' first|exact M7|with_reducible apply Zw|intro _
 ·unfold pX;rw [if_pos (.inr ‹_›)]
 ·obtain ⟨i,rfl⟩:∃ n:Nat,i=n:=⟨i.toNat,by omega⟩
  have Ai:i<t.length:=by omega
  have e00:pX t i=i+dH (t.drop i) 1:=by
   unfold pX;rw [if_neg (by omega)]
   rfl
  refine Zm [4,16,17,18,19,20,21,22,23,24,25,26,27,28,29,30,31,32,33] (fun p:Nat×Int=>[(5,.d (.int .i64 p.2)),(6,.d (.int .i64 p.1))]) (fun p:Nat×Int=>[]) (fun p:Nat×Int=>i≤p.1∧p.1≤t.length∧1≤p.2∧p.2≤1+60*p.1∧i+dH (t.drop i) 1=p.1+dH (t.drop p.1) p.2) (fun p:Nat×Int=>t.length-p.1) (i,1) ?_ ?_ ?_
  ·exact ⟨Zr _,by simp only;omega,by simp,by simp only;omega,rfl⟩
  ·exact Qt
  rintro ⟨k,o⟩ ⟨h1,h2,h3,h4,h5⟩;simp only at h1 h2 h3 h4 h5;rcases Zn k t.length with ⟨Zv,Qk⟩|⟨Zv,Qk⟩
  ·have Qis:=hm (t.getD k e0) (by simp [Zv])
   have Qo:=Zp e0 Zv;have he:dH (t.drop k) o=if o-1+Vr (t.getD k e0)=0 then 1 else 1+dH (t.drop (k+1)) (o-1+Vr (t.getD k e0)):=by
    rw [List.drop_eq_getElem_cons Zv,dH];simp [Zv]
   obtain ⟨x,hx⟩:=exq (t.getD k e0);rw [hx] at Qis Qo he;have Qi:=@Z5;have Qn:=@Qa;have Ql:=@Qb;have Qp:=@Qe;have Qv:=@U0;have Kq:Kcm:=⟨⟩;exact Ae
  ·have hd:t.drop k=[]:=List.drop_eq_nil_of_le Zv;rw [hd,dH] at h5;have Qi:=@Z5;have Qn:=@Qa;have Ql:=@Qb;have Qp:=@Qe;have Qv:=@U0;have Kq:Kcn:=⟨⟩;exact Ae
 ·unfold pX;rw [if_pos (.inl ‹_›)]):p:=h
theorem good_End5:Qc Tryz.prog (141,fW):=by
 obtain ⟨Kx,Kt,Kc,Kd,Kb,Ku,Kw,K,X4,_⟩:=J7 Zx Zo [] false (Q1 good_Many5 Tg.eq_def J5);have Ko:=fW.eq_def;refine J9 K Tryz.func141 [.tmp 4] rfl 36 rfl (fun c hc Ji Zh=>?_);unfold fW at Zh;obtain ⟨⟨t⟩,i,rfl,⟨ht,hm⟩,hi⟩:=Qf Zh;simp only at ht hm;rw [Xt] at hi;cases hc;refine W5 2 ?_;have Qi:=@Z5;have Qn:=@Qa;have Ql:=@Qb;have Qp:=@Qe;have Qv:=@U0;have Kq:Kcl:=⟨⟩;exact Ae
theorem Qbj:∀ (l:List Part) (o:Int),dH l o≤l.length
 | [],_=>Zr _
 | n::l,o=>by
  have:=Qbj l (o-1+Vr n);simp only [dH,Zi];split<;>omega
def Wb (t:List Part):Nat→Nat→List Int
 | 0,_=>[]
 | m+1,at_=>if at_<t.length then (at_:Int)::Wb t m (at_+dH (t.drop at_) 1) else []
def Cb (t:List Part) (i:Int):List Int:=if i<0∨(t.length:Int)≤i then [] else Wb t (Vr (t.getD i.toNat e0)).toNat (i.toNat+1)
def O5:Con:=Jy (fun (t:Sl Part) (i:Int)=>uW t.l∧Za4 .i64 i) (fun t i=>Sl.mk (Cb t.l i))
class Kcp:Prop
theorem Kcp.k (_:Kcp) (h:p:=by
 refine ⟨(k+1,q+dH (t.drop q) 1,out++[(q:Int)]),by exact Qt,by simp only;omega,by simp only;omega,by simp [h3],?_,by simp only;omega⟩
 simp only;rw [←h4,show M-(k+1)=M-k-1 by omega]
 simp):p:=h
class Kcq:Prop
theorem Kcq.k (_:Kcq) (h:p:=by
 rw [e00,h4]):p:=h
class Kcr:Prop
theorem Kcr.k (_:Kcr) (h:p:=by
 rw [e00,h4]):p:=h
class Kco:Prop
theorem Kco.k (_:Kco) (h:p:=by
 repeat' first|exact M7|with_reducible apply Zw|intro _
 ·unfold Cb;rw [if_pos (.inr ‹_›)];rfl
 ·obtain ⟨i,rfl⟩:∃ n:Nat,i=n:=⟨i.toNat,by omega⟩
  have Ai:i<t.length:=by omega
  have Qta:=hm (t.getD i e0) (by simp [Ai])
  have Ql:=Zp e0 Ai;obtain ⟨M,Qi⟩:∃ M:Nat,Vr (t.getD i e0)=M:=⟨(Vr (t.getD i e0)).toNat,by omega⟩
  have e00:Cb t i=Wb t M (i+1):=by
   unfold Cb;rw [if_neg (by omega)]
   simp only [Zl,Qi]
  obtain ⟨x,hx⟩:=exq (t.getD i e0);rw [hx] at Qta Ql Qi;refine Zm [20,21,22,23,24,25,26,27,28,29,30,31,32,33,34,35,36,37,38,39,40,41] (fun p:Nat×Nat×List Int=>[(5,.sl 8 (p.2.2.map enc).length),(6,.d (.int .i64 p.2.1)),(7,.d (.int .i64 p.1))]) (fun p:Nat×Nat×List Int=>[(8,.row 1 (p.2.2.map enc) 0)]) (fun p:Nat×Nat×List Int=>p.1≤M∧p.2.1≤t.length∧p.2.2.length=p.1∧p.2.2++Wb t (M-p.1) p.2.1=Wb t M (i+1)) (fun p:Nat×Nat×List Int=>M-p.1) (0,i+1,[]) ?_ ?_ ?_
  ·exact ⟨Nat.zero_le _,Ai,rfl,rfl⟩
  ·exact Qt
  rintro ⟨k,q,out⟩ ⟨h1,h2,h3,h4⟩;simp only at h1 h2 h3 h4;rcases Zn k M with ⟨hk,Qk⟩|⟨hk,Qk⟩
  ·rcases Zn q t.length with ⟨hq,Qo⟩|⟨hq,Qo⟩
   ·have e1:M-k=(M-k-1)+1:=by omega
    rw [e1,Wb,if_pos hq] at h4;have Er:=Qbj (t.drop q) 1;rw [List.length_drop] at Er;have Qn:pX t q=((q+dH (t.drop q) 1:Nat):Int):=by
     unfold pX;rw [if_neg (by omega)]
     simp
    have hT:uW t:=⟨ht,hm⟩;have Qp:=@Z5;have Qv:=@Qa;have Q3:=@Qb;have Jh:=@Qe;have Jb:=@U0;have Kq:Kcp:=⟨⟩;exact Xv
   ·have hz:Wb t (M-k) q=[]:=by
     cases hc:M-k with
     | zero=>rfl
     | succ c=>rw [Wb,if_neg (by omega)]
    rw [hz,List.append_nil] at h4;have Qp:=@Z5;have Qv:=@Qa;have Q3:=@Qb;have Jh:=@Qe;have Jb:=@U0;have Kq:Kcq:=⟨⟩;exact Xv
  ·have hz:Wb t (M-k) q=[]:=by
    rw [show M-k=0 by omega]
    rfl
   rw [hz,List.append_nil] at h4;have Qp:=@Z5;have Qv:=@Qa;have Q3:=@Qb;have Jh:=@Qe;have Jb:=@U0;have Kq:Kcr:=⟨⟩;exact Xv
 ·unfold Cb;rw [if_pos (.inl ‹_›)];rfl):p:=h
theorem good_Kids5:Qc Tryz.prog (102,O5):=by
 obtain ⟨Kx,Kt,Kc,Kd,Kb,Ku,Kw,K,X4,V2,_⟩:=J7 Zx Zo [] false (Q1 good_Many5 Tg.eq_def (Q1 good_End5 fW.eq_def J5));have Ko:=O5.eq_def;refine J9 K Tryz.func102 [.tmp 4] rfl 43 rfl (fun c hc Ji Zh=>?_);unfold O5 at Zh;obtain ⟨⟨t⟩,i,rfl,⟨ht,hm⟩,hi⟩:=Qf Zh;simp only at ht hm;rw [Xt] at hi;cases hc;refine W5 2 ?_;have Qp:=@Z5;have Qv:=@Qa;have Q3:=@Qb;have Jh:=@Qe;have Jb:=@U0;have Kq:Kco:=⟨⟩;exact Ae
def Qjt:List (List UInt8):=[[43],[45],[42],[47],[60],[61,61],[38,38],[124,124],[43,43]]
def Qrm (s:List UInt8):Bool:=Qjt.any fun o=>o==s
theorem Qjs:([.str [43],.str [45],.str [42],.str [47],.str [60],.str [61,61],.str [38,38],.str [124,124],.str [43,43]]:List D)=Qjt.map enc:=rfl
theorem Zmi:∀ {l:List (List UInt8)},I9 1 (l.map enc)=True
 | []=>rfl
 | x::l=>by
  show (D.fits 1 (.str x)∧I9 1 (l.map enc))=True;rw [Zmi,and_true];exact eq_true rfl
def vP:Con:=Xj (fun (_:List UInt8)=>True) (fun s=>Qrm s)
class Kct:Prop
theorem Kct.k (_:Kct) (h:p:=by
 first|exact ⟨k+1,by exact Qt,by omega,h2,by omega⟩|skip):p:=h
class Kcs:Prop
theorem Kcs.k (_:Kcs) (h:p:=by
 repeat' first|exact M7|with_reducible apply Zw|intro _
 ·cases l with
  | nil=>trivial
  | cons x l=>exact ⟨rfl,of_eq_true Zmi⟩
 refine Zm [2,6,7,8,9,10,11,12,13,14,15,16,17] (fun k:Nat=>[(4,.d (.int .i64 k))]) (fun k:Nat=>[]) (fun k:Nat=>k≤9∧∀ j,j<k→l.getD j []≠s) (fun k:Nat=>9-k) 0 ?_ ?_ ?_
 ·simp
 ·exact Qt
 rintro k ⟨hk,Jl⟩;by_cases Zv:k<9
 ·have Qi:Wd (k:Int) 9=true:=by rw [Jj];omega
  have Qn:=Zp ([]:List UInt8) (show k<l.length by omega)
  have Jg:l.getD k []≠s→∀ j,j<k+1→l.getD j []≠s:=fun h=>Vd Jl h;have L9:(l.getD k []==s)=true→R=true:=fun h=>by rw [←Zq];exact fF (p:=fun o=>o==s) [] k (by omega) h
  obtain ⟨y,hy⟩:=exq (l.getD k []);rw [hy] at Qn Jg L9;cases Ql:(y==s) with
  | true =>
   have hr:=L9 Ql;subst hr;exact U3
  | false =>
   have h2:=Jg (Za.1 Ql);have Kq:Kct:=⟨⟩;exact Xv
 ·have Qi:Wd (k:Int) 9=false:=by rw [Q7];omega
  have hr:R=false:=by rw [←Zq];exact Eb (p:=fun o=>o==s) [] fun j hj=>Za.2 (Jl j (by omega))
  subst hr;exact U3):p:=h
theorem good_op5:Qc Tryz.prog (190,vP):=by
 obtain ⟨Kx,Kt,Kc,Kd,Kb,Ku,Kw,K,_⟩:=J7 Zx Zo [] false J5;have Ko:=vP.eq_def;refine J9 K Tryz.func190 [.tmp 2] rfl 18 rfl (fun c hc Ji Zh=>?_);unfold vP at Zh;obtain ⟨s,rfl,-⟩:=Q8 Zh;obtain ⟨R,Qp⟩:=exq (Qrm s);have Zq:=Qp;unfold Qrm at Zq;have hl:Qjt.length=9:=rfl;have Qk:=Qjs;obtain ⟨l,Is⟩:=exq (Qjt);rw [Is] at Zq hl Qk;have Qo:(l.length:Int)=9:=by rw [hl];rfl
 cases hc;have Kq:Kcs:=⟨⟩;exact Ae
def Zy1:List UInt8→Option Nat
 | []=>none
 | c::s=>if c=33 then some 0 else (Zy1 s).map (·+1)
theorem Qbl:∀ {s:List UInt8} {k:Nat},k<s.length→(∀ j,j<k→s.getD j 0≠33)→s.getD k 0=33→Zy1 s=some k
 | [],k,h,_,_=>by simp at h
 | c::s,0,_,_,h=>by
  simp only [List.getD_cons_zero] at h;simp [Zy1,h]
 | c::s,k+1,h,Jl,hk=>by
  have h0:=Jl 0 (by omega)
  simp only [List.getD_cons_zero] at h0;rw [Zy1,if_neg h0,Qbl (k:=k) (by simpa using h) (fun j hj=>by simpa using Jl (j+1) (by omega)) (by simpa using hk)]
  rfl
theorem Zef:∀ {s:List UInt8},(∀ j,j<s.length→s.getD j 0≠33)→Zy1 s=none
 | [],_=>rfl
 | c::s,Jl=>by
  have h0:=Jl 0 (by simp)
  simp only [List.getD_cons_zero] at h0;rw [Zy1,if_neg h0,Zef fun j hj=>by simpa using Jl (j+1) (by simpa using hj)]
  rfl
def Zj0 (s:List UInt8):Bool:=match Zy1 s with
 | some k=>Wr (s.take k)&&Wr (s.drop (k+1))
 | none=>Wr s
theorem Qlt {c:UInt8}:((c.toNat:Int)==33)=true↔c=33:=by
 rw [Zj];constructor
 ·intro h;have:c.toNat=33:=by omega
  exact UInt8.toNat_inj.1 (by rw [this];rfl)
 ·rintro rfl;rfl
def gU:Con:=Xj (fun (s:List UInt8)=>s.length≤9223372036854775806) (fun s=>Zj0 s)
class Kcv:Prop
theorem Kcv.k (_:Kcv) (h:p:=by
 first|exact ⟨k+1,by exact Qt,by omega,h2,by omega⟩|skip):p:=h
class Kcu:Prop
theorem Kcu.k (_:Kcu) (h:p:=by
 refine Zm [2,4,5,6,7,8,9,10,11,12,13,14,15,16,17,18,19,20,21,22,23,24] (fun k:Nat=>[(3,.d (.int .i64 k))]) (fun k:Nat=>[]) (fun k:Nat=>k≤s.length∧∀ j,j<k→s.getD j 0≠33) (fun k:Nat=>s.length-k) 0 ?_ ?_ ?_
 ·simp
 ·exact Qt
 rintro k ⟨hk,Jl⟩;rcases Zn k s.length with ⟨Zv,Qk⟩|⟨Zv,Qk⟩
 ·have Jg:s.getD k 0≠33→∀ j,j<k+1→s.getD j 0≠33:=fun h=>Vd Jl h;have L9:s.getD k 0=33→R=(Wr (s.take k)&&Wr (s.drop (k+1))):=fun h=>by
   rw [Qbl Zv Jl h] at Zq;exact Zq.symm
  obtain ⟨y,Qo⟩:=exq (s.getD k 0);rw [Qo] at Jg L9;have Ql:(k:Int)+1=((k+1:Nat):Int):=rfl;cases Qi:((y.toNat:Int)==33) with
  | true =>
   have hr:=L9 (Qlt.1 Qi);have l1:(s.take k).length≤9223372036854775807:=by rw [List.length_take];omega
   have l2:(s.drop (k+1)).length≤9223372036854775807:=by rw [List.length_drop];omega
   obtain ⟨w1,Qn⟩:=exq (Wr (s.take k));obtain ⟨w2,Qp⟩:=exq (Wr (s.drop (k+1)));rw [Qn,Qp] at hr;cases w1 with
   | true =>
    rw [Bool.true_and] at hr;subst hr;exact U3
   | false =>
    rw [Bool.false_and] at hr;subst hr;exact U3
  | false =>
   have h2:=Jg (fun e=>by rw [Qlt.2 e] at Qi;cases Qi)
   have Kq:Kcv:=⟨⟩;exact Xv
 ·have hr:R=Wr s:=by
   rw [Zef fun j hj=>Jl j (by omega)] at Zq
   exact Zq.symm
  subst hr;exact U3):p:=h
theorem good_name5:Qc Tryz.prog (189,gU):=by
 obtain ⟨Kx,Kt,Kc,Kd,Kb,Ku,Kw,K,X4,_⟩:=J7 Zx Zo [] false (Q1 good_IsWord1 Aj J5);have Ko:=gU.eq_def;refine J9 K Tryz.func189 [.tmp 2] rfl 27 rfl (fun c hc Ji Zh=>?_);unfold gU at Zh;obtain ⟨s,rfl,hs⟩:=Q8 Zh;obtain ⟨R,Qv⟩:=exq (Zj0 s);have Zq:=Qv;unfold Zj0 at Zq;cases hc;have Kq:Kcu:=⟨⟩;exact Xv
def eY (t:List Node):Bool:=Wg t&&Ya t
def bO:Con:=Xj (fun (t:Sl Node)=>t.l.length≤9223372036854775807∧Ym t.l) (fun t=>eY t.l)
class Kcw:Prop
theorem Kcw.k (_:Kcw) (h:p:=by
 repeat' first|exact M7|with_reducible apply Zw|intro _
 all_goals (unfold eY;simp_all)):p:=h
theorem good_plain5:Qc Tryz.prog (187,bO):=by
 obtain ⟨Kx,Kt,Kc,Kd,Kb,Ku,Kw,K,X4,V2,_⟩:=J7 Zx Zo [] false (Q1 good_Right3 Bx.eq_def (Q1 good_Plain3 Tf.eq_def J5));have Ko:=bO.eq_def;refine J9 K Tryz.func187 [.tmp 2] rfl 9 rfl (fun c hc Ji Zh=>?_);unfold bO at Zh;obtain ⟨⟨t⟩,rfl,ht,hN⟩:=Q8 Zh;simp only at ht hN;cases hc;have Kq:Kcw:=⟨⟩;exact Ae
def Qdp (p:Part) (n:Node):Bool :=
 if p.t.length≠1∨n.name≠[]∨n.n≠0∨p.num<0∨999999999999999999<p.num then false
 else if n.kind=1 then p.name==[]
 else if n.kind=2 then p.name==[]&&Wd p.num 2
 else if n.kind=3 then p.num==0
 else if n.kind=4 then p.name==[]&&p.num==0
 else false
def Ot (p:Part):Bool:=Qdp p (p.t.getD 0 n0)
def Du:Con:=Xj (fun (p:Part)=>Qnx p) (fun p=>Ot p)
class Kcx:Prop
theorem Kcx.k (_:Kcx) (h:p:=by
 first|(symm;rw [←Zq];clear Zq Qi;unfold Qdp;simp_all;done)|(symm;rw [←Zq];clear Zq Qi;unfold Qdp;simp_all;omega)|(symm;rw [←Zq];clear Zq Qi;unfold Qdp;rw [if_neg (by simp_all;omega)];simp_all [Wd];done)|skip):p:=h
theorem good_literal5:Qc Tryz.prog (188,Du):=by
 obtain ⟨Kx,Kt,Kc,Kd,Kb,Ku,Kw,K,_⟩:=J7 Zx Zo [] false J5;have Ko:=Du.eq_def;refine J9 K Tryz.func188 [.tmp 2] rfl 68 rfl (fun c hc Ji Zh=>?_);unfold Du at Zh;obtain ⟨p,rfl,hF⟩:=Q8 Zh;clear Zh;obtain ⟨R,Qi⟩:=exq (Ot p);have Zq:=Qi;unfold Ot at Zq;cases hc;refine W5 4 ?_;by_cases h1:p.t.length=1
 ·have Qk:((p.t.length:Int) != 1)=false:=by rw [bne_eq_false_iff_eq];omega
  have Qo:=Zp n0 (show 0<p.t.length by omega)
  obtain ⟨x,hx⟩:=exq (p.t.getD 0 n0);rw [hx] at Qo Zq;clear hx;have Qn:=@Z5;have Ql:=@Qa;have Qp:=@Qb;have Qv:=@Qe;have Q3:=@U0;have Kq:Kcx:=⟨⟩;exact Xv
 ·have Qk:((p.t.length:Int) != 1)=true:=by rw [bne_iff_ne];omega
  unfold Qdp at Zq;rw [if_pos (.inl h1)] at Zq;subst Zq;have Qn:=@Z5;have Ql:=@Qa;have Qp:=@Qb;have Qv:=@Qe;have Q3:=@U0;exact qB
def Xq (p:Part) (w tg b t u li na op:Bool):Bool :=
 if p.kind≠0∧p.kind≠14∧p.num≠0 then false
 else if p.kind=0 then ((p.bind==[]&&p.many==0)&&((p.u.length:Int)==0))&&li
 else if p.kind=1 then (((p.bind==[]&&p.many==0)&&((p.t.length:Int)==0))&&((p.u.length:Int)==0))&&na
 else if p.kind=2∨p.kind=4 then (((p.name==[]&&p.many==0)&&b)&&t)&&((p.u.length:Int)==0)
 else if p.kind=3∨p.kind=6 then ((p.name==[]&&(p.bind==[]&&p.many==0))&&((p.t.length:Int)==0))&&((p.u.length:Int)==0)
 else if p.kind=5 then (((w&&p.many==0)&&b)&&t)&&u
 else if p.kind=7 then ((((p.name==[]&&p.bind==[])&&Xp 1 p.many)&&Xp p.many 50)&&((p.t.length:Int)==0))&&((p.u.length:Int)==0)
 else if p.kind=8 then (((p.name==[]&&p.many==0)&&b)&&((p.t.length:Int)==0))&&((p.u.length:Int)==0)
 else if p.kind=9 then ((op&&(p.bind==[]&&p.many==0))&&((p.t.length:Int)==0))&&((p.u.length:Int)==0)
 else if p.kind=10 then ((((p.name==[]&&p.bind==[])&&Xp 0 p.many)&&Xp p.many 50)&&((p.t.length:Int)==0))&&((p.u.length:Int)==0)
 else if p.kind=11 then ((w&&(p.bind==[]&&p.many==0))&&((p.t.length:Int)==0))&&((p.u.length:Int)==0)
 else if p.kind=12 then ((tg&&(p.bind==[]&&p.many==0))&&t)&&((p.u.length:Int)==0)
 else if p.kind=13 then ((p.name==[]&&(p.bind==[]&&p.many==0))&&t)&&((p.u.length:Int)==0)
 else if p.kind=14 then (((p.name==[]&&(p.bind==[]&&p.many==0))&&t)&&u)&&Xp 0 p.num
 else false
def Ak (p:Part):Bool:=Xq p (Wr p.name) (Mm p.name) (Wr p.bind) (eY p.t) (eY p.u) (Ot p) (Zj0 p.name) (Qrm p.name)
theorem kn {n c j:Int} (h:n=c) (e:(c==j)=false:=by rfl):(n==j)=false:=by rw [h];exact e
def gR:Con:=Xj (fun (p:Part)=>Qnx p∧p.name.length≤9223372036854775806) (fun p=>Ak p)
class Kcy:Prop
theorem Kcy.k (_:Kcy) (h:p:=by
 first|(symm;rw [←Zq];clear Zq Jh hF f1 f2 f3 f4 f5 f6 f7 hn K Qk Qo Qi Qn Ql Qp Qv Q3 Jb Z3 Z6 Z7 Qq Qj Qx Qm Qg Qr Qw Q4 Jf Jk Ju Xf Xe;first|(unfold Xq;simp_all;done)|(unfold Xq Xp;simp_all;done)|(unfold Xq Xp;simp_all;omega))|skip):p:=h
class Kcz:Prop
theorem Kcz.k (_:Kcz) (h:p:=by
 first|(symm;rw [←Zq];clear Zq Jh hF f1 f2 f3 f4 f5 f6 f7 hn K Qk Qo Qi Qn Ql Qp Qv Q3 Jb Z3 Z6 Z7 Qq Qj Qx Qm Qg Qr Qw Q4 Jf Jk Ju Xf Xe;first|(unfold Xq;simp_all;done)|(unfold Xq Xp;simp_all;done)|(unfold Xq Xp;simp_all;omega))|skip):p:=h
class KcA:Prop
theorem KcA.k (_:KcA) (h:p:=by
 first|(symm;rw [←Zq];clear Zq Jh hF f1 f2 f3 f4 f5 f6 f7 hn K Qk Qo Qi Qn Ql Qp Qv Q3 Jb Z3 Z6 Z7 Qq Qj Qx Qm Qg Qr Qw Q4 Jf Jk Ju Xf Xe;first|(unfold Xq;simp_all;done)|(unfold Xq Xp;simp_all;done)|(unfold Xq Xp;simp_all;omega))|skip):p:=h
class KcB:Prop
theorem KcB.k (_:KcB) (h:p:=by
 first|(symm;rw [←Zq];clear Zq Jh hF f1 f2 f3 f4 f5 f6 f7 hn K Qk Qo Qi Qn Ql Qp Qv Q3 Jb Z3 Z6 Z7 Qq Qj Qx Qm Qg Qr Qw Q4 Jf Jk Ju Xf Xe;first|(unfold Xq;simp_all;done)|(unfold Xq Xp;simp_all;done)|(unfold Xq Xp;simp_all;omega))|skip):p:=h
class KcC:Prop
theorem KcC.k (_:KcC) (h:p:=by
 first|(symm;rw [←Zq];clear Zq Jh hF f1 f2 f3 f4 f5 f6 f7 hn K Qk Qo Qi Qn Ql Qp Qv Q3 Jb Z3 Z6 Z7 Qq Qj Qx Qm Qg Qr Qw Q4 Jf Jk Ju Xf Xe;first|(unfold Xq;simp_all;done)|(unfold Xq Xp;simp_all;done)|(unfold Xq Xp;simp_all;omega))|skip):p:=h
class KcD:Prop
theorem KcD.k (_:KcD) (h:p:=by
 first|(symm;rw [←Zq];clear Zq Jh hF f1 f2 f3 f4 f5 f6 f7 hn K Qk Qo Qi Qn Ql Qp Qv Q3 Jb Z3 Z6 Z7 Qq Qj Qx Qm Qg Qr Qw Q4 Jf Jk Ju Xf Xe;first|(unfold Xq;simp_all;done)|(unfold Xq Xp;simp_all;done)|(unfold Xq Xp;simp_all;omega))|skip):p:=h
class KcE:Prop
theorem KcE.k (_:KcE) (h:p:=by
 first|(symm;rw [←Zq];clear Zq Jh hF f1 f2 f3 f4 f5 f6 f7 hn K Qk Qo Qi Qn Ql Qp Qv Q3 Jb Z3 Z6 Z7 Qq Qj Qx Qm Qg Qr Qw Q4 Jf Jk Ju Xf Xe;first|(unfold Xq;simp_all;done)|(unfold Xq Xp;simp_all;done)|(unfold Xq Xp;simp_all;omega))|skip):p:=h
class KcF:Prop
theorem KcF.k (_:KcF) (h:p:=by
 first|(symm;rw [←Zq];clear Zq Jh hF f1 f2 f3 f4 f5 f6 f7 hn K Qk Qo Qi Qn Ql Qp Qv Q3 Jb Z3 Z6 Z7 Qq Qj Qx Qm Qg Qr Qw Q4 Jf Jk Ju Xf Xe;first|(unfold Xq;simp_all;done)|(unfold Xq Xp;simp_all;done)|(unfold Xq Xp;simp_all;omega))|skip):p:=h
class KcG:Prop
theorem KcG.k (_:KcG) (h:p:=by
 first|(symm;rw [←Zq];clear Zq Jh hF f1 f2 f3 f4 f5 f6 f7 hn K Qk Qo Qi Qn Ql Qp Qv Q3 Jb Z3 Z6 Z7 Qq Qj Qx Qm Qg Qr Qw Q4 Jf Jk Ju Xf Xe;first|(unfold Xq;simp_all;done)|(unfold Xq Xp;simp_all;done)|(unfold Xq Xp;simp_all;omega))|skip):p:=h
class KcH:Prop
theorem KcH.k (_:KcH) (h:p:=by
 first|(symm;rw [←Zq];clear Zq Jh hF f1 f2 f3 f4 f5 f6 f7 hn K Qk Qo Qi Qn Ql Qp Qv Q3 Jb Z3 Z6 Z7 Qq Qj Qx Qm Qg Qr Qw Q4 Jf Jk Ju Xf Xe;first|(unfold Xq;simp_all;done)|(unfold Xq Xp;simp_all;done)|(unfold Xq Xp;simp_all;omega))|skip):p:=h
class KcI:Prop
theorem KcI.k (_:KcI) (h:p:=by
 first|(symm;rw [←Zq];clear Zq Jh hF f1 f2 f3 f4 f5 f6 f7 hn K Qk Qo Qi Qn Ql Qp Qv Q3 Jb Z3 Z6 Z7 Qq Qj Qx Qm Qg Qr Qw Q4 Jf Jk Ju Xf Xe;first|(unfold Xq;simp_all;done)|(unfold Xq Xp;simp_all;done)|(unfold Xq Xp;simp_all;omega))|skip):p:=h
class KcJ:Prop
theorem KcJ.k (_:KcJ) (h:p:=by
 first|(symm;rw [←Zq];clear Zq Jh hF f1 f2 f3 f4 f5 f6 f7 hn K Qk Qo Qi Qn Ql Qp Qv Q3 Jb Z3 Z6 Z7 Qq Qj Qx Qm Qg Qr Qw Q4 Jf Jk Ju Xf Xe;first|(unfold Xq;simp_all;done)|(unfold Xq Xp;simp_all;done)|(unfold Xq Xp;simp_all;omega))|skip):p:=h
class KcK:Prop
theorem KcK.k (_:KcK) (h:p:=by
 first|(symm;rw [←Zq];clear Zq Jh hF f1 f2 f3 f4 f5 f6 f7 hn K Qk Qo Qi Qn Ql Qp Qv Q3 Jb Z3 Z6 Z7 Qq Qj Qx Qm Qg Qr Qw Q4 Jf Jk Ju Xf Xe;first|(unfold Xq;simp_all;done)|(unfold Xq Xp;simp_all;done)|(unfold Xq Xp;simp_all;omega))|skip):p:=h
class KcL:Prop
theorem KcL.k (_:KcL) (h:p:=by
 first|(symm;rw [←Zq];clear Zq Jh hF f1 f2 f3 f4 f5 f6 f7 hn K Qk Qo Qi Qn Ql Qp Qv Q3 Jb Z3 Z6 Z7 Qq Qj Qx Qm Qg Qr Qw Q4 Jf Jk Ju Xf Xe;first|(unfold Xq;simp_all;done)|(unfold Xq Xp;simp_all;done)|(unfold Xq Xp;simp_all;omega))|skip):p:=h
class KcM:Prop
theorem KcM.k (_:KcM) (h:p:=by
 first|(symm;rw [←Zq];clear Zq Jh hF f1 f2 f3 f4 f5 f6 f7 hn K Qk Qo Qi Qn Ql Qp Qv Q3 Jb Z3 Z6 Z7 Qq Qj Qx Qm Qg Qr Qw Q4 Jf Jk Ju Xf Xe;first|(unfold Xq;simp_all;done)|(unfold Xq Xp;simp_all;done)|(unfold Xq Xp;simp_all;omega))|skip):p:=h
class KcN:Prop
theorem KcN.k (_:KcN) (h:p:=by
 first|(symm;rw [←Zq];clear Zq Jh hF f1 f2 f3 f4 f5 f6 f7 hn K Qk Qo Qi Qn Ql Qp Qv Q3 Jb Z3 Z6 Z7 Qq Qj Qx Qm Qg Qr Qw Q4 Jf Jk Ju Xf Xe;first|(unfold Xq;simp_all;done)|(unfold Xq Xp;simp_all;done)|(unfold Xq Xp;simp_all;omega))|skip):p:=h
theorem good_uses5:Qc Tryz.prog (150,gR):=by
 obtain ⟨Kx,Kt,Kc,Kd,Kb,Ku,Kw,K,X4,V2,Mo,Tx,jB,vK,_⟩:=J7 Zx Zo [] false (Q1 good_IsTag1 wY (Q1 good_IsWord1 Aj (Q1 good_plain5 bO.eq_def (Q1 good_literal5 Du.eq_def (Q1 good_name5 gU.eq_def (Q1 good_op5 vP.eq_def J5))))));have Ko:=gR.eq_def;refine J9 K Tryz.func150 [.tmp 2] rfl 275 rfl (fun c hc Ji Zh=>?_);unfold gR at Zh;obtain ⟨p,rfl,hF,hn⟩:=Q8 Zh;clear Zh;have Qp5:=hF;obtain ⟨⟨f1,f2⟩,⟨f3,f4⟩,f5,f6,f7⟩:=Qp5;obtain ⟨R,Jh⟩:=exq (Ak p);have Zq:=Jh;unfold Ak at Zq;obtain ⟨w,Qk⟩:=exq (Wr p.name);obtain ⟨tg,Qo⟩:=exq (Mm p.name);obtain ⟨b,Qi⟩:=exq (Wr p.bind);obtain ⟨t,Qn⟩:=exq (eY p.t);obtain ⟨u,Ql⟩:=exq (eY p.u);obtain ⟨li,Qp⟩:=exq (Ot p);obtain ⟨na,Qv⟩:=exq (Zj0 p.name);obtain ⟨op,Q3⟩:=exq (Qrm p.name);rw [Qk,Qo,Qi,Qn,Ql,Qp,Qv,Q3] at Zq;cases hc;refine W5 17 ?_;by_cases hc:p.kind=0
 ·have Jb:(p.kind==0)=true:=Zj.2 hc;have Z3:(p.kind==1)=false:=kn hc;have Z6:(p.kind==2)=false:=kn hc;have Z7:(p.kind==3)=false:=kn hc;have Qq:(p.kind==4)=false:=kn hc;have Qj:(p.kind==5)=false:=kn hc;have Qx:(p.kind==6)=false:=kn hc;have Qm:(p.kind==7)=false:=kn hc;have Qg:(p.kind==8)=false:=kn hc;have Qr:(p.kind==9)=false:=kn hc;have Qw:(p.kind==10)=false:=kn hc;have Q4:(p.kind==11)=false:=kn hc;have Jf:(p.kind==12)=false:=kn hc;have Jk:(p.kind==13)=false:=kn hc;have Ju:(p.kind==14)=false:=kn hc;have Xf:(p.kind != 0)=false:=by rw [bne,Jb];rfl
  have Xe:(p.kind != 14)=true:=by rw [bne,Ju];rfl
  have Wm:=@Z5;have Wz:=@Qa;have Yj:=@Qb;have Yr:=@Qe;have Yq:=@U0;have Kq:Kcy:=⟨⟩;exact Xv
 have c0:=hc;clear hc;by_cases hc:p.kind=1
 ·have Jb:(p.kind==0)=false:=kn hc;have Z3:(p.kind==1)=true:=Zj.2 hc;have Z6:(p.kind==2)=false:=kn hc;have Z7:(p.kind==3)=false:=kn hc;have Qq:(p.kind==4)=false:=kn hc;have Qj:(p.kind==5)=false:=kn hc;have Qx:(p.kind==6)=false:=kn hc;have Qm:(p.kind==7)=false:=kn hc;have Qg:(p.kind==8)=false:=kn hc;have Qr:(p.kind==9)=false:=kn hc;have Qw:(p.kind==10)=false:=kn hc;have Q4:(p.kind==11)=false:=kn hc;have Jf:(p.kind==12)=false:=kn hc;have Jk:(p.kind==13)=false:=kn hc;have Ju:(p.kind==14)=false:=kn hc;have Xf:(p.kind != 0)=true:=by rw [bne,Jb];rfl
  have Xe:(p.kind != 14)=true:=by rw [bne,Ju];rfl
  have Wm:=@Z5;have Wz:=@Qa;have Yj:=@Qb;have Yr:=@Qe;have Yq:=@U0;have Kq:Kcz:=⟨⟩;exact Xv
 have c1:=hc;clear hc;by_cases hc:p.kind=2
 ·have Jb:(p.kind==0)=false:=kn hc;have Z3:(p.kind==1)=false:=kn hc;have Z6:(p.kind==2)=true:=Zj.2 hc;have Z7:(p.kind==3)=false:=kn hc;have Qq:(p.kind==4)=false:=kn hc;have Qj:(p.kind==5)=false:=kn hc;have Qx:(p.kind==6)=false:=kn hc;have Qm:(p.kind==7)=false:=kn hc;have Qg:(p.kind==8)=false:=kn hc;have Qr:(p.kind==9)=false:=kn hc;have Qw:(p.kind==10)=false:=kn hc;have Q4:(p.kind==11)=false:=kn hc;have Jf:(p.kind==12)=false:=kn hc;have Jk:(p.kind==13)=false:=kn hc;have Ju:(p.kind==14)=false:=kn hc;have Xf:(p.kind != 0)=true:=by rw [bne,Jb];rfl
  have Xe:(p.kind != 14)=true:=by rw [bne,Ju];rfl
  have Wm:=@Z5;have Wz:=@Qa;have Yj:=@Qb;have Yr:=@Qe;have Yq:=@U0;have Kq:KcA:=⟨⟩;exact Xv
 have c2:=hc;clear hc;by_cases hc:p.kind=3
 ·have Jb:(p.kind==0)=false:=kn hc;have Z3:(p.kind==1)=false:=kn hc;have Z6:(p.kind==2)=false:=kn hc;have Z7:(p.kind==3)=true:=Zj.2 hc;have Qq:(p.kind==4)=false:=kn hc;have Qj:(p.kind==5)=false:=kn hc;have Qx:(p.kind==6)=false:=kn hc;have Qm:(p.kind==7)=false:=kn hc;have Qg:(p.kind==8)=false:=kn hc;have Qr:(p.kind==9)=false:=kn hc;have Qw:(p.kind==10)=false:=kn hc;have Q4:(p.kind==11)=false:=kn hc;have Jf:(p.kind==12)=false:=kn hc;have Jk:(p.kind==13)=false:=kn hc;have Ju:(p.kind==14)=false:=kn hc;have Xf:(p.kind != 0)=true:=by rw [bne,Jb];rfl
  have Xe:(p.kind != 14)=true:=by rw [bne,Ju];rfl
  have Wm:=@Z5;have Wz:=@Qa;have Yj:=@Qb;have Yr:=@Qe;have Yq:=@U0;have Kq:KcB:=⟨⟩;exact Xv
 have c3:=hc;clear hc;by_cases hc:p.kind=4
 ·have Jb:(p.kind==0)=false:=kn hc;have Z3:(p.kind==1)=false:=kn hc;have Z6:(p.kind==2)=false:=kn hc;have Z7:(p.kind==3)=false:=kn hc;have Qq:(p.kind==4)=true:=Zj.2 hc;have Qj:(p.kind==5)=false:=kn hc;have Qx:(p.kind==6)=false:=kn hc;have Qm:(p.kind==7)=false:=kn hc;have Qg:(p.kind==8)=false:=kn hc;have Qr:(p.kind==9)=false:=kn hc;have Qw:(p.kind==10)=false:=kn hc;have Q4:(p.kind==11)=false:=kn hc;have Jf:(p.kind==12)=false:=kn hc;have Jk:(p.kind==13)=false:=kn hc;have Ju:(p.kind==14)=false:=kn hc;have Xf:(p.kind != 0)=true:=by rw [bne,Jb];rfl
  have Xe:(p.kind != 14)=true:=by rw [bne,Ju];rfl
  have Wm:=@Z5;have Wz:=@Qa;have Yj:=@Qb;have Yr:=@Qe;have Yq:=@U0;have Kq:KcC:=⟨⟩;exact Xv
 have c4:=hc;clear hc;by_cases hc:p.kind=5
 ·have Jb:(p.kind==0)=false:=kn hc;have Z3:(p.kind==1)=false:=kn hc;have Z6:(p.kind==2)=false:=kn hc;have Z7:(p.kind==3)=false:=kn hc;have Qq:(p.kind==4)=false:=kn hc;have Qj:(p.kind==5)=true:=Zj.2 hc;have Qx:(p.kind==6)=false:=kn hc;have Qm:(p.kind==7)=false:=kn hc;have Qg:(p.kind==8)=false:=kn hc;have Qr:(p.kind==9)=false:=kn hc;have Qw:(p.kind==10)=false:=kn hc;have Q4:(p.kind==11)=false:=kn hc;have Jf:(p.kind==12)=false:=kn hc;have Jk:(p.kind==13)=false:=kn hc;have Ju:(p.kind==14)=false:=kn hc;have Xf:(p.kind != 0)=true:=by rw [bne,Jb];rfl
  have Xe:(p.kind != 14)=true:=by rw [bne,Ju];rfl
  have Wm:=@Z5;have Wz:=@Qa;have Yj:=@Qb;have Yr:=@Qe;have Yq:=@U0;have Kq:KcD:=⟨⟩;exact Xv
 have c5:=hc;clear hc;by_cases hc:p.kind=6
 ·have Jb:(p.kind==0)=false:=kn hc;have Z3:(p.kind==1)=false:=kn hc;have Z6:(p.kind==2)=false:=kn hc;have Z7:(p.kind==3)=false:=kn hc;have Qq:(p.kind==4)=false:=kn hc;have Qj:(p.kind==5)=false:=kn hc;have Qx:(p.kind==6)=true:=Zj.2 hc;have Qm:(p.kind==7)=false:=kn hc;have Qg:(p.kind==8)=false:=kn hc;have Qr:(p.kind==9)=false:=kn hc;have Qw:(p.kind==10)=false:=kn hc;have Q4:(p.kind==11)=false:=kn hc;have Jf:(p.kind==12)=false:=kn hc;have Jk:(p.kind==13)=false:=kn hc;have Ju:(p.kind==14)=false:=kn hc;have Xf:(p.kind != 0)=true:=by rw [bne,Jb];rfl
  have Xe:(p.kind != 14)=true:=by rw [bne,Ju];rfl
  have Wm:=@Z5;have Wz:=@Qa;have Yj:=@Qb;have Yr:=@Qe;have Yq:=@U0;have Kq:KcE:=⟨⟩;exact Xv
 have c6:=hc;clear hc;by_cases hc:p.kind=7
 ·have Jb:(p.kind==0)=false:=kn hc;have Z3:(p.kind==1)=false:=kn hc;have Z6:(p.kind==2)=false:=kn hc;have Z7:(p.kind==3)=false:=kn hc;have Qq:(p.kind==4)=false:=kn hc;have Qj:(p.kind==5)=false:=kn hc;have Qx:(p.kind==6)=false:=kn hc;have Qm:(p.kind==7)=true:=Zj.2 hc;have Qg:(p.kind==8)=false:=kn hc;have Qr:(p.kind==9)=false:=kn hc;have Qw:(p.kind==10)=false:=kn hc;have Q4:(p.kind==11)=false:=kn hc;have Jf:(p.kind==12)=false:=kn hc;have Jk:(p.kind==13)=false:=kn hc;have Ju:(p.kind==14)=false:=kn hc;have Xf:(p.kind != 0)=true:=by rw [bne,Jb];rfl
  have Xe:(p.kind != 14)=true:=by rw [bne,Ju];rfl
  have Wm:=@Z5;have Wz:=@Qa;have Yj:=@Qb;have Yr:=@Qe;have Yq:=@U0;have Kq:KcF:=⟨⟩;exact Xv
 have c7:=hc;clear hc;by_cases hc:p.kind=8
 ·have Jb:(p.kind==0)=false:=kn hc;have Z3:(p.kind==1)=false:=kn hc;have Z6:(p.kind==2)=false:=kn hc;have Z7:(p.kind==3)=false:=kn hc;have Qq:(p.kind==4)=false:=kn hc;have Qj:(p.kind==5)=false:=kn hc;have Qx:(p.kind==6)=false:=kn hc;have Qm:(p.kind==7)=false:=kn hc;have Qg:(p.kind==8)=true:=Zj.2 hc;have Qr:(p.kind==9)=false:=kn hc;have Qw:(p.kind==10)=false:=kn hc;have Q4:(p.kind==11)=false:=kn hc;have Jf:(p.kind==12)=false:=kn hc;have Jk:(p.kind==13)=false:=kn hc;have Ju:(p.kind==14)=false:=kn hc;have Xf:(p.kind != 0)=true:=by rw [bne,Jb];rfl
  have Xe:(p.kind != 14)=true:=by rw [bne,Ju];rfl
  have Wm:=@Z5;have Wz:=@Qa;have Yj:=@Qb;have Yr:=@Qe;have Yq:=@U0;have Kq:KcG:=⟨⟩;exact Xv
 have c8:=hc;clear hc;by_cases hc:p.kind=9
 ·have Jb:(p.kind==0)=false:=kn hc;have Z3:(p.kind==1)=false:=kn hc;have Z6:(p.kind==2)=false:=kn hc;have Z7:(p.kind==3)=false:=kn hc;have Qq:(p.kind==4)=false:=kn hc;have Qj:(p.kind==5)=false:=kn hc;have Qx:(p.kind==6)=false:=kn hc;have Qm:(p.kind==7)=false:=kn hc;have Qg:(p.kind==8)=false:=kn hc;have Qr:(p.kind==9)=true:=Zj.2 hc;have Qw:(p.kind==10)=false:=kn hc;have Q4:(p.kind==11)=false:=kn hc;have Jf:(p.kind==12)=false:=kn hc;have Jk:(p.kind==13)=false:=kn hc;have Ju:(p.kind==14)=false:=kn hc;have Xf:(p.kind != 0)=true:=by rw [bne,Jb];rfl
  have Xe:(p.kind != 14)=true:=by rw [bne,Ju];rfl
  have Wm:=@Z5;have Wz:=@Qa;have Yj:=@Qb;have Yr:=@Qe;have Yq:=@U0;have Kq:KcH:=⟨⟩;exact Xv
 have c9:=hc;clear hc;by_cases hc:p.kind=10
 ·have Jb:(p.kind==0)=false:=kn hc;have Z3:(p.kind==1)=false:=kn hc;have Z6:(p.kind==2)=false:=kn hc;have Z7:(p.kind==3)=false:=kn hc;have Qq:(p.kind==4)=false:=kn hc;have Qj:(p.kind==5)=false:=kn hc;have Qx:(p.kind==6)=false:=kn hc;have Qm:(p.kind==7)=false:=kn hc;have Qg:(p.kind==8)=false:=kn hc;have Qr:(p.kind==9)=false:=kn hc;have Qw:(p.kind==10)=true:=Zj.2 hc;have Q4:(p.kind==11)=false:=kn hc;have Jf:(p.kind==12)=false:=kn hc;have Jk:(p.kind==13)=false:=kn hc;have Ju:(p.kind==14)=false:=kn hc;have Xf:(p.kind != 0)=true:=by rw [bne,Jb];rfl
  have Xe:(p.kind != 14)=true:=by rw [bne,Ju];rfl
  have Wm:=@Z5;have Wz:=@Qa;have Yj:=@Qb;have Yr:=@Qe;have Yq:=@U0;have Kq:KcI:=⟨⟩;exact Xv
 have c10:=hc;clear hc;by_cases hc:p.kind=11
 ·have Jb:(p.kind==0)=false:=kn hc;have Z3:(p.kind==1)=false:=kn hc;have Z6:(p.kind==2)=false:=kn hc;have Z7:(p.kind==3)=false:=kn hc;have Qq:(p.kind==4)=false:=kn hc;have Qj:(p.kind==5)=false:=kn hc;have Qx:(p.kind==6)=false:=kn hc;have Qm:(p.kind==7)=false:=kn hc;have Qg:(p.kind==8)=false:=kn hc;have Qr:(p.kind==9)=false:=kn hc;have Qw:(p.kind==10)=false:=kn hc;have Q4:(p.kind==11)=true:=Zj.2 hc;have Jf:(p.kind==12)=false:=kn hc;have Jk:(p.kind==13)=false:=kn hc;have Ju:(p.kind==14)=false:=kn hc;have Xf:(p.kind != 0)=true:=by rw [bne,Jb];rfl
  have Xe:(p.kind != 14)=true:=by rw [bne,Ju];rfl
  have Wm:=@Z5;have Wz:=@Qa;have Yj:=@Qb;have Yr:=@Qe;have Yq:=@U0;have Kq:KcJ:=⟨⟩;exact Xv
 have c11:=hc;clear hc;by_cases hc:p.kind=12
 ·have Jb:(p.kind==0)=false:=kn hc;have Z3:(p.kind==1)=false:=kn hc;have Z6:(p.kind==2)=false:=kn hc;have Z7:(p.kind==3)=false:=kn hc;have Qq:(p.kind==4)=false:=kn hc;have Qj:(p.kind==5)=false:=kn hc;have Qx:(p.kind==6)=false:=kn hc;have Qm:(p.kind==7)=false:=kn hc;have Qg:(p.kind==8)=false:=kn hc;have Qr:(p.kind==9)=false:=kn hc;have Qw:(p.kind==10)=false:=kn hc;have Q4:(p.kind==11)=false:=kn hc;have Jf:(p.kind==12)=true:=Zj.2 hc;have Jk:(p.kind==13)=false:=kn hc;have Ju:(p.kind==14)=false:=kn hc;have Xf:(p.kind != 0)=true:=by rw [bne,Jb];rfl
  have Xe:(p.kind != 14)=true:=by rw [bne,Ju];rfl
  have Wm:=@Z5;have Wz:=@Qa;have Yj:=@Qb;have Yr:=@Qe;have Yq:=@U0;have Kq:KcK:=⟨⟩;exact Xv
 have c12:=hc;clear hc;by_cases hc:p.kind=13
 ·have Jb:(p.kind==0)=false:=kn hc;have Z3:(p.kind==1)=false:=kn hc;have Z6:(p.kind==2)=false:=kn hc;have Z7:(p.kind==3)=false:=kn hc;have Qq:(p.kind==4)=false:=kn hc;have Qj:(p.kind==5)=false:=kn hc;have Qx:(p.kind==6)=false:=kn hc;have Qm:(p.kind==7)=false:=kn hc;have Qg:(p.kind==8)=false:=kn hc;have Qr:(p.kind==9)=false:=kn hc;have Qw:(p.kind==10)=false:=kn hc;have Q4:(p.kind==11)=false:=kn hc;have Jf:(p.kind==12)=false:=kn hc;have Jk:(p.kind==13)=true:=Zj.2 hc;have Ju:(p.kind==14)=false:=kn hc;have Xf:(p.kind != 0)=true:=by rw [bne,Jb];rfl
  have Xe:(p.kind != 14)=true:=by rw [bne,Ju];rfl
  have Wm:=@Z5;have Wz:=@Qa;have Yj:=@Qb;have Yr:=@Qe;have Yq:=@U0;have Kq:KcL:=⟨⟩;exact Xv
 have c13:=hc;clear hc;by_cases hc:p.kind=14
 ·have Jb:(p.kind==0)=false:=kn hc;have Z3:(p.kind==1)=false:=kn hc;have Z6:(p.kind==2)=false:=kn hc;have Z7:(p.kind==3)=false:=kn hc;have Qq:(p.kind==4)=false:=kn hc;have Qj:(p.kind==5)=false:=kn hc;have Qx:(p.kind==6)=false:=kn hc;have Qm:(p.kind==7)=false:=kn hc;have Qg:(p.kind==8)=false:=kn hc;have Qr:(p.kind==9)=false:=kn hc;have Qw:(p.kind==10)=false:=kn hc;have Q4:(p.kind==11)=false:=kn hc;have Jf:(p.kind==12)=false:=kn hc;have Jk:(p.kind==13)=false:=kn hc;have Ju:(p.kind==14)=true:=Zj.2 hc;have Xf:(p.kind != 0)=true:=by rw [bne,Jb];rfl
  have Xe:(p.kind != 14)=false:=by rw [bne,Ju];rfl
  have Wm:=@Z5;have Wz:=@Qa;have Yj:=@Qb;have Yr:=@Qe;have Yq:=@U0;have Kq:KcM:=⟨⟩;exact Xv
 have c14:=hc;clear hc;have Jb:(p.kind==0)=false:=Za.2 (by omega)
 have Z3:(p.kind==1)=false:=Za.2 (by omega)
 have Z6:(p.kind==2)=false:=Za.2 (by omega)
 have Z7:(p.kind==3)=false:=Za.2 (by omega)
 have Qq:(p.kind==4)=false:=Za.2 (by omega)
 have Qj:(p.kind==5)=false:=Za.2 (by omega)
 have Qx:(p.kind==6)=false:=Za.2 (by omega)
 have Qm:(p.kind==7)=false:=Za.2 (by omega)
 have Qg:(p.kind==8)=false:=Za.2 (by omega)
 have Qr:(p.kind==9)=false:=Za.2 (by omega)
 have Qw:(p.kind==10)=false:=Za.2 (by omega)
 have Q4:(p.kind==11)=false:=Za.2 (by omega)
 have Jf:(p.kind==12)=false:=Za.2 (by omega)
 have Jk:(p.kind==13)=false:=Za.2 (by omega)
 have Ju:(p.kind==14)=false:=Za.2 (by omega)
 have Xf:(p.kind != 0)=true:=by rw [bne,Jb];rfl
 have Xe:(p.kind != 14)=true:=by rw [bne,Ju];rfl
 have Wm:=@Z5;have Wz:=@Qa;have Yj:=@Qb;have Yr:=@Qe;have Yq:=@U0;have Kq:KcN:=⟨⟩;exact Xv
end Go.Am.Ty
