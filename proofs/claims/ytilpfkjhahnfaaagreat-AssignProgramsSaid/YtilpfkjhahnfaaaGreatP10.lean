/- Contracts of functions that the law reaches, and plain laws. Conditions: those that each contract states. -/
import Derived.Test.YtilpfkjhahnfaaaGreatP9
set_option maxHeartbeats 8000000
set_option linter.unusedVariables false
set_option linter.unusedSimpArgs false
variable {p:Prop}
set_option maxRecDepth 100000
namespace Go.Am.Ty
open Go.Proofs
open Enc (enc dec)
def C3 {A B R S T:Type} [Enc A] [Enc B] [Enc R] [Enc S] [Enc T] (p:A→B→Prop) (f:A→B→R×S×T):Con:=⟨[false,false],[false,false,false],fun c=>match c with
 | [.d x,.d y]=>Ul A x∧Ul B y∧p (dec x) (dec y)
 | _=>False,fun c=>match c with
 | [.d x,.d y]=>.tup [.d (enc (f (dec x) (dec y)).1),.d (enc (f (dec x) (dec y)).2.1),.d (enc (f (dec x) (dec y)).2.2)]
 | _=>.d .nilp⟩
theorem Qve:type_of% @C3.eq_def:=@C3.eq_def
theorem mV {A B R S T:Type} [Enc A] [Enc B] [Enc R] [Enc S] [Enc T] {p:A→B→Prop} {f:A→B→R×S×T} {c:List CV} (h:(C3 p f).pre c):∃ a b,c=[.d (enc a),.d (enc b)]∧p a b:=by
 unfold C3 at h;simp only at h;split at h
 ·next x y=>exact ⟨dec x,dec y,by rw [←h.1,←h.2.1],h.2.2⟩
 ·exact h.elim
structure ImpS (l:List Tok) (f:Nat) (s:St6) (imps:List (List UInt8)):Prop where
 pos:Pos l s
 sites:s.sites=[]
 room:s.e=0→(l.length:Int)+1≤f+s.at_
 cnt:imps.length+f=l.length+1
 short:∀ x∈imps,x.length≤1000000
 fuel:1≤f
theorem ImpS.next {l:List Tok} (hT:Toks l) {f:Nat} {s:St6} {imps:List (List UInt8)} (h:ImpS l (f+1) s imps) (hi:Ox l s 6 [105,109,112,111,114,116]=true) :
  ImpS l f (Qy l (Jn l (X3 s) 1).2 5 [59]) (imps++[(Jn l (X3 s) 1).1]):=by
 have q1:=(Sq.refl h.pos).tok (by omega) (jI h.pos hi)
 have q2:=q1.tok (by omega) (Li q1.adv.pos 1)
 have q3:=q2.tok (by omega) (Xr q2.adv.pos 5 [59])
 have Zv:=F8 hi;refine ⟨q3.adv.pos,?_,fun he=>?_,?_,fun x hx=>?_,?_⟩
 ·rw [bZ,bJ];exact h.sites
 ·have h1:=h.room Zv.1;have h2:=(q3.adv.gain he).2;have h3:=(q3.adv.gain he).1;omega
 ·have:=h.cnt;simp only [Ze,Zi,List.length_nil];omega
 ·rcases List.mem_append.1 hx with hx|hx
  ·exact h.short x hx
  ·rw [Zt] at hx;subst hx;exact Yf hT _ _
 ·have:=h.room Zv.1;omega
structure DefS (l:List Tok) (f:Nat) (s:St6) (defs:List Def6) (pl:List Int):Prop where
 inn:St6In l s
 cnt:defs.length+f=201
 len:defs.length≤200
 pls:pl.length=defs.length
theorem DefS.next {l:List Tok} (hT:Toks l) {f:Nat} {s:St6} {defs:List Def6} {pl:List Int} (h:DefS l (f+1) s defs pl) (hi:Ox l s 6 [100,101,102]=true) (hl:defs.length≠200) :
  DefS l f (uU l (X3 s) defs).2 (defs++[(uU l (X3 s) defs).1]) (pl++[s.at_]):=by
 have m1:=h.inn.is hi;have hd:=Zcz hT m1.pos defs;have h1:=h.cnt;have h2:=h.len;have h3:=h.pls;refine ⟨m1.go hd.adv (by omega) (by omega),?_,?_,?_⟩
 all_goals
  simp only [Ze,Zi,List.length_nil];omega
theorem Rf {a d:Int}:(dec (.agg [.int .i64 a,.list 3 [],.int .i64 d]):St6)=⟨a,[],d⟩:=Z9 (c:=[])
theorem F5 {a d:Int}:Ul St6 (.agg [.int .i64 a,.list 3 [],.int .i64 d])=True:=Z8 (c:=[])
def A6:Con:=C3 (fun (l:Sl Tok) (_:List UInt8)=>Toks l.l) (fun l name=>(((Y9 l.l name).1,(Y9 l.l name).2.1,⟨(Y9 l.l name).2.2⟩):Mod6×St6×Sl Int))
theorem dL {p:Prop} (h:p:=by (sym=>simp [Kt,Kc,Kd,Kb,Ku,Kw,Ko,X4,V2,Mo,Tx,jB,vK,Za6,Zmm,Zm7,Zm6,jC,Qk,Qo,Qi,Qn,Ql,Qp,Qv,Q3,Jh,Jb,Z3,Z6,Z7,Qq,Qj,Qx,Qm,Qg,Qr,Qw,Q4,Jf,Jk,Ju,Xf,Xe,Wm,Wz,Yj,Yr,Yq,Mf,Me,M6,M5,Mv,Mu,S5,S4,Bs,S3,S0,Le,Sy,Sx,Sw,Nh,Ng,Nf,Nd,Nc,Nb,Na,H9,H8,H7,H6,H5,H4,H3,H2,H1,H0,Hz,Hy,Hx,Hw,Hv,D.setCell.eq_1,Qve,qK,Xn,Xm,Yp,Wf,Yo,Xl,Xk,J2,Rh,Pd,Rg,Z4,Qb,Ud,Z9,Rf,W0,J6,Md,U8,Gp,Wn,Zz,Z5,Vs,G5,Zy,Jp,Z2,F7,Pc,Gm,F6,Z1,Qa,Uc,Z8,F5,Ww,Xd,W7,Hj,Je.eq_def,Z0,Qe,dR,wH,Zw4,Kg,U0,qO,Bh,Wv,Zw0,Zwz,Zwy,Zwx,Zww,Zwv,Zwu,Zwt,Zws,Zwr,Zwq,Zwp,Zwo,Zwn,Zwm,Zwl,Zwk,Zwj,Zwi,Zwh,Zwg,Zwf,Zwe,Zwd,Zwc,Zwb,Zwa,Zv9,Zv8,Zv7,Zv6,Zv5,Zv4,Zv3,Zv2,Zv1,Zv0,Zvz,Zvy,Zvx,Zvw,Zvv,Zvu,Zvt,Zvs,Zvr,Zvq,Zvp,Zvo,Zvn,Zvm,Zvl,Zvk,Zvj,Zvi,Zvh,Zvg,Zvf,Zve,Zvd,Zvc,Zvb,Zva,Zu9,Zu8,Zu7,Zu6,Zu5,Zu4,Zu3,Zu2,Zu1,Zu0,Zuz,Zuy,Zux,Zuw,Zuv,Zuu,Zut,Zus,Zur,Zuq,Zup,Zuo,Zun,Zum,Zul,Zuk,Zuj,Zui,Zuh,Zug,Zuf,Zue,Zud,Zuc,Zub,Zua,Zt9,Zt8,Zt7,Zt6,Zt5,Zt4,Zt3,Zt2,Zt1,Zt0,Ztz,Zty,Ztx,Ztw,Ztv,Ztu,Ztt,Zts,Ztr,Ztq,Ztp,Zto,Ztn,Ztm,Ztl,Ztk,Ztj,Zti,Zth,Ztg,Ztf,Zte,Ztd,Ztc,Ztb,Zta,Zs9,Zs8,Zs7,Zs6,Zs5,Zs4,Zs3,Zs2,Zs1,Zs0,Zsz,Zsy,Zsx,Zsw,Zsv,Zsu,Zst,Zss,Zsr,Zsq,Zsp,Zso,Zsn,Zsm,Zsl,Zsk,Zsj,Zsi,Zsh,Zsg,Zsf,Zse,Zsd,Zsc,Zsb,Zsa,Zr9,Zr8,Zr7,Zr6,Zr5,Zr4,Zr3,Zr2,Zr1,Zr0,Zrz,Zry,Zrx,Zrw,Zrv,Zru,Zrt,Zrs,Zrr,Zrq,Zrp,Zro,Zrn,Zrm,Zrl,Zrk,Zrj,Zri,Zrh,Zrg,Zrf,Zre,Zrd,Zrc,Zrb,Zra,Zq9,Zq8,Zq7,Zq6,Zq5,Zq4,Zq3,Zq2,Zq1,Zq0,Zqz,Zqy,Zqx,Zqw,Zqv,Zqu,Zqt,Zqs,Zqr,Zqq,Zqp,Zqo,Zqn,Zqm,Zql,Zqk,Zqj,Zqi,Zqh,Zqg,Zqf,Zqe,Zqd,Zqc,Zqb,Zqa,Zp9,Zp8,Zp7,Zp6,Zp5,Zp4,Zp3,Zp2,Zp1,Zp0,Zpz,Zpy,Zpx,Zpw,Zpv,Zpu,Zpt,Zps,Zpr,Zpq,Zpp,Zpo,Zpn,Zpm,Zpl,Zpk,Zpj,Zpi,Zph,Zpg,Zpf,Zpe,Zpd,Zpc,Zpb,Zpa,Zo9,Zo8,Zo7,Zo6,Zo5,Zo4,Zo3,Zo2,Zo1,Zo0,Zoz,Zoy,Zox,Zow,Zov,Zou,Zot,Zos,Zor,Zoq,Zop,Zoo,Zon,Zom,Zol,Zok,Zoj,Zoi,Zoh,Zog,Zof,Zoe,Zod,Zoc,Zob,Zoa,Zn9,Zn8,Zn7,Zn6,Zn5,Zn4,Zn3,Zn2,Zn1,Zn0,Znz,Zny,Znx,Znw,Znv,Znu,Znt,Zns,Znr,Znq,Znp,Zno,Znn,Znm,Znl,Znk,Znj,Zni,Znh,Zng,Znf,Zne,Znd,kU,kT,kS,kR,kP,kO,Fm,Fl,Fk,Fj,Fi,Fh,Fg,Ff,Fe,Fc,Fb,Fa,E9,E8,E7,E6,E5,E4,E3,E1,E0,Ez,Ey,Ex,Ew,Ev,Eu,Bg,Bf,Be,Bc,Bb,Ba,P9,P8,P7,P6,P5,P4,P3,P0,Pz,Py,Px,Pw,Pv,Pu,Ps,Pr,Pq,Pp,Po,Pn,Pm,Pk,Pj,Ph,Pg])):p:=h
theorem Qxr {p:Prop} (h:p:=by
 (sym=>simp [Kt,Kc,Kd,Kb,Ku,Kw,Ko,X4,V2,Mo,Tx,jB,vK,Za6,Zmm,Zm7,Zm6,jC,Qk,Qo,Qi,Qn,Ql,Qp,Qv,Q3,Jh,Jb,Z3,Z6,Z7,Qq,Qj,Qx,Qm,Qg,Qr,Qw,Q4,Jf,Jk,Ju,Xf,Xe,Wm,Wz,Yj,Yr,Yq,Mf,Me,M6,M5,Mv,Mu,S5,S4,Bs,S3,S0,Le,Sy,Sx,Sw,Nh,Ng,Nf,Nd,Nc,Nb,Na,H9,H8,H7,H6,H5,H4,H3,H2,H1,H0,Hz,Hy,Hx,Hw,Hv,D.setCell.eq_1,Qve,qK,Xn,Xm,Yp,Wf,Yo,Xl,Xk,J2,Rh,Pd,Rg,Z4,Qb,Ud,Z9,Rf,W0,J6,Md,U8,Gp,Wn,Zz,Z5,Vs,G5,Zy,Jp,Z2,F7,Pc,Gm,F6,Z1,Qa,Uc,Z8,F5,Ww,Xd,W7,Hj,Je.eq_def,Z0,Qe,dR,wH,Zw4,Kg,U0,qO,Bh,Wv,Zw0,Zwz,Zwy,Zwx,Zww,Zwv,Zwu,Zwt,Zws,Zwr,Zwq,Zwp,Zwo,Zwn,Zwm,Zwl,Zwk,Zwj,Zwi,Zwh,Zwg,Zwf,Zwe,Zwd,Zwc,Zwb,Zwa,Zv9,Zv8,Zv7,Zv6,Zv5,Zv4,Zv3,Zv2,Zv1,Zv0,Zvz,Zvy,Zvx,Zvw,Zvv,Zvu,Zvt,Zvs,Zvr,Zvq,Zvp,Zvo,Zvn,Zvm,Zvl,Zvk,Zvj,Zvi,Zvh,Zvg,Zvf,Zve,Zvd,Zvc,Zvb,Zva,Zu9,Zu8,Zu7,Zu6,Zu5,Zu4,Zu3,Zu2,Zu1,Zu0,Zuz,Zuy,Zux,Zuw,Zuv,Zuu,Zut,Zus,Zur,Zuq,Zup,Zuo,Zun,Zum,Zul,Zuk,Zuj,Zui,Zuh,Zug,Zuf,Zue,Zud,Zuc,Zub,Zua,Zt9,Zt8,Zt7,Zt6,Zt5,Zt4,Zt3,Zt2,Zt1,Zt0,Ztz,Zty,Ztx,Ztw,Ztv,Ztu,Ztt,Zts,Ztr,Ztq,Ztp,Zto,Ztn,Ztm,Ztl,Ztk,Ztj,Zti,Zth,Ztg,Ztf,Zte,Ztd,Ztc,Ztb,Zta,Zs9,Zs8,Zs7,Zs6,Zs5,Zs4,Zs3,Zs2,Zs1,Zs0,Zsz,Zsy,Zsx,Zsw,Zsv,Zsu,Zst,Zss,Zsr,Zsq,Zsp,Zso,Zsn,Zsm,Zsl,Zsk,Zsj,Zsi,Zsh,Zsg,Zsf,Zse,Zsd,Zsc,Zsb,Zsa,Zr9,Zr8,Zr7,Zr6,Zr5,Zr4,Zr3,Zr2,Zr1,Zr0,Zrz,Zry,Zrx,Zrw,Zrv,Zru,Zrt,Zrs,Zrr,Zrq,Zrp,Zro,Zrn,Zrm,Zrl,Zrk,Zrj,Zri,Zrh,Zrg,Zrf,Zre,Zrd,Zrc,Zrb,Zra,Zq9,Zq8,Zq7,Zq6,Zq5,Zq4,Zq3,Zq2,Zq1,Zq0,Zqz,Zqy,Zqx,Zqw,Zqv,Zqu,Zqt,Zqs,Zqr,Zqq,Zqp,Zqo,Zqn,Zqm,Zql,Zqk,Zqj,Zqi,Zqh,Zqg,Zqf,Zqe,Zqd,Zqc,Zqb,Zqa,Zp9,Zp8,Zp7,Zp6,Zp5,Zp4,Zp3,Zp2,Zp1,Zp0,Zpz,Zpy,Zpx,Zpw,Zpv,Zpu,Zpt,Zps,Zpr,Zpq,Zpp,Zpo,Zpn,Zpm,Zpl,Zpk,Zpj,Zpi,Zph,Zpg,Zpf,Zpe,Zpd,Zpc,Zpb,Zpa,Zo9,Zo8,Zo7,Zo6,Zo5,Zo4,Zo3,Zo2,Zo1,Zo0,Zoz,Zoy,Zox,Zow,Zov,Zou,Zot,Zos,Zor,Zoq,Zop,Zoo,Zon,Zom,Zol,Zok,Zoj,Zoi,Zoh,Zog,Zof,Zoe,Zod,Zoc,Zob,Zoa,Zn9,Zn8,Zn7,Zn6,Zn5,Zn4,Zn3,Zn2,Zn1,Zn0,Znz,Zny,Znx,Znw,Znv,Znu,Znt,Zns,Znr,Znq,Znp,Zno,Znn,Znm,Znl,Znk,Znj,Zni,Znh,Zng,Znf,Zne,Znd,kU,kT,kS,kR,kP,kO,Fm,Fl,Fk,Fj,Fi,Fh,Fg,Ff,Fe,Fc,Fb,Fa,E9,E8,E7,E6,E5,E4,E3,E1,E0,Ez,Ey,Ex,Ew,Ev,Eu,Bg,Bf,Be,Bc,Bb,Ba,P9,P8,P7,P6,P5,P4,P3,P0,Pz,Py,Px,Pw,Pv,Pu,Ps,Pr,Pq,Pp,Po,Pn,Pm,Pk,Pj,Ph,Pg];tactic =>
   try simp only [eK] at *
   try simp only [Qgv] at *
   try simp (maxSteps:=4000000) only [Qk,Qo,Qi,Qn,Ql,Qp,Qv,Q3,Jh,Jb,Z3,Z6,Z7,Qq,Qj,Qx,Qm,Qg,Qr,Qw,Q4,Jf,Jk,Ju,Xf,Xe,Wm,Wz,Yj,Yr,Yq,Mf,Me,M6,M5,Mv,Mu,S5,S4,Bs,S3,S0,Le,Sy,Sx,Sw,Nh,Ng,Nf,Nd,Nc,Nb,Na,H9,H8,H7,H6,H5,H4,H3,H2,H1,H0,Hz,Hy,Hx,Hw,Hv,D.setCell.eq_1,Qve,qK,Xn,Xm,Yp,Wf,Yo,Xl,Xk,J2,Rh,Pd,Rg,Z4,Qb,Ud,Z9,Rf,W0,J6,Md,U8,Gp,Wn,Zz,Z5,Vs,G5,Zy,Jp,Z2,F7,Pc,Gm,F6,Z1,Qa,Uc,Z8,F5,Ww,Xd,W7,Hj,Je.eq_def,Z0,Qe,dR,wH,Zw4,Kg,U0,qO,Bh,Wv,wI]
   first|done|exact Kq.k)):p:=h
theorem Jw {p:Prop} (h:p:=by
 (sym=>simp [Kt,Kc,Kd,Kb,Ku,Kw,Ko,X4,V2,Mo,Tx,jB,vK,Za6,Zmm,Zm7,Zm6,jC,Qk,Qo,Qi,Qn,Ql,Qp,Qv,Q3,Jh,Jb,Z3,Z6,Z7,Qq,Qj,Qx,Qm,Qg,Qr,Qw,Q4,Jf,Jk,Ju,Xf,Xe,Wm,Wz,Yj,Yr,Yq,Mf,Me,M6,M5,Mv,Mu,S5,S4,Bs,S3,S0,Le,Sy,Sx,Sw,Nh,Ng,Nf,Nd,Nc,Nb,Na,H9,H8,H7,H6,H5,H4,H3,H2,H1,H0,Hz,Hy,Hx,Hw,Hv,D.setCell.eq_1,Qve,qK,Xn,Xm,Yp,Wf,Yo,Xl,Xk,J2,Rh,Pd,Rg,Z4,Qb,Ud,Z9,Rf,W0,J6,Md,U8,Gp,Wn,Zz,Z5,Vs,G5,Zy,Jp,Z2,F7,Pc,Gm,F6,Z1,Qa,Uc,Z8,F5,Ww,Xd,W7,Hj,Je.eq_def,Z0,Qe,dR,wH,Zw4,Kg,U0,qO,Bh,Wv,Zw0,Zwz,Zwy,Zwx,Zww,Zwv,Zwu,Zwt,Zws,Zwr,Zwq,Zwp,Zwo,Zwn,Zwm,Zwl,Zwk,Zwj,Zwi,Zwh,Zwg,Zwf,Zwe,Zwd,Zwc,Zwb,Zwa,Zv9,Zv8,Zv7,Zv6,Zv5,Zv4,Zv3,Zv2,Zv1,Zv0,Zvz,Zvy,Zvx,Zvw,Zvv,Zvu,Zvt,Zvs,Zvr,Zvq,Zvp,Zvo,Zvn,Zvm,Zvl,Zvk,Zvj,Zvi,Zvh,Zvg,Zvf,Zve,Zvd,Zvc,Zvb,Zva,Zu9,Zu8,Zu7,Zu6,Zu5,Zu4,Zu3,Zu2,Zu1,Zu0,Zuz,Zuy,Zux,Zuw,Zuv,Zuu,Zut,Zus,Zur,Zuq,Zup,Zuo,Zun,Zum,Zul,Zuk,Zuj,Zui,Zuh,Zug,Zuf,Zue,Zud,Zuc,Zub,Zua,Zt9,Zt8,Zt7,Zt6,Zt5,Zt4,Zt3,Zt2,Zt1,Zt0,Ztz,Zty,Ztx,Ztw,Ztv,Ztu,Ztt,Zts,Ztr,Ztq,Ztp,Zto,Ztn,Ztm,Ztl,Ztk,Ztj,Zti,Zth,Ztg,Ztf,Zte,Ztd,Ztc,Ztb,Zta,Zs9,Zs8,Zs7,Zs6,Zs5,Zs4,Zs3,Zs2,Zs1,Zs0,Zsz,Zsy,Zsx,Zsw,Zsv,Zsu,Zst,Zss,Zsr,Zsq,Zsp,Zso,Zsn,Zsm,Zsl,Zsk,Zsj,Zsi,Zsh,Zsg,Zsf,Zse,Zsd,Zsc,Zsb,Zsa,Zr9,Zr8,Zr7,Zr6,Zr5,Zr4,Zr3,Zr2,Zr1,Zr0,Zrz,Zry,Zrx,Zrw,Zrv,Zru,Zrt,Zrs,Zrr,Zrq,Zrp,Zro,Zrn,Zrm,Zrl,Zrk,Zrj,Zri,Zrh,Zrg,Zrf,Zre,Zrd,Zrc,Zrb,Zra,Zq9,Zq8,Zq7,Zq6,Zq5,Zq4,Zq3,Zq2,Zq1,Zq0,Zqz,Zqy,Zqx,Zqw,Zqv,Zqu,Zqt,Zqs,Zqr,Zqq,Zqp,Zqo,Zqn,Zqm,Zql,Zqk,Zqj,Zqi,Zqh,Zqg,Zqf,Zqe,Zqd,Zqc,Zqb,Zqa,Zp9,Zp8,Zp7,Zp6,Zp5,Zp4,Zp3,Zp2,Zp1,Zp0,Zpz,Zpy,Zpx,Zpw,Zpv,Zpu,Zpt,Zps,Zpr,Zpq,Zpp,Zpo,Zpn,Zpm,Zpl,Zpk,Zpj,Zpi,Zph,Zpg,Zpf,Zpe,Zpd,Zpc,Zpb,Zpa,Zo9,Zo8,Zo7,Zo6,Zo5,Zo4,Zo3,Zo2,Zo1,Zo0,Zoz,Zoy,Zox,Zow,Zov,Zou,Zot,Zos,Zor,Zoq,Zop,Zoo,Zon,Zom,Zol,Zok,Zoj,Zoi,Zoh,Zog,Zof,Zoe,Zod,Zoc,Zob,Zoa,Zn9,Zn8,Zn7,Zn6,Zn5,Zn4,Zn3,Zn2,Zn1,Zn0,Znz,Zny,Znx,Znw,Znv,Znu,Znt,Zns,Znr,Znq,Znp,Zno,Znn,Znm,Znl,Znk,Znj,Zni,Znh,Zng,Znf,Zne,Znd,kU,kT,kS,kR,kP,kO,Fm,Fl,Fk,Fj,Fi,Fh,Fg,Ff,Fe,Fc,Fb,Fa,E9,E8,E7,E6,E5,E4,E3,E1,E0,Ez,Ey,Ex,Ew,Ev,Eu,Bg,Bf,Be,Bc,Bb,Ba,P9,P8,P7,P6,P5,P4,P3,P0,Pz,Py,Px,Pw,Pv,Pu,Ps,Pr,Pq,Pp,Po,Pn,Pm,Pk,Pj,Ph,Pg];tactic =>
   try simp only [eK] at *
   try simp only [Qgv] at *
   try simp (maxSteps:=4000000) only [Qk,Qo,Qi,Qn,Ql,Qp,Qv,Q3,Jh,Jb,Z3,Z6,Z7,Qq,Qj,Qx,Qm,Qg,Qr,Qw,Q4,Jf,Jk,Ju,Xf,Xe,Wm,Wz,Yj,Yr,Yq,Mf,Me,M6,M5,Mv,Mu,S5,S4,Bs,S3,S0,Le,Sy,Sx,Sw,Nh,Ng,Nf,Nd,Nc,Nb,Na,H9,H8,H7,H6,H5,H4,H3,H2,H1,H0,Hz,Hy,Hx,Hw,Hv,D.setCell.eq_1,Qve,qK,Xn,Xm,Yp,Wf,Yo,Xl,Xk,J2,Rh,Pd,Rg,Z4,Qb,Ud,Z9,Rf,W0,J6,Md,U8,Gp,Wn,Zz,Z5,Vs,G5,Zy,Jp,Z2,F7,Pc,Gm,F6,Z1,Qa,Uc,Z8,F5,Ww,Xd,W7,Hj,Je.eq_def,Z0,Qe,dR,wH,Zw4,Kg,U0,qO,Bh,Wv,wI]
   repeat' first|with_reducible assumption|with_reducible apply Zw|intro _|omega|(rw [Xt];omega)
   all_goals first|with_reducible exact uL|omega|exact Kq.k)):p:=h
theorem N6 {p:Prop} (h:p:=by
 first|(sym=>simp [Kt,Kc,Kd,Kb,Ku,Kw,Ko,X4,V2,Mo,Tx,jB,vK,Za6,Zmm,Zm7,Zm6,jC,Qk,Qo,Qi,Qn,Ql,Qp,Qv,Q3,Jh,Jb,Z3,Z6,Z7,Qq,Qj,Qx,Qm,Qg,Qr,Qw,Q4,Jf,Jk,Ju,Xf,Xe,Wm,Wz,Yj,Yr,Yq,Mf,Me,M6,M5,Mv,Mu,S5,S4,Bs,S3,S0,Le,Sy,Sx,Sw,Nh,Ng,Nf,Nd,Nc,Nb,Na,H9,H8,H7,H6,H5,H4,H3,H2,H1,H0,Hz,Hy,Hx,Hw,Hv,D.setCell.eq_1,Qve,qK,Xn,Xm,Yp,Wf,Yo,Xl,Xk,J2,Rh,Pd,Rg,Z4,Qb,Ud,Z9,Rf,W0,J6,Md,U8,Gp,Wn,Zz,Z5,Vs,G5,Zy,Jp,Z2,F7,Pc,Gm,F6,Z1,Qa,Uc,Z8,F5,Ww,Xd,W7,Hj,Je.eq_def,Z0,Qe,dR,wH,Zw4,Kg,U0,qO,Bh,Wv,Zw0,Zwz,Zwy,Zwx,Zww,Zwv,Zwu,Zwt,Zws,Zwr,Zwq,Zwp,Zwo,Zwn,Zwm,Zwl,Zwk,Zwj,Zwi,Zwh,Zwg,Zwf,Zwe,Zwd,Zwc,Zwb,Zwa,Zv9,Zv8,Zv7,Zv6,Zv5,Zv4,Zv3,Zv2,Zv1,Zv0,Zvz,Zvy,Zvx,Zvw,Zvv,Zvu,Zvt,Zvs,Zvr,Zvq,Zvp,Zvo,Zvn,Zvm,Zvl,Zvk,Zvj,Zvi,Zvh,Zvg,Zvf,Zve,Zvd,Zvc,Zvb,Zva,Zu9,Zu8,Zu7,Zu6,Zu5,Zu4,Zu3,Zu2,Zu1,Zu0,Zuz,Zuy,Zux,Zuw,Zuv,Zuu,Zut,Zus,Zur,Zuq,Zup,Zuo,Zun,Zum,Zul,Zuk,Zuj,Zui,Zuh,Zug,Zuf,Zue,Zud,Zuc,Zub,Zua,Zt9,Zt8,Zt7,Zt6,Zt5,Zt4,Zt3,Zt2,Zt1,Zt0,Ztz,Zty,Ztx,Ztw,Ztv,Ztu,Ztt,Zts,Ztr,Ztq,Ztp,Zto,Ztn,Ztm,Ztl,Ztk,Ztj,Zti,Zth,Ztg,Ztf,Zte,Ztd,Ztc,Ztb,Zta,Zs9,Zs8,Zs7,Zs6,Zs5,Zs4,Zs3,Zs2,Zs1,Zs0,Zsz,Zsy,Zsx,Zsw,Zsv,Zsu,Zst,Zss,Zsr,Zsq,Zsp,Zso,Zsn,Zsm,Zsl,Zsk,Zsj,Zsi,Zsh,Zsg,Zsf,Zse,Zsd,Zsc,Zsb,Zsa,Zr9,Zr8,Zr7,Zr6,Zr5,Zr4,Zr3,Zr2,Zr1,Zr0,Zrz,Zry,Zrx,Zrw,Zrv,Zru,Zrt,Zrs,Zrr,Zrq,Zrp,Zro,Zrn,Zrm,Zrl,Zrk,Zrj,Zri,Zrh,Zrg,Zrf,Zre,Zrd,Zrc,Zrb,Zra,Zq9,Zq8,Zq7,Zq6,Zq5,Zq4,Zq3,Zq2,Zq1,Zq0,Zqz,Zqy,Zqx,Zqw,Zqv,Zqu,Zqt,Zqs,Zqr,Zqq,Zqp,Zqo,Zqn,Zqm,Zql,Zqk,Zqj,Zqi,Zqh,Zqg,Zqf,Zqe,Zqd,Zqc,Zqb,Zqa,Zp9,Zp8,Zp7,Zp6,Zp5,Zp4,Zp3,Zp2,Zp1,Zp0,Zpz,Zpy,Zpx,Zpw,Zpv,Zpu,Zpt,Zps,Zpr,Zpq,Zpp,Zpo,Zpn,Zpm,Zpl,Zpk,Zpj,Zpi,Zph,Zpg,Zpf,Zpe,Zpd,Zpc,Zpb,Zpa,Zo9,Zo8,Zo7,Zo6,Zo5,Zo4,Zo3,Zo2,Zo1,Zo0,Zoz,Zoy,Zox,Zow,Zov,Zou,Zot,Zos,Zor,Zoq,Zop,Zoo,Zon,Zom,Zol,Zok,Zoj,Zoi,Zoh,Zog,Zof,Zoe,Zod,Zoc,Zob,Zoa,Zn9,Zn8,Zn7,Zn6,Zn5,Zn4,Zn3,Zn2,Zn1,Zn0,Znz,Zny,Znx,Znw,Znv,Znu,Znt,Zns,Znr,Znq,Znp,Zno,Znn,Znm,Znl,Znk,Znj,Zni,Znh,Zng,Znf,Zne,Znd,kU,kT,kS,kR,kP,kO,Fm,Fl,Fk,Fj,Fi,Fh,Fg,Ff,Fe,Fc,Fb,Fa,E9,E8,E7,E6,E5,E4,E3,E1,E0,Ez,Ey,Ex,Ew,Ev,Eu,Bg,Bf,Be,Bc,Bb,Ba,P9,P8,P7,P6,P5,P4,P3,P0,Pz,Py,Px,Pw,Pv,Pu,Ps,Pr,Pq,Pp,Po,Pn,Pm,Pk,Pj,Ph,Pg];tactic =>
   try simp only [eK] at *
   try simp only [Qgv] at *
   try simp (maxSteps:=4000000) only [Qk,Qo,Qi,Qn,Ql,Qp,Qv,Q3,Jh,Jb,Z3,Z6,Z7,Qq,Qj,Qx,Qm,Qg,Qr,Qw,Q4,Jf,Jk,Ju,Xf,Xe,Wm,Wz,Yj,Yr,Yq,Mf,Me,M6,M5,Mv,Mu,S5,S4,Bs,S3,S0,Le,Sy,Sx,Sw,Nh,Ng,Nf,Nd,Nc,Nb,Na,H9,H8,H7,H6,H5,H4,H3,H2,H1,H0,Hz,Hy,Hx,Hw,Hv,D.setCell.eq_1,Qve,qK,Xn,Xm,Yp,Wf,Yo,Xl,Xk,J2,Rh,Pd,Rg,Z4,Qb,Ud,Z9,Rf,W0,J6,Md,U8,Gp,Wn,Zz,Z5,Vs,G5,Zy,Jp,Z2,F7,Pc,Gm,F6,Z1,Qa,Uc,Z8,F5,Ww,Xd,W7,Hj,Je.eq_def,Z0,Qe,dR,wH,Zw4,Kg,U0,qO,Bh,Wv,wI]
   repeat' first|with_reducible assumption|with_reducible apply Zw|intro _|omega|(rw [Xt];omega)
   all_goals first|with_reducible exact uL|omega|rfl|trivial|exact Or.inr trivial|assumption|contradiction|exact Qt)|exact dL):p:=h
class KfU:Prop
theorem KfU.k (_:KfU) (h:p:=by
 first|exact ⟨(f,i3,e3,imps++[x],k),by exact Qt,hL,dN,by simp;omega,by omega⟩|rfl|trivial|(simp [Wn];done)|skip):p:=h
class KfV:Prop
theorem KfV.k (_:KfV) (h:p:=by
 first|rfl|trivial|(simp [Wn];done)|skip):p:=h
class KfW:Prop
theorem KfW.k (_:KfW) (h:p:=by
 first|exact ⟨(f,i3,e3,imps++[x],imps.length),by exact Qt,hL,dN,by simp,by omega⟩|rfl|trivial|(simp [Wn];done)|skip):p:=h
class KfY:Prop
theorem KfY.k (_:KfY) (h:p:=by
 first|rfl|trivial|(simp [Wn];done)|skip):p:=h
class KfZ:Prop
theorem KfZ.k (_:KfZ) (h:p:=by
 first|exact n2|exact ⟨(f2,j3,ss3,g3,defs++[⟨dn,dt,de⟩],pl++[j]),by (have Vc:=@Md;exact Qt),hL,dN,by omega⟩|rfl|trivial|(simp [Wn];done)|skip):p:=h
class Kga:Prop
theorem Kga.k (_:Kga) (h:p:=by
 first|rfl|trivial|(simp [Wn];done)|skip):p:=h
class Kgb:Prop
theorem Kgb.k (_:Kgb) (h:p:=by
 first|rfl|trivial|(simp [Wn];done)|skip):p:=h
class Kgc:Prop
theorem Kgc.k (_:Kgc) (h:p:=by
 first|rfl|trivial|(simp [Wn];done)|skip):p:=h
class Kgd:Prop
theorem Kgd.k (_:Kgd) (h:p:=by
 first|rfl|trivial|(simp [Wn];done)|skip):p:=h
class KfX:Prop
theorem KfX.k (_:KfX) (h:p:=by
 refine Zm [6,12,13,52,53,54,55,56,57,58,59,60,61,62,63,64,65,66,67,68,69,70,71,72,73,74,75,76,77,78,79,80,81,82,83,84,85] (fun p:Nat×Int×List Site×Int×List Def6×List Int=>[(9,.sl 17 (p.2.2.2.2.2.map (enc:Int→D)).length)]) (fun p:Nat×Int×List Site×Int×List Def6×List Int=>[(8,.box true [.d (.int .i64 p.2.1),.d (.list 3 (p.2.2.1.map enc)),.d (.int .i64 p.2.2.2.1)]),(7,.box true [.d (.str name),.sl 47 (imps.map (enc:List UInt8→D)).length,.sl 83 (p.2.2.2.2.1.map (enc:Def6→D)).length,.nils 3]),(83,.row 3 (p.2.2.2.2.1.map enc) (p.2.2.2.2.1.length-1)),(17,.row 1 (p.2.2.2.2.2.map enc) 0)]) (fun p:Nat×Int×List Site×Int×List Def6×List Int=>Zbr l p.1 ⟨p.2.1,p.2.2.1,p.2.2.2.1⟩ p.2.2.2.2.1 p.2.2.2.2.2=b∧DefS l p.1 ⟨p.2.1,p.2.2.1,p.2.2.2.1⟩ p.2.2.2.2.1 p.2.2.2.2.2) (fun p:Nat×Int×List Site×Int×List Def6×List Int=>p.1) (201,i,[],e,[],[]) ?_ ?_ ?_
 ·exact ⟨hb,Qxl⟩
 ·exact Qt
 rintro ⟨f2,j,ss,g,defs,pl⟩ ⟨hL,hD⟩;simp only at hL hD;have Qje:=hD.cnt;have Zmz:=hD.len;have Qk4:=hD.pls;obtain ⟨f2,rfl⟩:∃ k,f2=k+1:=⟨f2-1,by omega⟩
 rw [Zbr] at hL;have n1:=hD.inn;have q1:=n1.nums;simp only at q1;cases Q3:Ox l ⟨j,ss,g⟩ 6 [100,101,102] with
 | true =>
  rw [if_neg (by rw [Q3];simp)] at hL
  by_cases Qll:defs.length=200
  ·rw [if_pos Qll] at hL;have Jh:((defs.length:Int)==200)=true:=by rw [Zj];omega
   obtain ⟨⟨Wa,Ws,We⟩,Qp⟩:=exq (J8 ⟨j,ss,g⟩ 3);rw [Qp] at hL;subst hL;rw [if_pos rfl] at Zq;simp only at Zq;subst Zq;have Kq:KfY:=⟨⟩;exact Jw
  ·rw [if_neg Qll] at hL;have Jh:((defs.length:Int)==200)=false:=by rw [Za];omega
   have dN:=hD.next hT Q3 Qll;have K9:X3 ⟨j,ss,g⟩=⟨j+1,ss,g⟩:=rfl;have n2:=n1.is Q3;rw [K9] at hL dN n2;obtain ⟨⟨d,⟨j3,ss3,g3⟩⟩,Qo⟩:=exq (uU l ⟨j+1,ss,g⟩ defs);rw [Qo] at hL dN;simp only at hL dN;obtain ⟨dn,dt,de⟩:=d;have Kq:KfZ:=⟨⟩;exact Jw
 | false =>
  rw [if_pos Q3] at hL;subst hL;rw [if_neg (by simp)] at Zq
  simp only at Zq;rw [(tD l ⟨j,ss,g⟩).2.1] at Zq;simp only at Zq;obtain ⟨⟨Wa,Ws,We⟩,Qp⟩:=exq (J8 ⟨j,ss,g⟩ 2);have Qw6:=(Ef ⟨j,ss,g⟩ 2).2;rw [Qp] at Qw6;simp only at Qw6;subst Qw6;unfold tE at Zq;rw [Qp] at Zq;obtain ⟨j,rfl⟩:∃ n:Nat,j=n:=⟨j.toNat,by omega⟩
  simp only [Hh] at Zq;by_cases hg:g=0
  case neg =>
   rw [if_neg (fun h=>hg h.1)] at Zq;have Jb:(g==0)=false:=by rw [Za];exact hg
   subst Zq;have Kq:Kga:=⟨⟩;exact Jw
  subst hg;have Jb:((0:Int)==0)=true:=rfl;rcases Zn j l.length with ⟨Zv,Qte⟩|⟨Zv,Qte⟩
  rotate_left
  ·rw [if_pos ⟨rfl,.inl (by omega)⟩] at Zq
   have Z3:Xp (l.length:Int) (j:Int)=true:=by rw [Q9];omega
   subst Zq;have Kq:Kgb:=⟨⟩;exact Jw
  have Z3:Xp (l.length:Int) (j:Int)=false:=by rw [←Bool.not_eq_true,Q9];omega
  have Z6:=Zp Us Zv;obtain ⟨t,ht⟩:=exq (l.getD j Us);rw [ht] at Z6 Zq;by_cases kH:t.kind=0
  ·rw [if_neg (fun h=>by rcases h.2 with h|h;omega;exact h kH)] at Zq
   have Z7:(t.kind != 0)=false:=by rw [bne_eq_false_iff_eq];exact kH
   subst Zq;have Kq:Kgc:=⟨⟩;exact Jw
  ·rw [if_pos ⟨rfl,.inr kH⟩] at Zq;have Z7:(t.kind != 0)=true:=bne_iff_ne.2 kH;subst Zq;have Kq:Kgd:=⟨⟩;exact Jw):p:=h
class KfT:Prop
theorem KfT.k (_:KfT) (h:p:=by
 refine Zm [6,10,11,18,19,20,21,22,23,24,25,26,27,28,29,30,31,32,33,34,35,36,37,38,39,40,41,42,43,44,45,46,47,48,49,50,51] (fun p:Nat×Int×Int×List (List UInt8)×Nat=>[]) (fun p:Nat×Int×Int×List (List UInt8)×Nat=>[(8,.box true [.d (.int .i64 p.2.1),.d (.list 3 []),.d (.int .i64 p.2.2.1)]),(7,.box true [.d (.str name),.sl 47 (p.2.2.2.1.map (enc:List UInt8→D)).length,.nils 3,.nils 3]),(47,.row 1 (p.2.2.2.1.map enc) p.2.2.2.2)]) (fun p:Nat×Int×Int×List (List UInt8)×Nat=>Zks l p.1 ⟨p.2.1,[],p.2.2.1⟩ p.2.2.2.1=a∧ImpS l p.1 ⟨p.2.1,[],p.2.2.1⟩ p.2.2.2.1∧p.2.2.2.2≤p.2.2.2.1.length) (fun p:Nat×Int×Int×List (List UInt8)×Nat=>p.1) (l.length+1,0,0,[],0) ?_ ?_ ?_
 ·exact ⟨ha,Jb4,by simp⟩
 ·exact Qt
 rintro ⟨f,i,e,imps,k⟩ ⟨hL,hI,hk⟩;simp only at hL hI hk;have hf:=hI.fuel;obtain ⟨f,rfl⟩:∃ k,f=k+1:=⟨f-1,by omega⟩
 rw [Zks] at hL;have m1:=Qkd hT hI.pos hI.sites;have o1:=m1.nums;have Jcp:=hI.cnt;simp only at o1;cases Qk:Ox l ⟨i,[],e⟩ 6 [105,109,112,111,114,116] with
 | true =>
  rw [if_neg (by rw [Qk];simp)] at hL
  have dN:=hI.next hT Qk;have K9:X3 ⟨i,[],e⟩=⟨i+1,[],e⟩:=rfl;have m2:=m1.is Qk;rw [K9] at hL dN m2;have o2:=m2.nums;simp only at o2;have m3:=m2.named 1;have aX:=bJ l ⟨i+1,[],e⟩ 1;obtain ⟨⟨x,⟨i2,s2,e2⟩⟩,Qo⟩:=exq (Jn l ⟨i+1,[],e⟩ 1);rw [Qo] at hL dN m3 aX;simp only at hL dN m3 aX;subst aX;have o3:=m3.nums;simp only at o3;have Ze2:=bZ l ⟨i2,[],e2⟩ 5 [59];obtain ⟨⟨i3,s3,e3⟩,Qi⟩:=exq (Qy l ⟨i2,[],e2⟩ 5 [59]);rw [Qi] at hL dN Ze2;simp only at Ze2;subst Ze2;by_cases Zfb:e2=0
  case neg =>
   rw [if_neg (fun h=>Zfb h.1)] at hL;have Qn:(e2==0)=false:=by rw [Za];exact Zfb
   have Kq:KfU:=⟨⟩;exact Jw
  subst Zfb;have Qn:((0:Int)==0)=true:=rfl;cases Ql:in6 imps x with
  | true =>
   rw [if_pos ⟨rfl,Ql⟩] at hL;obtain ⟨⟨Wa,Ws,We⟩,Qp⟩:=exq (J8 ⟨i+1,[],e⟩ 7);rw [Qp] at hL;subst hL;rw [if_pos rfl] at Zq;simp only at Zq;subst Zq;have Kq:KfV:=⟨⟩;exact Jw
  | false =>
   rw [if_neg (fun h=>by rw [Ql] at h;simp at h)] at hL
   have Kq:KfW:=⟨⟩;exact Jw
 | false =>
  rw [if_pos Qk] at hL;subst hL;rw [if_neg (by simp)] at Zq
  simp only at Zq;obtain ⟨b,hb⟩:=exq (Zbr l 201 ⟨i,[],e⟩ [] []);rw [hb] at Zq;have Qxl:DefS l 201 ⟨i,[],e⟩ [] []:=⟨m1,rfl,by simp,rfl⟩
  clear hI;have Kq:KfX:=⟨⟩;exact Jw):p:=h
theorem good_module6:Qc Tryz.prog (104,A6):=by
 obtain ⟨Kx,Kt,Kc,Kd,Kb,Ku,Kw,K,X4,V2,Mo,Tx,jB,vK,_⟩:=J7 Zx Zo [] false (Q1 Cd jF (Q1 U7 Ml (Q1 good_in6 iQ.eq_def (Q1 Gb T1 (Q1 Gn Lf (Q1 good_def6 pF.eq_def J5))))));have Ko:=A6.eq_def;refine J9 K Tryz.func104 [.cell 4 43,.cell 5 137,.tmp 6] rfl 113 rfl (fun c hc Ji Zh=>?_);unfold A6 at Zh;obtain ⟨⟨l⟩,name,rfl,hT⟩:=mV Zh;simp only at hT;clear Zh;have Is:=hT.len;obtain ⟨R,Qv⟩:=exq (Y9 l name);have Zq:=Qv;unfold Y9 at Zq;simp only at Zq;obtain ⟨a,ha⟩:=exq (Zks l (l.length+1) ⟨0,[],0⟩ []);rw [ha] at Zq;have Jb4:ImpS l (l.length+1) ⟨0,[],0⟩ []:=⟨⟨by simp,by simp⟩,rfl,fun _=>by simp,by simp,fun x hx=>(by cases hx),by omega⟩
 cases hc;refine W5 7 ?_;have Kq:KfT:=⟨⟩;exact Jw
theorem Zcn {s:List UInt8} (h:s.length≤1500):Toks (Lh s).1∧(Lh s).1.length≤1501:=by
 have Q5:(Lh s).1.length≤1501:=by
  unfold Lh;split
  ·simp
  ·have hb:=fC (s:=s) (i:=0) (by omega)
   obtain ⟨h1,h2,h3⟩:=qM (s:=s) (by omega) (s.length+1) (dW s 0) [] (fun t ht=>by cases ht) hb.2 (by simp)
   omega
 exact ⟨⟨by omega,(Zir s).1⟩,Q5⟩
def Zy8 (defs:List Def6):Nat:=defs.findIdx fun d=>!Ke d.e
def Cx (name text:List UInt8):Mod6×Int×Int :=
 let t:=Lh text
 if t.2.2≠0 then (Je,t.2.1,t.2.2)
 else
  let r:=Y9 t.1 name
  if r.2.1.e≠0 then (Je,(tk t.1 (Qdj r.2.1.at_ (t.1.length-1))).frm,r.2.1.e)
  else if Zy8 r.1.defs<r.1.defs.length then (Je,(tk t.1 (r.2.2.getD (Zy8 r.1.defs) 0)).frm,4)
  else (r.1,0,0)
def cB:Con:=C3 (fun (_ text:List UInt8)=>text.length≤1500) (fun name text=>Cx name text)
theorem Qd5 {p:Part} (h:aQ p):Qnw p:=by
 obtain ⟨⟨h1,h2⟩,⟨h3,h4⟩,h5,h6,h7⟩:=h;exact ⟨⟨⟨by omega,h2⟩,⟨by omega,h4⟩,by omega,by omega,by omega⟩,by omega⟩
class Kgf:Prop
theorem Kgf.k (_:Kgf) (h:p:=by
 first|exact Jbj|exact ⟨k+1,by exact Qt,by omega,Jg,by omega⟩|skip):p:=h
class Kge:Prop
theorem Kge.k (_:Kge) (h:p:=by
 refine Zm [5,6,48,49,50,51,52,53,54,55,56,57,58,59,60,61,62,63,64,65,66,67,68,69,70,71] (fun k:Nat=>[(13,.d (.int .i64 k))]) (fun k:Nat=>[]) (fun k:Nat=>k≤md.length∧∀ j,j<k→Ke (md.getD j Q6).e=true) (fun k:Nat=>md.length-k) 0 ?_ ?_ ?_
 ·exact ⟨by omega,fun j hj=>absurd hj (Nat.not_lt_zero j)⟩
 ·exact Qt
 rintro k ⟨Qp,Jl⟩;rcases Zn k md.length with ⟨Zv,Q3⟩|⟨Zv,Q3⟩
 ·have Qv:=Zp Q6 Zv;have Qfo:=Qs k Zv Jl;have Jg:Ke (md.getD k Q6).e=true→∀ j,j<k+1→Ke (md.getD j Q6).e=true:=fun h=>Vd Jl h;have Qwv:=M8 (md.getD k Q6) (by simp [Zv])
  obtain ⟨y,hy⟩:=exq (md.getD k Q6);rw [hy] at Qv Qfo Jg Qwv;have aA:y.e.length≤9223372036854775807:=by have:=Qwv.e;omega
  have Jbj:∀ p∈y.e,Qnw p:=fun p hp=>Qd5 (Qwv.fit p hp);cases Z3:Ke y.e with
  | false =>
   have Qfo:=Qfo Z3;rw [Qfo,if_pos Zv] at Zq;have Qsz:k<pl.length:=by omega
   have Jh:=Zp (0:Int) Qsz;have Qwa:=Qpq (pl.getD k 0) (by simp [Qsz])
   obtain ⟨x,hx⟩:=exq (pl.getD k 0);rw [hx] at Jh Qwa Zq;obtain ⟨x,rfl⟩:∃ n:Nat,x=n:=⟨x.toNat,by omega⟩
   simp only [Hh] at Zq;have Jb:=Zp Us (show x<l.length by omega)
   obtain ⟨t,ht⟩:=exq (l.getD x Us);rw [ht] at Jb Zq;subst Zq;clear Jl M8 Vt Qpq Qb9;have Z6:=@pJ;exact N6
  | true =>
   have Jg:=Jg Z3;clear Jl M8 Vt Qpq Qb9 Qfo;have Z6:=@pJ;have Kq:Kgf:=⟨⟩;exact Jw
 ·have Ni:k=md.length:=by omega
  rw [Ni] at Jl Q3;rw [if_neg (Qb9 Jl)] at Zq;subst Zq;clear Jl M8 Vt Qpq Qb9;exact N6):p:=h
theorem good_Parse6:Qc Tryz.prog (58,cB):=by
 obtain ⟨Kx,Kt,Kc,Kd,Kb,Ku,Kw,K,X4,V2,Mo,_⟩:=J7 Zx Zo [] false (Q1 good_Tokens2 Ic.eq_def (Q1 good_module6 A6.eq_def (Q1 good_Right5 cV.eq_def J5)));have Ko:=cB.eq_def;refine J9 K Tryz.func58 [.cell 4 43,.tmp 5,.tmp 6] rfl 73 rfl (fun c hc Ji Zh=>?_);unfold cB at Zh;obtain ⟨name,text,rfl,vA⟩:=mV Zh;clear Zh;obtain ⟨R,Qi⟩:=exq (Cx name text);have Zq:=Qi;unfold Cx at Zq;simp only at Zq;obtain ⟨hT,Qo2⟩:=Zcn vA;have Qvd:=(Zir text).2.2;obtain ⟨⟨l,at1,e1⟩,Qk⟩:=exq (Lh text);rw [Qk] at Zq hT Qo2 Qvd;simp only at Zq hT Qo2 Qvd;have Jao:text.length≤9223372036854775807:=by omega
 have Is:l.length≤9223372036854775807:=by omega
 by_cases Qiy:e1=0
 case neg =>
  rw [if_pos Qiy] at Zq;have Qo:(e1 != 0)=true:=bne_iff_ne.2 Qiy;subst Zq;cases hc;refine W5 4 ?_;exact N6
 rw [if_neg (by simpa using Qiy)] at Zq
 have Qo:(e1 != 0)=false:=by rw [bne_eq_false_iff_eq];exact Qiy
 have Qvd:=Qvd Qiy;obtain ⟨hP,fP,M8,Vt⟩:=xP hT name;obtain ⟨⟨m,⟨i2,ss2,e2⟩,pl⟩,Qn⟩:=exq (Y9 l name);rw [Qn] at Zq hP fP M8 Vt;simp only at Zq hP fP M8 Vt;have mN:=hP.lo;have Ob:=hP.hi;simp only at mN Ob;by_cases Zfb:e2=0
 case neg =>
  rw [if_pos Zfb] at Zq;have Ql:(e2 != 0)=true:=bne_iff_ne.2 Zfb;obtain ⟨k,Qp,aK⟩:∃ k:Nat,Qdj i2 ((l.length:Int)-1)=k∧k<l.length:=by
   refine ⟨(Qdj i2 ((l.length:Int)-1)).toNat,?_,?_⟩<;>unfold Qdj<;>split<;>omega
  have Qv:=Zp Us aK;rw [Qp] at Zq;simp only [Hh] at Zq;obtain ⟨t,ht⟩:=exq (l.getD k Us);rw [ht] at Qv Zq;subst Zq;cases hc;refine W5 4 ?_;exact N6
 rw [if_neg (by simpa using Zfb)] at Zq
 have Ql:(e2 != 0)=false:=by rw [bne_eq_false_iff_eq];exact Zfb
 obtain ⟨hM,qE,Qpq⟩:=Vt Zfb;obtain ⟨mn,mi,md,ms⟩:=m;simp only at Zq fP M8 qE;have Qs:∀ k,k<md.length→(∀ j,j<k→Ke (md.getD j Q6).e=true)→Ke (md.getD k Q6).e=false→Zy8 md=k:=fun k Qp h1 h2=>by
  unfold Zy8;rw [List.findIdx_eq Qp];refine ⟨?_,fun j hj=>?_⟩
  ·simpa [Qp] using h2
  ·have:=h1 j hj;simpa [show j<md.length by omega] using this
 have Qb9:(∀ j,j<md.length→Ke (md.getD j Q6).e=true)→¬ Zy8 md<md.length:=fun h1 h2=>by
  unfold Zy8 at h2;have h3:=List.findIdx_getElem (w:=h2);have h4:=h1 _ h2;simp [h2] at h4;simp [h4] at h3
 cases hc;refine W5 4 ?_;have Kq:Kge:=⟨⟩;exact Jw
end Go.Am.Ty
namespace Go.Am.Ty.Gr
open Go.Proofs
open Enc (enc dec)
abbrev Lo (n:Nat):Prop:=n≤9223372036854775807
theorem Qcg {p:Nat→Prop} {k:Nat} (h:∀ j,j<k→p j) (hk:p k):∀ j,j<k+1→p j:=fun j hj=>by
 rcases Nat.lt_or_ge j k with h1|h1
 ·exact h j h1
 ·have:j=k:=by omega
  exact this▸hk
def Zm4 (l:List Int) (n:Int):Bool:=l.any fun x=>x==n
def fY:Con:=Jy (fun (l:Sl Int) (_:Int)=>Lo l.l.length) (fun l n=>Zm4 l.l n)
class Kgh:Prop
theorem Kgh.k (_:Kgh) (h:p:=by
 first|exact ⟨k+1,by exact Qt,by omega,h2,by omega⟩|skip):p:=h
class Kgg:Prop
theorem Kgg.k (_:Kgg) (h:p:=by
 refine Zm [4,6,7,8,9,10,11,12,13,14,15,16,17] (fun k:Nat=>[(5,.d (.int .i64 k))]) (fun k:Nat=>[]) (fun k:Nat=>k≤l.length∧∀ j,j<k→l.getD j 0≠n) (fun k:Nat=>l.length-k) 0 ?_ ?_ ?_
 ·simp
 ·exact Qt
 rintro k ⟨hk,Jl⟩;rcases Zn k l.length with ⟨Zv,Qk⟩|⟨Zv,Qk⟩
 ·have Qo:=Zp (0:Int) Zv;have Jg:l.getD k 0≠n→∀ j,j<k+1→l.getD j 0≠n:=by
   intro h j hj;by_cases e:j=k
   ·subst e;exact h
   ·exact Jl j (by omega)
  have L9:(l.getD k 0==n)=true→Zm4 l n=true:=fun h=>fF 0 k Zv h;obtain ⟨x,hx⟩:=exq (l.getD k 0);rw [hx] at Qo Jg L9;cases Qi:(x==n) with
  | true =>
   have Qn:=L9 Qi;exact N6
  | false =>
   have h2:=Jg (by simpa using Qi)
   have Kq:Kgh:=⟨⟩;exact Jw
 ·have Qn:Zm4 l n=false:=Eb 0 fun j hj=>Za.2 (Jl j (by omega))
  exact dL):p:=h
theorem good_In08:Qc Tryz.prog (89,fY):=by
 obtain ⟨Kx,Kt,Kc,Kd,Kb,Ku,Kw,K,_⟩:=J7 Zx Zo [] false J5;have Ko:=fY.eq_def;refine J9 K Tryz.func89 [.tmp 4] rfl 18 rfl (fun c hc Ji Zh=>?_);unfold fY at Zh;obtain ⟨⟨l⟩,n,rfl,hl⟩:=Qf Zh;simp only at hl;cases hc;have Kq:Kgg:=⟨⟩;exact Jw
abbrev Ge:=Mod6
theorem aV:Sz.sz Ge=4:=rfl
theorem Yi {m:Ge}:(enc m:D)=.agg [.str m.name,.list 1 (m.imps.map enc),.list 3 (m.defs.map enc),.list 3 (m.sites.map enc)]:=rfl
def m0:Ge:=⟨[],[],[],[]⟩
abbrev nm (l:List Ge) (k:Nat):List UInt8:=(l.getD k m0).name
def Un:List Ge→List UInt8→Option Nat
 | [],_=>none
 | m::l,s=>if m.name=s then some 0 else (Un l s).map (·+1)
def W8 (l:List Ge) (s:List UInt8):Int:=match Un l s with
 | some k=>k
 | none=>-1
theorem Zlh:∀ {l:List Ge} {s:List UInt8} {k:Nat},k<l.length→(∀ j,j<k→nm l j≠s)→nm l k=s→Un l s=some k
 | [],s,k,h,_,_=>by simp at h
 | m::l,s,0,_,_,h=>by
  simp only [nm,List.getD_cons_zero] at h;simp [Un,h]
 | m::l,s,k+1,h,Jl,hk=>by
  have h0:=Jl 0 (by omega)
  simp only [nm,List.getD_cons_zero] at h0;rw [Un,if_neg h0,Zlh (k:=k) (by simpa using h) (fun j hj=>by
   have:=Jl (j+1) (by omega)
   simpa [nm] using this) (by simpa [nm] using hk)]
  rfl
theorem zQ:∀ {l:List Ge} {s:List UInt8},(∀ j,j<l.length→nm l j≠s)→Un l s=none
 | [],s,_=>rfl
 | m::l,s,Jl=>by
  have h0:=Jl 0 (by simp)
  simp only [nm,List.getD_cons_zero] at h0;rw [Un,if_neg h0,zQ fun j hj=>by
   have:=Jl (j+1) (by simpa using hj)
   simpa [nm] using this]
  rfl
theorem Qhd {l:List Ge} {s:List UInt8} {k:Nat} (h:k<l.length) (Jl:∀ j,j<k→nm l j≠s) (hk:nm l k=s):W8 l s=k:=by
 rw [W8,Zlh h Jl hk]
theorem Zyo {l:List Ge} {s:List UInt8} (Jl:∀ j,j<l.length→nm l j≠s):W8 l s=-1:=by
 rw [W8,zQ Jl]
def El:Con:=Jy (fun (l:Sl Ge) (_:List UInt8)=>Lo l.l.length) (fun l s=>W8 l.l s)
class Kgj:Prop
theorem Kgj.k (_:Kgj) (h:p:=by
 first|exact ⟨k+1,by exact Qt,by omega,h2,by omega⟩|skip):p:=h
class Kgi:Prop
theorem Kgi.k (_:Kgi) (h:p:=by
 refine Zm [4,6,7,8,9,10,11,12,13,14,15,16,17,18,19] (fun k:Nat=>[(5,.d (.int .i64 k))]) (fun k:Nat=>[]) (fun k:Nat=>k≤l.length∧∀ j,j<k→nm l j≠s) (fun k:Nat=>l.length-k) 0 ?_ ?_ ?_
 ·simp
 ·exact Qt
 rintro k ⟨hk,Jl⟩;rcases Zn k l.length with ⟨Zv,Qk⟩|⟨Zv,Qk⟩
 ·have Qo:=Zp m0 Zv;have Jg:nm l k≠s→∀ j,j<k+1→nm l j≠s:=fun h=>Qcg Jl h;have L9:nm l k=s→W8 l s=k:=fun h=>Qhd Zv Jl h;unfold nm at Jg L9;obtain ⟨x,hx⟩:=exq (l.getD k m0);rw [hx] at Qo Jg L9;cases Qi:(x.name==s) with
  | true =>
   have Qn:=L9 (by simpa using Qi)
   have Ql:=@Yi;have Qp:=@aV;exact N6
  | false =>
   have h2:=Jg (by simpa using Qi)
   have Ql:=@Yi;have Qp:=@aV;have Kq:Kgj:=⟨⟩;exact Jw
 ·have Qn:W8 l s=-1:=Zyo fun j hj=>Jl j (by omega)
  have Ql:=@aV;exact dL):p:=h
theorem good_find8:Qc Tryz.prog (86,El):=by
 obtain ⟨Kx,Kt,Kc,Kd,Kb,Ku,Kw,K,_⟩:=J7 Zx Zo [] false J5;have Ko:=El.eq_def;refine J9 K Tryz.func86 [.tmp 4] rfl 20 rfl (fun c hc Ji Zh=>?_);unfold El at Zh;obtain ⟨⟨l⟩,s,rfl,hl⟩:=Qf Zh;simp only at hl;cases hc;have Kq:Kgi:=⟨⟩;exact Jw
abbrev imp (l:List Ge) (k:Nat):List (List UInt8):=(l.getD k m0).imps
def Qe3 (l:List Ge):Prop:=l.length≤20∧∀ k,(imp l k).length≤2000
theorem Zgp {l:List Ge} (h:Qe3 l):l.length≤20:=h.1
theorem Zgq {l:List Ge} (h:Qe3 l) (k:Nat):(imp l k).length≤2000:=h.2 k
theorem Rc:∀ {l:List Ge} {s:List UInt8} {k:Nat},Un l s=some k→k<l.length
 | [],s,k,h=>by simp [Un] at h
 | m::l,s,k,h=>by
  rw [Un] at h;by_cases hm:m.name=s
  ·rw [if_pos hm] at h;injection h with h
   subst h;simp
  ·rw [if_neg hm] at h;cases hf:Un l s with
   | none=>rw [hf] at h;cases h
   | some j =>
    rw [hf] at h;simp only [Option.map_some,Zb] at h;have:=Rc hf;simp only [Zi];omega
def aR (l:List Ge) (i:Int) (come:List Int):Bool:=(imp l i.toNat).all fun s=>Zm4 come (W8 l s)
def bN:Con:=Um (fun (l:Sl Ge) (i:Int) (c:Sl Int)=>Qe3 l.l∧0≤i∧i<l.l.length∧Lo c.l.length) (fun l i c=>aR l.l i c.l)
class Kgl:Prop
theorem Kgl.k (_:Kgl) (h:p:=by
 first|exact ⟨k+1,by exact Qt,by omega,hs,by omega⟩|skip):p:=h
class Kgk:Prop
theorem Kgk.k (_:Kgk) (h:p:=by
 refine Zm [6,8,9,10,11,12,13,14,15,16,17,18,19,20,21,22,23,24,25,26,27,28,29,30] (fun k:Nat=>[(7,.d (.int .i64 k))]) (fun k:Nat=>[]) (fun k:Nat=>k≤x.imps.length∧∀ j,j<k→Zm4 c0 (W8 l (x.imps.getD j []))=true) (fun k:Nat=>x.imps.length-k) 0 ?_ ?_ ?_
 ·simp
 ·exact Qt
 rintro k ⟨hk,Jl⟩;rcases Zn k x.imps.length with ⟨Zv,Qk⟩|⟨Zv,Qk⟩
 ·have Qi:=Zp ([]:List UInt8) Zv;have Jg:Zm4 c0 (W8 l (x.imps.getD k []))=true→∀ j,j<k+1→Zm4 c0 (W8 l (x.imps.getD j []))=true:=fun h=>Qcg Jl h;have Qs:Zm4 c0 (W8 l (x.imps.getD k []))=false→R=false:=fun h=>by
   rw [←Zq];exact Ec (p:=fun s=>Zm4 c0 (W8 l s)) [] k Zv h
  obtain ⟨y,hy⟩:=exq (x.imps.getD k []);rw [hy] at Qi Jg Qs;cases Qn:Zm4 c0 (W8 l y) with
  | true =>
   have hs:=Jg Qn;have Qp:=@Yi;have Qv:=@aV;have Kq:Kgl:=⟨⟩;exact Jw
  | false =>
   have hr:=Qs Qn;subst hr;have Qp:=@Yi;have Qv:=@aV;exact N6
 ·have hr:R=true:=by
   rw [←Zq];exact Mk (p:=fun s=>Zm4 c0 (W8 l s)) [] fun j hj=>Jl j (by omega)
  subst hr;have Qp:=@Yi;have Qv:=@aV;exact N6):p:=h
theorem good_ready8:Qc Tryz.prog (90,bN):=by
 obtain ⟨Kx,Kt,Kc,Kd,Kb,Ku,Kw,K,X4,V2,_⟩:=J7 Zx Zo [] false (Q1 good_find8 El.eq_def (Q1 good_In08 fY.eq_def J5));have Ko:=bN.eq_def;refine J9 K Tryz.func90 [.tmp 6] rfl 31 rfl (fun c hc Ji Zh=>?_);unfold bN at Zh;obtain ⟨⟨l⟩,i,⟨c0⟩,rfl,hf,Znb,Ai,Qmt⟩:=Vb Zh;simp only at hf Znb Ai Qmt;clear Zh;obtain ⟨n,rfl⟩:=Int.eq_ofNat_of_zero_le Znb;have Qth:=Zgp hf;have Zm0:=Zgq hf n;have Qs7:n<l.length:=by omega
 have Qo:=Zp m0 Qs7;obtain ⟨R,Ql⟩:=exq (aR l n c0);have Zq:=Ql;unfold aR at Zq;rw [Zl] at Zq;unfold imp at Zq Zm0;obtain ⟨x,hx⟩:=exq (l.getD n m0);rw [hx] at Qo Zq Zm0;cases hc;have Kq:Kgk:=⟨⟩;exact Jw
def bestN (l:List Ge) (is:List Bool):Nat→Int
 | 0=>-1
 | k+1=>cond (is.getD k false&&(Wd (bestN l is k) 0||Op.bytesLess (nm l k) (nm l (bestN l is k).toNat))) (k:Int) (bestN l is k)
theorem Zl3 (l:List Ge) (is:List Bool):∀ k,bestN l is k=-1∨(0≤bestN l is k∧bestN l is k<k)
 | 0=>.inl rfl
 | k+1=>by
  have ih:=Zl3 l is k;rw [bestN];cases is.getD k false&&(Wd (bestN l is k) 0||Op.bytesLess (nm l k) (nm l (bestN l is k).toNat)) with
  | true=>right;simp only [cond_true];omega
  | false=>simp only [cond_false];omega
def bP:Con:=Jy (fun (l:Sl Ge) (is:Sl Bool)=>l.l.length≤20∧is.l.length=l.l.length) (fun l is=>bestN l.l is.l l.l.length)
class Kgn:Prop
theorem Kgn.k (_:Kgn) (h:p:=by
 first|exact ⟨k+1,by rw [hb',hS];exact Qt,by omega,by omega⟩|skip):p:=h
class Kgo:Prop
theorem Kgo.k (_:Kgo) (h:p:=by
 first|exact ⟨k+1,by rw [hb',Qi3];exact Qt,by omega,by omega⟩|skip):p:=h
class Kgp:Prop
theorem Kgp.k (_:Kgp) (h:p:=by
 first|exact ⟨k+1,by rw [hb',hS];exact Qt,by omega,by omega⟩|skip):p:=h
class Kgq:Prop
theorem Kgq.k (_:Kgq) (h:p:=by
 first|exact ⟨k+1,by rw [hb',hS];exact Qt,by omega,by omega⟩|skip):p:=h
class Kgm:Prop
theorem Kgm.k (_:Kgm) (h:p:=by
 refine Zm [7,8,9,10,11,12,13,14,15,16,17,18,19,20,21,22,23,24,25,26,27,28,29,30,31,32,33,34] (fun k:Nat=>[(5,.d (.int .i64 (bestN l is k))),(6,.d (.int .i64 k))]) (fun k:Nat=>[]) (fun k:Nat=>k≤l.length) (fun k:Nat=>l.length-k) 0 ?_ ?_ ?_
 ·simp
 ·have Vc:=@bestN.eq_1;exact Qt
 rintro k hk;rcases Zn k l.length with ⟨Zv,Qk⟩|⟨Zv,Qk⟩
 ·have Qo:=Zp m0 Zv;have Qi:=Zp false (show k<is.length by omega)
  have hB:=Zl3 l is k;have hS:bestN l is (k+1)=cond (is.getD k false&&(Wd (bestN l is k) 0||Op.bytesLess (nm l k) (nm l (bestN l is k).toNat))) (k:Int) (bestN l is k):=rfl;obtain ⟨b,hb⟩:=exq (bestN l is k);obtain ⟨b',hb'⟩:=exq (bestN l is (k+1));rw [hb] at hB;rw [hb,hb'] at hS;rw [hb];unfold nm at hS;obtain ⟨x,hx⟩:=exq (l.getD k m0);rw [hx] at Qo hS;cases Ze7:is.getD k false with
  | false =>
   rw [Ze7] at Qi hS;simp only [Bool.false_and,cond_false] at hS;have Q3:=@Yi;have Jh:=@aV;have Kq:Kgn:=⟨⟩;exact Jw
  | true =>
   rw [Ze7] at Qi hS;simp only [Bool.true_and] at hS;rcases hB with hB|⟨Qpf,Qz9⟩
   ·subst hB;have Qi3:b'=k:=hS;have Q3:=@Yi;have Jh:=@aV;have Kq:Kgo:=⟨⟩;exact Jw
   ·obtain ⟨p,rfl⟩:=Int.eq_ofNat_of_zero_le Qpf;have Qn:=Zp m0 (show p<l.length by omega)
    have Ql:Wd (p:Int) 0=false:=by rw [Q7];omega
    rw [Zl] at hS;obtain ⟨y,hy⟩:=exq (l.getD p m0);rw [hy] at Qn hS;rw [Ql,Bool.false_or] at hS;cases Qp:Op.bytesLess x.name y.name with
    | true =>
     rw [Qp,cond_true] at hS;have Q3:=@Yi;have Jh:=@aV;have Kq:Kgp:=⟨⟩;exact Jw
    | false =>
     rw [Qp,cond_false] at hS;have Q3:=@Yi;have Jh:=@aV;have Kq:Kgq:=⟨⟩;exact Jw
 ·have Qv:k=l.length:=by omega
  rw [Qv];have Q3:=@aV;exact N6):p:=h
theorem good_least8:Qc Tryz.prog (88,bP):=by
 obtain ⟨Kx,Kt,Kc,Kd,Kb,Ku,Kw,K,_⟩:=J7 Zx Zo [] false J5;have Ko:=bP.eq_def;refine J9 K Tryz.func88 [.tmp 4] rfl 36 rfl (fun c hc Ji Zh=>?_);unfold bP at Zh;obtain ⟨⟨l⟩,⟨is⟩,rfl,hl,Zhv⟩:=Qf Zh;simp only at hl Zhv;clear Zh;cases hc;refine W5 2 ?_;have Kq:Kgm:=⟨⟩;exact Jw
def Qi6 (l:List Ge) (b:List Bool) (s:List UInt8):List Bool:=match Un l s with
 | some n=>b.set n true
 | none=>b
def C9 (l:List Ge) (b:List Bool) (ss:List (List UInt8)):List Bool:=ss.foldl (Qi6 l) b
def wL (l:List Ge) (i:Int) (b:List Bool) (k:Nat):List Bool:=cond (((k:Int) != i)&&!b.getD k false) b (C9 l b (imp l k))
def Kn (l:List Ge) (i:Int) (b:List Bool):Nat→List Bool
 | 0=>b
 | k+1=>wL l i (Kn l i b k) k
def X9 (l:List Ge) (i:Int):Nat→List Bool
 | 0=>List.replicate l.length false
 | r+1=>Kn l i (X9 l i r) l.length
def Xh (l:List Ge) (i:Int):List Bool:=X9 l i (l.length+1)
theorem Qan {l:List Ge} {b:List Bool} {s:List UInt8}:(Qi6 l b s).length=b.length:=by
 unfold Qi6;split<;>simp
theorem gJ {l:List Ge}:∀ {ss:List (List UInt8)} {b:List Bool},(C9 l b ss).length=b.length
 | [],b=>rfl
 | s::ss,b=>by
  show (C9 l (Qi6 l b s) ss).length=_;rw [gJ,Qan]
theorem xT {l:List Ge} {b:List Bool} {ss:List (List UInt8)} {j:Nat} (h:j<ss.length):C9 l b (ss.take (j+1))=Qi6 l (C9 l b (ss.take j)) (ss.getD j []):=by
 unfold C9;rw [List.take_succ_eq_append_getElem h,List.foldl_append];simp [h]
theorem Zw5 {l:List Ge} {i:Int} {b:List Bool} {k:Nat}:(wL l i b k).length=b.length:=by
 unfold wL;cases ((k:Int) != i)&&!b.getD k false
 ·rw [cond_false,gJ]
 ·rfl
theorem Sg {l:List Ge} {i:Int} {b:List Bool}:∀ k,(Kn l i b k).length=b.length
 | 0=>rfl
 | k+1=>by rw [Kn,Zw5,Sg k]
theorem Yt {l:List Ge} {i:Int}:∀ r,(X9 l i r).length=l.length
 | 0=>by simp [X9]
 | r+1=>by rw [X9,Sg,Yt r]
theorem Zkb {b:List Bool} {n:Nat}:(b.map (enc:Bool→D)).set n (.bool true)=(b.set n true).map enc:=by
 rw [List.map_set];rfl
def Dt:Con:=Jy (fun (l:Sl Ge) (_:Int)=>Qe3 l.l) (fun l i=>Sl.mk (Xh l.l i))
class Kgt:Prop
theorem Kgt.k (_:Kgt) (h:p:=by
 first|exact ⟨k+1,by rw [aB,Zb7];exact Qt,by omega,by omega⟩|skip):p:=h
class Kgv:Prop
theorem Kgv.k (_:Kgv) (h:p:=by
 first|exact ⟨j+1,by rw [vB];exact Qt,by omega,by omega⟩|skip):p:=h
class Kgw:Prop
theorem Kgw.k (_:Kgw) (h:p:=by
 first|exact ⟨j+1,by rw [vB,←Qmj];exact Qt,by omega,by omega⟩|skip):p:=h
class Kgx:Prop
theorem Kgx.k (_:Kgx) (h:p:=by
 first|exact ⟨k+1,by rw [aB,Zb7];exact Qt,by omega,by omega⟩|skip):p:=h
class Kgu:Prop
theorem Kgu.k (_:Kgu) (h:p:=by
 refine Zm [9,35,36,37,38,39,40,41,42,43,44,45,46,47,48,49,50,51,52,53,54,55,56,57,58,59] (fun j:Nat=>[(8,.d (.int .i64 j))]) (fun j:Nat=>[(12,.row 1 ((C9 l b1 (x.imps.take j)).map enc) 0)]) (fun j:Nat=>j≤x.imps.length) (fun j:Nat=>x.imps.length-j) 0 ?_ ?_ ?_
 ·omega
 ·have Vc:=@C9.eq_1;exact Qt
 rintro j hj;have Z6:=gJ (l:=l) (ss:=x.imps.take j) (b:=b1);obtain ⟨b3,Qld⟩:=exq (C9 l b1 (x.imps.take j));rw [Qld] at Z6 ⊢;rcases Zn j x.imps.length with ⟨C6,Jh⟩|⟨C6,Jh⟩
 ·have Jb:=Zp ([]:List UInt8) C6;have vB:=xT (l:=l) (b:=b1) C6;rw [Qld] at vB;obtain ⟨y,hy⟩:=exq (x.imps.getD j []);rw [hy] at Jb vB;unfold Qi6 at vB;cases sN:Un l y with
  | none =>
   have Z3:W8 l y=-1:=by unfold W8;rw [sN]
   rw [sN] at vB;simp only at vB;have Qg:=@Yi;have Qr:=@aV;have Kq:Kgv:=⟨⟩;exact Jw
  | some p =>
   have Z3:W8 l y=p:=by unfold W8;rw [sN]
   have qE:=Rc sN;have Z7:Xp 0 (p:Int)=true:=by rw [Q9];omega
   rw [sN] at vB;simp only at vB;have Qmj:=Zkb (b:=b3) (n:=p);have Qq:=Zp false (show p<b3.length by omega)
   obtain ⟨bv,Qw3⟩:=exq (b3.getD p false);rw [Qw3] at Qq;have Qg:=@Yi;have Qr:=@aV;have Kq:Kgw:=⟨⟩;exact Jw
 ·have wZ:j=x.imps.length:=by omega
  rw [wZ,List.take_length] at Qld;rw [Qld] at Zb7;have Qg:=@Yi;have Qr:=@aV;have Kq:Kgx:=⟨⟩;exact Jw):p:=h
class Kgz:Prop
theorem Kgz.k (_:Kgz) (h:p:=by
 first|exact ⟨j+1,by rw [vB];exact Qt,by omega,by omega⟩|skip):p:=h
class KgA:Prop
theorem KgA.k (_:KgA) (h:p:=by
 first|exact ⟨j+1,by rw [vB,←Qmj];exact Qt,by omega,by omega⟩|skip):p:=h
class KgB:Prop
theorem KgB.k (_:KgB) (h:p:=by
 first|exact ⟨k+1,by rw [aB,Zb7];exact Qt,by omega,by omega⟩|skip):p:=h
class Kgy:Prop
theorem Kgy.k (_:Kgy) (h:p:=by
 refine Zm [9,35,36,37,38,39,40,41,42,43,44,45,46,47,48,49,50,51,52,53,54,55,56,57,58,59] (fun j:Nat=>[(8,.d (.int .i64 j))]) (fun j:Nat=>[(12,.row 1 ((C9 l b1 (x.imps.take j)).map enc) 0)]) (fun j:Nat=>j≤x.imps.length) (fun j:Nat=>x.imps.length-j) 0 ?_ ?_ ?_
 ·omega
 ·have Vc:=@C9.eq_1;exact Qt
 rintro j hj;have Z6:=gJ (l:=l) (ss:=x.imps.take j) (b:=b1);obtain ⟨b3,Qld⟩:=exq (C9 l b1 (x.imps.take j));rw [Qld] at Z6 ⊢;rcases Zn j x.imps.length with ⟨C6,Jh⟩|⟨C6,Jh⟩
 ·have Jb:=Zp ([]:List UInt8) C6;have vB:=xT (l:=l) (b:=b1) C6;rw [Qld] at vB;obtain ⟨y,hy⟩:=exq (x.imps.getD j []);rw [hy] at Jb vB;unfold Qi6 at vB;cases sN:Un l y with
  | none =>
   have Z3:W8 l y=-1:=by unfold W8;rw [sN]
   rw [sN] at vB;simp only at vB;have Qg:=@Yi;have Qr:=@aV;have Kq:Kgz:=⟨⟩;exact Jw
  | some p =>
   have Z3:W8 l y=p:=by unfold W8;rw [sN]
   have qE:=Rc sN;have Z7:Xp 0 (p:Int)=true:=by rw [Q9];omega
   rw [sN] at vB;simp only at vB;have Qmj:=Zkb (b:=b3) (n:=p);have Qq:=Zp false (show p<b3.length by omega)
   obtain ⟨bv,Qw3⟩:=exq (b3.getD p false);rw [Qw3] at Qq;have Qg:=@Yi;have Qr:=@aV;have Kq:KgA:=⟨⟩;exact Jw
 ·have wZ:j=x.imps.length:=by omega
  rw [wZ,List.take_length] at Qld;rw [Qld] at Zb7;have Qg:=@Yi;have Qr:=@aV;have Kq:KgB:=⟨⟩;exact Jw):p:=h
class KgC:Prop
theorem KgC.k (_:KgC) (h:p:=by
 first|exact ⟨r+1,by exact Qt,by omega,by omega⟩|skip):p:=h
class Kgs:Prop
theorem Kgs.k (_:Kgs) (h:p:=by
 refine Zm [8,9,19,20,21,22,23,24,25,26,27,28,29,30,31,32,33,34,35,36,37,38,39,40,41,42,43,44,45,46,47,48,49,50,51,52,53,54,55,56,57,58,59] (fun k:Nat=>[(7,.d (.int .i64 k))]) (fun k:Nat=>[(12,.row 1 ((Kn l i b0 k).map enc) 0)]) (fun k:Nat=>k≤l.length) (fun k:Nat=>l.length-k) 0 ?_ ?_ ?_
 ·omega
 ·have Vc:=@Kn.eq_1;have Cs:=@Kn.eq_2;exact Qt
 rintro k hk;have Qp:=Sg (l:=l) (i:=i) (b:=b0) k;have Zb7:Kn l i b0 (k+1)=cond (((k:Int) != i)&&!(Kn l i b0 k).getD k false) (Kn l i b0 k) (C9 l (Kn l i b0 k) (imp l k)):=rfl;obtain ⟨b1,wX⟩:=exq (Kn l i b0 k);obtain ⟨b2,aB⟩:=exq (Kn l i b0 (k+1));rw [wX] at Qp;rw [wX,aB] at Zb7;rcases Zn k l.length with ⟨Zv,Qo⟩|⟨Zv,Qo⟩
 ·rw [wX];have Qi:=Zp m0 Zv;have Qn:=Zp false (show k<b1.length by omega)
  have Zm0:=Zgq hf k;unfold imp at Zm0 Zb7;obtain ⟨x,hx⟩:=exq (l.getD k m0);rw [hx] at Qi Zm0 Zb7;cases qG:(((k:Int) != i)&&!b1.getD k false) with
  | true =>
   rw [qG,cond_true] at Zb7;simp only [Zg,Bool.not_eq_true'] at qG;obtain ⟨Ql,Qol⟩:=qG;rw [Qol] at Qn;have Qg:=@Yi;have Qr:=@aV;have Kq:Kgt:=⟨⟩;exact Jw
  | false =>
   rw [qG,cond_false] at Zb7;obtain ⟨c1,Qp1⟩:=exq (b1.getD k false);rw [Qp1] at Qn qG;obtain ⟨c2,Q3⟩:=exq (((k:Int) != i));rw [Q3] at qG;have inner:True:=trivial;cases c2 with
   | true =>
    have hc1':c1=true:=by simpa using qG
    subst hc1';have Qg:=@Yi;have Qr:=@aV;have Kq:Kgu:=⟨⟩;exact Jw
   | false =>
    have Qg:=@Yi;have Qr:=@aV;have Kq:Kgy:=⟨⟩;exact Jw
 ·have Qj:k=l.length:=by omega
  rw [Qj,←dN];have Qg:=@aV;have Kq:KgC:=⟨⟩;exact Jw):p:=h
class Kgr:Prop
theorem Kgr.k (_:Kgr) (h:p:=by
 refine Zm [7,8,9,13,14,15,16,17,18,19,20,21,22,23,24,25,26,27,28,29,30,31,32,33,34,35,36,37,38,39,40,41,42,43,44,45,46,47,48,49,50,51,52,53,54,55,56,57,58,59] (fun r:Nat=>[(5,.sl 12 l.length),(6,.d (.int .i64 r))]) (fun r:Nat=>[(12,.row 1 ((X9 l i r).map enc) 0)]) (fun r:Nat=>r≤l.length+1) (fun r:Nat=>l.length+1-r) 0 ?_ ?_ ?_
 ·omega
 ·have Vc:=@X9.eq_1;have Cs:=@X9.eq_2;exact Qt
 rintro r hr;have Qv:=Yt (l:=l) (i:=i) r;have dN:X9 l i (r+1)=Kn l i (X9 l i r) l.length:=rfl;obtain ⟨b0,Qm⟩:=exq (X9 l i r);by_cases Jcj:r≤l.length
 ·have Qk:Xp (r:Int) (l.length:Int)=true:=by rw [Q9];omega
  rw [Qm] at Qv dN ⊢;have Qg:=@aV;have Kq:Kgs:=⟨⟩;exact Jw
 ·have hrl':r=l.length+1:=by omega
  have Qk:Xp (r:Int) (l.length:Int)=false:=by rw [St];omega
  have Qx:Xh l i=b0:=by unfold Xh;rw [←hrl',Qm]
  rw [Qm] at Qv;rw [Qm];have Qg:=@aV;exact N6):p:=h
theorem good_reached8:Qc Tryz.prog (87,Dt):=by
 obtain ⟨Kx,Kt,Kc,Kd,Kb,Ku,Kw,K,X4,_⟩:=J7 Zx Zo [] false (Q1 good_find8 El.eq_def J5);have Ko:=Dt.eq_def;refine J9 K Tryz.func87 [.tmp 4] rfl 61 rfl (fun c hc Ji Zh=>?_);unfold Dt at Zh;obtain ⟨⟨l⟩,i,rfl,hf⟩:=Qf Zh;simp only at hf;clear Zh;have Qth:=Zgp hf;cases hc;refine W5 3 ?_;have Qg:=@aV;have Kq:Kgr:=⟨⟩;exact Jw
def Hu {A R S T:Type} [Enc A] [Enc R] [Enc S] [Enc T] (p:A→Prop) (f:A→R×S×T):Con:=⟨[false],[false,false,false],fun c=>match c with
 | [.d x]=>Ul A x∧p (dec x)
 | _=>False,fun c=>match c with
 | [.d x]=>.tup [.d (enc (f (dec x)).1),.d (enc (f (dec x)).2.1),.d (enc (f (dec x)).2.2)]
 | _=>.d .nilp⟩
theorem Zen {A R S T:Type} [Enc A] [Enc R] [Enc S] [Enc T] {p:A→Prop} {f:A→R×S×T} {c:List CV} (h:(Hu p f).pre c):∃ a,c=[.d (enc a)]∧p a:=by
 unfold Hu at h;simp only at h;split at h
 ·next x=>exact ⟨dec x,by rw [←h.1],h.2⟩
 ·exact h.elim
theorem Zle {p:Nat→Bool}:∀ {n k:Nat},k<n→(∀ j,j<k→p j=false)→p k=true→(List.range n).find? p=some k:=by
 intro n k hk Jl hp;rw [List.find?_eq_some_iff_append];refine ⟨hp,List.range k,(List.range' (k+1) (n-k-1)),?_,fun a ha=>?_⟩
 ·rw [List.range_eq_range',List.range_eq_range',show n=k+(1+(n-k-1)) by omega,List.range'_append_1.symm]
  rw [show 1+(n-k-1)=(n-k-1)+1 by omega,List.range'_succ]
  simp
 ·rw [Jl a (List.mem_range.1 ha)];rfl
theorem Zld {p:Nat→Bool} {n:Nat} (Jl:∀ j,j<n→p j=false):(List.range n).find? p=none:=by
 rw [List.find?_eq_none];intro x hx;rw [Jl x (List.mem_range.1 hx)];simp
def fillN (f:Nat→Bool) (n:Nat):Nat→List Bool
 | 0=>List.replicate n false
 | k+1=>(fillN f n k).set k (f k)
theorem O0 (f:Nat→Bool) (n:Nat):∀ k,(fillN f n k).length=n
 | 0=>by simp [fillN]
 | k+1=>by rw [fillN,List.length_set,O0 f n k]
theorem Zlj (f:Nat→Bool) (n:Nat):∀ k j,k≤n→j<n→(fillN f n k)[j]?=some (if j<k then f j else false)
 | 0,j,_,hj=>by simp [fillN,hj]
 | k+1,j,hk,hj=>by
  have ih:=Zlj f n k j (by omega) hj
  rw [fillN,List.getElem?_set];by_cases e:k=j
  ·subst e;rw [if_pos rfl,if_pos (by rw [O0];exact hj),if_pos (by omega)]
  ·rw [if_neg e,ih];by_cases h:j<k
   ·rw [if_pos h,if_pos (by omega)]
   ·rw [if_neg h,if_neg (by omega)]
theorem gI (f:Nat→Bool) (n:Nat):fillN f n n=(List.range n).map f:=by
 apply List.ext_getElem?;intro j;rcases Nat.lt_or_ge j n with hj|hj
 ·rw [Zlj f n n j (Zr _) hj,if_pos hj];simp [hj]
 ·rw [List.getElem?_eq_none (by rw [O0];exact hj),List.getElem?_eq_none (by simpa using hj)]
def zK (l:List Ge) (k:Nat):Bool:=Wd (W8 l (nm l k)) (k:Int)
def eD (l:List Ge) (k:Nat):Bool:=(imp l k).any fun s=>Wd (W8 l s) 0
def sY (l:List Ge) (k:Nat):Bool:=(Xh l (k:Int)).getD k false
def mayB (l:List Ge) (out:List Int) (k:Nat):Bool:=!Zm4 out (k:Int)&&aR l (k:Int) out
def Gy (l:List Ge):Nat→List Int
 | 0=>[]
 | r+1=>Gy l r++[bestN l ((List.range l.length).map (mayB l (Gy l r))) l.length]
theorem Ky (l:List Ge):∀ r,(Gy l r).length=r
 | 0=>rfl
 | r+1=>by rw [Gy,Ze,Ky l r];rfl
def Nm (l:List Ge):Sl Int×Int×Int:=match (List.range l.length).find? (zK l) with
 | some i=>(⟨[]⟩,i,7)
 | none=>match (List.range l.length).find? (eD l) with
  | some i=>(⟨[]⟩,i,6)
  | none=>cond (Xp 0 (bestN l ((List.range l.length).map (sY l)) l.length)) (⟨[]⟩,bestN l ((List.range l.length).map (sY l)) l.length,8) (⟨Gy l l.length⟩,0,0)
def cC:Con:=Hu (fun (l:Sl Ge)=>Qe3 l.l) (fun l=>Nm l.l)
class KgE:Prop
theorem KgE.k (_:KgE) (h:p:=by
 first|exact ⟨k+1,by exact Qt,by omega,hs,by omega⟩|skip):p:=h
class KgH:Prop
theorem KgH.k (_:KgH) (h:p:=by
 first|exact ⟨j+1,by exact Qt,by omega,hs,by omega⟩|skip):p:=h
class KgI:Prop
theorem KgI.k (_:KgI) (h:p:=by
 first|exact ⟨k+1,by exact Qt,by omega,hs,by omega⟩|skip):p:=h
class KgG:Prop
theorem KgG.k (_:KgG) (h:p:=by
 refine Zm [2,3,4,36,37,38,39,40,41,42,43,44,45,46,47,48,49,50,51,52,53,54,55,56,57] (fun j:Nat=>[(7,.d (.int .i64 j))]) (fun j:Nat=>[]) (fun j:Nat=>j≤x.imps.length∧∀ i,i<j→0≤W8 l (x.imps.getD i [])) (fun j:Nat=>x.imps.length-j) 0 ?_ ?_ ?_
 ·simp
 ·exact Qt
 rintro j ⟨hj,Ze5⟩;rcases Zn j x.imps.length with ⟨C6,Ql⟩|⟨C6,Ql⟩
 ·have Qp:=Zp ([]:List UInt8) C6;have Za9:Wd (W8 l (x.imps.getD j [])) 0=false→∀ i,i<j+1→0≤W8 l (x.imps.getD i []):=fun h=>Qcg Ze5 (by rw [Q7] at h;omega)
  have dD:Wd (W8 l (x.imps.getD j [])) 0=true→R1=⟨[]⟩∧R2=k∧R3=6:=fun h=>L9 (fF (p:=fun s=>Wd (W8 l s) 0) [] j C6 h);obtain ⟨y,hy⟩:=exq (x.imps.getD j []);rw [hy] at Qp Za9 dD;cases Qi:Wd (W8 l y) 0 with
  | true =>
   obtain ⟨e1,e2,e3⟩:=dD Qi;subst e1 e2 e3;have Qm:=@Hu.eq_def;have Qg:=@Yi;have Qr:=@aV;exact N6
  | false =>
   have hs:=Za9 Qi;have Qm:=@Yi;have Qg:=@aV;have Kq:KgH:=⟨⟩;exact Jw
 ·have hs:=Jg (Eb (p:=fun s=>Wd (W8 l s) 0) [] fun i hi=>by have:=Ze5 i (by omega);rw [Q7];omega)
  have Qm:=@Yi;have Qg:=@aV;have Kq:KgI:=⟨⟩;exact Jw):p:=h
class KgK:Prop
theorem KgK.k (_:KgK) (h:p:=by
 first|exact ⟨k+1,by rw [Qo4,←Qmj];exact Qt,by omega,by omega⟩|skip):p:=h
class KgN:Prop
theorem KgN.k (_:KgN) (h:p:=by
 first|exact ⟨(k+1,r),by simp only [hS,←Qtd];exact Qt,by simp only;omega,by simp only;omega,by simp only;omega⟩|skip):p:=h
class KgO:Prop
theorem KgO.k (_:KgO) (h:p:=by
 first|exact ⟨(k+1,r),by simp only [hS,←Qtd];exact Qt,by simp only;omega,by simp only;omega,by simp only;omega⟩|skip):p:=h
class KgP:Prop
theorem KgP.k (_:KgP) (h:p:=by
 first|exact ⟨(r+1,gz),by simp only [Qpr,Quu];refine Qvf ?_;exact Z7.symm,by simp only;omega,by simp only;omega,by simp only;omega⟩|skip):p:=h
class KgM:Prop
theorem KgM.k (_:KgM) (h:p:=by
 refine Zm [90,91,92,93,94,95,96,97,98,99,100,101,102,103,104,105,106,107,108] (fun q:Nat×Nat=>[(13,.d (.int .i64 q.1))]) (fun q:Nat×Nat=>[(82,.row 1 (o.map enc) q.2),(89,.row 1 ((fillN (mayB l o) l.length q.1).map enc) 0)]) (fun q:Nat×Nat=>q.1≤l.length∧q.2≤r) (fun q:Nat×Nat=>l.length-q.1) (0,fz) ?_ ?_ ?_
 ·simp;omega
 ·have Vc:=@fillN.eq_1;have Cs:=@fillN.eq_2;exact Qt
 rintro ⟨k,gz⟩ ⟨hk,Jbg⟩;simp only at hk Jbg ⊢;have Jb:=O0 (mayB l o) l.length k;have hS:fillN (mayB l o) l.length (k+1)=(fillN (mayB l o) l.length k).set k (!Zm4 o (k:Int)&&aR l (k:Int) o):=rfl;rcases Zn k l.length with ⟨Zv,Qk⟩|⟨Zv,Qk⟩
 ·obtain ⟨b,Qi⟩:=exq (fillN (mayB l o) l.length k);rw [Qi] at Jb hS ⊢;have Q3:=Zp false (show k<b.length by omega)
  obtain ⟨c2,Qw1⟩:=exq (b.getD k false);rw [Qw1] at Q3;have Qmj:∀ v,(b.map (enc:Bool→D)).set k (.bool v)=(b.set k v).map enc:=fun v=>by rw [List.map_set];rfl
  cases Qq:Zm4 o (k:Int) with
  | true =>
   rw [Qq] at hS;simp only [Bool.not_true,Bool.false_and] at hS;have Qtd:=Qmj false;have Qm:=@aV;have Kq:KgN:=⟨⟩;exact Jw
  | false =>
   rw [Qq] at hS;simp only [Bool.not_false,Bool.true_and] at hS;obtain ⟨v,Qj⟩:=exq (aR l (k:Int) o);rw [Qj] at hS;have Qtd:=Qmj v;have Qm:=@aV;have Kq:KgO:=⟨⟩;exact Jw
 ·have Qoj:k=l.length:=by omega
  rw [Qoj,gI] at Jb;rw [Qoj] at Qk;rw [Qoj,gI];obtain ⟨my,Ja4⟩:=exq ((List.range l.length).map (mayB l o));rw [Ja4] at Jb Quu ⊢;obtain ⟨z,Qx⟩:=exq (bestN l my l.length);rw [Qx] at Quu;have Qm:=@aV;have Kq:KgP:=⟨⟩;exact Jw):p:=h
class KgL:Prop
theorem KgL.k (_:KgL) (h:p:=by
 refine Zm [12,13,86,87,88,89,90,91,92,93,94,95,96,97,98,99,100,101,102,103,104,105,106,107,108,109,110,111,112,113,114,115] (fun q:Nat×Nat=>[(11,.sl 82 ((Gy l q.1).map (enc:Int→D)).length),(85,.d (.int .i64 q.1))]) (fun q:Nat×Nat=>[(82,.row 1 ((Gy l q.1).map enc) q.2)]) (fun q:Nat×Nat=>q.1≤l.length∧q.2≤q.1) (fun q:Nat×Nat=>l.length-q.1) (0,0) ?_ ?_ ?_
 ·simp
 ·have Vc:=@Gy.eq_1;have Cs:=@Gy.eq_2;exact Qt
 clear Qk;rintro ⟨r,fz⟩ ⟨hr,Qzk⟩;simp only at hr Qzk ⊢;have Z7:=Ky l r;have Quu:Gy l (r+1)=Gy l r++[bestN l ((List.range l.length).map (mayB l (Gy l r))) l.length]:=rfl;rcases Zn r l.length with ⟨Qv3,Qv⟩|⟨Qv3,Qv⟩
 ·obtain ⟨o,ho⟩:=exq (Gy l r);obtain ⟨o2,Qpr⟩:=exq (Gy l (r+1));rw [ho] at Z7;rw [ho,Qpr] at Quu;rw [ho];have Qm:=@aV;have Kq:KgM:=⟨⟩;exact Jw
 ·have Jh:r=l.length:=by omega
  rw [Jh] at Qv ⊢;have Qm:=@Hu.eq_def;have Qg:=@aV;exact N6):p:=h
class KgJ:Prop
theorem KgJ.k (_:KgJ) (h:p:=by
 refine Zm [61,62,63,64,65,66,67,68,69,70,71,72,73,74,75] (fun k:Nat=>[(9,.d (.int .i64 k))]) (fun k:Nat=>[(60,.row 1 ((fillN (sY l) l.length k).map enc) 0)]) (fun k:Nat=>k≤l.length) (fun k:Nat=>l.length-k) 0 ?_ ?_ ?_
 ·omega
 ·have Vc:=@fillN.eq_1;have Cs:=@fillN.eq_2;exact Qt
 clear Qk Zv hk;rintro k hk;have Jb:=O0 (sY l) l.length k;have Qo4:fillN (sY l) l.length (k+1)=(fillN (sY l) l.length k).set k ((Xh l (k:Int)).getD k false):=rfl;rcases Zn k l.length with ⟨Zv,Qk⟩|⟨Zv,Qk⟩
 ·obtain ⟨b,Qi⟩:=exq (fillN (sY l) l.length k);rw [Qi] at Jb Qo4 ⊢;have Jh:(Xh l (k:Int)).length=l.length:=Yt _;have Qp:=Zp false (show k<(Xh l (k:Int)).length by omega)
  have Q3:=Zp false (show k<b.length by omega)
  obtain ⟨c1,Qp1⟩:=exq ((Xh l (k:Int)).getD k false);obtain ⟨c2,Qw1⟩:=exq (b.getD k false);rw [Qp1] at Qp Qo4;rw [Qw1] at Q3;have Qmj:(b.map (enc:Bool→D)).set k (.bool c1)=(b.set k c1).map enc:=by rw [List.map_set];rfl
  obtain ⟨rb,Qv⟩:=exq (Xh l (k:Int));rw [Qv] at Jh Qp;have Qm:=@aV;have Kq:KgK:=⟨⟩;exact Jw
 have aK:k=l.length:=by omega
 rw [aK,gI] at Jb;rw [aK,gI];obtain ⟨cy,Jbo⟩:=exq ((List.range l.length).map (sY l));rw [Jbo] at Jb Zq ⊢;rw [aK] at Qk;obtain ⟨best,Z3⟩:=exq (bestN l cy l.length);rw [Z3] at Zq;cases Z6:Xp 0 best with
 | true =>
  rw [Z6,cond_true] at Zq;injection Zq with e1 e2
  injection e2 with e2 e3
  subst e1 e2 e3;have Qm:=@Hu.eq_def;have Qg:=@aV;exact N6
 | false =>
 rw [Z6,cond_false] at Zq;injection Zq with e1 e2
 injection e2 with e2 e3
 subst e1 e2 e3;have Qm:=@aV;have Kq:KgL:=⟨⟩;exact Jw):p:=h
class KgF:Prop
theorem KgF.k (_:KgF) (h:p:=by
 refine Zm [2,3,4,7,30,31,32,33,34,35,36,37,38,39,40,41,42,43,44,45,46,47,48,49,50,51,52,53,54,55,56,57] (fun k:Nat=>[(6,.d (.int .i64 k))]) (fun k:Nat=>[]) (fun k:Nat=>k≤l.length∧∀ j,j<k→eD l j=false) (fun k:Nat=>l.length-k) 0 ?_ ?_ ?_
 ·simp
 ·exact Qt
 clear Qk Zv hk;rintro k ⟨hk,Jl⟩;rcases Zn k l.length with ⟨Zv,Qk⟩|⟨Zv,Qk⟩
 ·have Qo:=Zp m0 Zv;have Zm0:=Zgq hf k;have Jg:eD l k=false→∀ j,j<k+1→eD l j=false:=fun h=>Qcg Jl h;have L9:eD l k=true→R1=⟨[]⟩∧R2=k∧R3=6:=fun h=>by
   rw [Zle Zv Jl h] at Zq;injection Zq with e1 e2
   injection e2 with e2 e3
   exact ⟨e1.symm,e2.symm,e3.symm⟩
  unfold eD at Jg L9;unfold imp at Zm0 Jg L9;obtain ⟨x,hx⟩:=exq (l.getD k m0);rw [hx] at Qo Jg L9 Zm0;have Qm:=@aV;have Kq:KgG:=⟨⟩;exact Jw
 have Qtf:=Zld (p:=eD l) (n:=l.length) fun j hj=>Jl j (by omega)
 rw [Qtf] at Zq;simp only at Zq;clear Jl;have Qm:=@aV;have Kq:KgJ:=⟨⟩;exact Jw):p:=h
class KgD:Prop
theorem KgD.k (_:KgD) (h:p:=by
 refine Zm [2,3,4,14,15,16,17,18,19,20,21,22,23,24,25,26,27,28,29] (fun k:Nat=>[(5,.d (.int .i64 k))]) (fun k:Nat=>[]) (fun k:Nat=>k≤l.length∧∀ j,j<k→zK l j=false) (fun k:Nat=>l.length-k) 0 ?_ ?_ ?_
 ·simp
 ·exact Qt
 rintro k ⟨hk,Jl⟩;rcases Zn k l.length with ⟨Zv,Qk⟩|⟨Zv,Qk⟩
 ·have Qo:=Zp m0 Zv;have Jg:zK l k=false→∀ j,j<k+1→zK l j=false:=fun h=>Qcg Jl h;have L9:zK l k=true→R1=⟨[]⟩∧R2=k∧R3=7:=fun h=>by
   rw [Zle Zv Jl h] at Zq;injection Zq with e1 e2
   injection e2 with e2 e3
   exact ⟨e1.symm,e2.symm,e3.symm⟩
  unfold zK nm at Jg L9;obtain ⟨x,hx⟩:=exq (l.getD k m0);rw [hx] at Qo Jg L9;cases Qi:Wd (W8 l x.name) (k:Int) with
  | true =>
   obtain ⟨e1,e2,e3⟩:=L9 Qi;subst e1 e2 e3;have Qm:=@Hu.eq_def;have Qg:=@Yi;have Qr:=@aV;exact N6
  | false =>
   have hs:=Jg Qi;have Qm:=@Yi;have Qg:=@aV;have Kq:KgE:=⟨⟩;exact Jw
 have Qwy:=Zld (p:=zK l) (n:=l.length) fun j hj=>Jl j (by omega)
 rw [Qwy] at Zq;simp only at Zq;clear Jl;have Qm:=@aV;have Kq:KgF:=⟨⟩;exact Jw):p:=h
theorem good_Order8:Qc Tryz.prog (40,cC):=by
 obtain ⟨Kx,Kt,Kc,Kd,Kb,Ku,Kw,K,X4,V2,Mo,Tx,jB,_⟩:=J7 Zx Zo [] false (Q1 good_find8 El.eq_def (Q1 good_reached8 Dt.eq_def (Q1 good_least8 bP.eq_def (Q1 good_In08 fY.eq_def (Q1 good_ready8 bN.eq_def J5)))));have Ko:=cC.eq_def;refine J9 K Tryz.func40 [.tmp 2,.tmp 3,.tmp 4] rfl 117 rfl (fun c hc Ji Zh=>?_);unfold cC at Zh;obtain ⟨⟨l⟩,rfl,hf⟩:=Zen Zh;simp only at hf;clear Zh;have Qth:=Zgp hf;obtain ⟨R1,R2,R3,Qn⟩:∃ a b d,Nm l=(a,b,d):=⟨_,_,_,rfl⟩;have Zq:=Qn;unfold Nm at Zq;cases hc;refine W5 7 ?_;have Kq:KgD:=⟨⟩;exact Jw
def Zb2 (l:List Ge) (k j:Nat):Prop:=∃ s∈imp l k,Un l s=some j
inductive Path (l:List Ge):Nat→Nat→Prop
 | one {k j:Nat}:Zb2 l k j→Path l k j
 | more {k j n:Nat}:Zb2 l k j→Path l j n→Path l k n
theorem Zfl {l:List Ge} {k j:Nat} (h:Zb2 l k j):k<l.length∧j<l.length:=by
 obtain ⟨s,hs,hj⟩:=h;refine ⟨?_,Rc hj⟩;rcases Nat.lt_or_ge k l.length with h|h
 ·exact h
 ·unfold imp at hs;rw [Zd,List.getElem?_eq_none h] at hs;cases hs
theorem Qjq {l:List Ge} {k j:Nat} (h:Path l k j):k<l.length∧j<l.length:=by
 induction h with
 | one h=>exact Zfl h
 | more h _ ih=>exact ⟨(Zfl h).1,ih.2⟩
theorem Path.trans {l:List Ge} {a b c:Nat} (h:Path l a b) (k:Path l b c):Path l a c:=by
 induction h with
 | one h=>exact .more h k
 | more h _ ih=>exact .more h (ih k)
theorem Path.snoc {l:List Ge} {a b c:Nat} (h:Path l a b) (k:Zb2 l b c):Path l a c:=h.trans (.one k)
theorem Zjl {l:List Ge} {M:Nat→Prop} (hM:∀ k j,M k→Zb2 l k j→M j) {i k:Nat} (h:Path l i k) (h1:∀ j,Zb2 l i j→M j):M k:=by
 induction h with
 | one h=>exact h1 _ h
 | more h _ ih=>exact ih fun j hj=>hM _ _ (h1 _ h) hj
theorem Qha {b:List Bool} {n k:Nat} (hn:n<b.length):(b.set n true).getD k false=(b.getD k false||(n==k)):=by
 rw [Zd,List.getElem?_set,Zd];by_cases h:n=k
 ·subst h;simp [hn]
 ·rw [if_neg h];have:(n==k)=false:=by rw [Za];exact h
  rw [this,Bool.or_false]
theorem Qna {l:List Ge} {b:List Bool} (hb:b.length=l.length) (s:List UInt8) (k:Nat):(Qi6 l b s).getD k false=true↔b.getD k false=true∨Un l s=some k:=by
 unfold Qi6;cases h:Un l s with
 | none=>simp
 | some n =>
  have:=Rc h;simp only;rw [Qha (by omega),Bool.or_eq_true,Zj]
  simp
theorem Zka {l:List Ge}:∀ {ss:List (List UInt8)} {b:List Bool} (_:b.length=l.length) (k:Nat),(C9 l b ss).getD k false=true↔b.getD k false=true∨∃ s∈ss,Un l s=some k
 | [],b,hb,k=>by simp [C9]
 | s::ss,b,hb,k=>by
  show (C9 l (Qi6 l b s) ss).getD k false=true↔_;rw [Zka (by rw [Qan,hb]) k,Qna hb]
  simp only [Zs,exists_eq_or_imp,or_assoc]
theorem qP {l:List Ge} {i:Nat} {b:List Bool} (hb:b.length=l.length) (k j:Nat) :
  (wL l i b k).getD j false=true↔b.getD j false=true∨((k=i∨b.getD k false=true)∧Zb2 l k j):=by
 unfold wL;cases hc:(((k:Int) != (i:Int))&&!b.getD k false) with
 | true =>
  rw [cond_true];rw [Zg,Bool.not_eq_true',bne_iff_ne] at hc;constructor
  ·exact .inl
  ·rintro (h|⟨h|h,_⟩)
   ·exact h
   ·exact absurd (by rw [h]) hc.1
   ·rw [hc.2] at h;cases h
 | false =>
  rw [cond_false,Zka hb];rw [Bool.and_eq_false_iff,bne_eq_false_iff_eq,Bool.not_eq_false'] at hc;have h1:k=i∨b.getD k false=true:=by
   rcases hc with h|h
   ·exact .inl (by omega)
   ·exact .inr h
  constructor
  ·rintro (h|h)
   ·exact .inl h
   ·exact .inr ⟨h1,h⟩
  ·rintro (h|⟨_,h⟩)
   ·exact .inl h
   ·exact .inr h
theorem dS {l:List Ge} {i:Nat} {b:List Bool} (hb:b.length=l.length):∀ n j,b.getD j false=true→(Kn l i b n).getD j false=true
 | 0,_,h=>h
 | n+1,j,h=>by
  rw [Kn,qP (by rw [Sg,hb])]
  exact .inl (dS hb n j h)
theorem sO {l:List Ge} {i:Nat} {b:List Bool} (hb:b.length=l.length):∀ n k j,k<n→(k=i∨b.getD k false=true)→Zb2 l k j→(Kn l i b n).getD j false=true
 | 0,_,_,h,_,_=>by omega
 | n+1,k,j,h,hk,hs=>by
  rw [Kn,qP (by rw [Sg,hb])]
  by_cases e:k=n
  ·subst e;refine .inr ⟨?_,hs⟩;rcases hk with h|h
   ·exact .inl h
   ·exact .inr (dS hb k k h)
  ·exact .inl (sO hb n k j (by omega) hk hs)
theorem aE {l:List Ge} {i:Nat} {b:List Bool} (hb:b.length=l.length) (h0:∀ k,b.getD k false=true→Path l i k):∀ n k,(Kn l i b n).getD k false=true→Path l i k
 | 0,k,h=>h0 k h
 | n+1,j,h=>by
  rw [Kn,qP (by rw [Sg,hb])] at h
  rcases h with h|⟨h|h,hs⟩
  ·exact aE hb h0 n j h
  ·subst h;exact .one hs
  ·exact (aE hb h0 n n h).snoc hs
theorem nY {l:List Ge} {i:Nat}:∀ r k,(X9 l i r).getD k false=true→Path l i k
 | 0,k,h=>by
  have:(List.replicate l.length false).getD k false=false:=by
   rw [Zd,List.getElem?_replicate];split<;>rfl
  change (List.replicate l.length false).getD k false=true at h
  rw [this] at h;cases h
 | r+1,k,h=>aE (Yt r) (fun k=>nY r k) l.length k h
theorem Zy3:∀ {b c:List Bool},b.length=c.length→(∀ k,b.getD k false=true→c.getD k false=true)→b=c∨b.countP id<c.countP id
 | [],[],_,_=>.inl rfl
 | [],_::_,h,_=>by simp at h
 | _::_,[],h,_=>by simp at h
 | x::b,y::c,h,hm=>by
  have h0:=hm 0;simp only [List.getD_cons_zero] at h0;have ih:=Zy3 (b:=b) (c:=c) (by simpa using h) (fun k=>by simpa using hm (k+1))
  rcases ih with e|e
  ·subst e;cases x with
   | true=>rw [h0 rfl];exact .inl rfl
   | false =>
    cases y with
    | false=>exact .inl rfl
    | true=>right;simp
  ·right;cases x with
   | true=>rw [h0 rfl];simpa using e
   | false=>cases y<;>simp<;>omega
theorem Zi8 {l:List Ge} {i:Nat} (r:Nat):X9 l i r=X9 l i (r+1)∨(X9 l i r).countP id<(X9 l i (r+1)).countP id :=
 Zy3 (by rw [Yt,Yt]) fun k h=>dS (Yt r) _ k h
theorem eZ {l:List Ge} {i:Nat} {r:Nat} (h:X9 l i r=X9 l i (r+1)):∀ k,X9 l i (r+k)=X9 l i r
 | 0=>rfl
 | k+1=>by
  show X9 l i ((r+k)+1)=_;rw [X9,eZ h k];exact h.symm
theorem nJ {l:List Ge} {i:Nat}:∀ r,(∃ q,q<r∧X9 l i q=X9 l i (q+1))∨r≤(X9 l i r).countP id
 | 0=>.inr (Nat.zero_le _)
 | r+1=>by
  rcases nJ r with ⟨q,h1,h2⟩|h
  ·exact .inl ⟨q,by omega,h2⟩
  ·rcases Zi8 (l:=l) (i:=i) r with e|e
   ·exact .inl ⟨r,by omega,e⟩
   ·exact .inr (by omega)
theorem eX {l:List Ge} {i:Nat}:∀ k j,(k=i∨(Xh l i).getD k false=true)→Zb2 l k j→(Xh l i).getD j false=true:=by
 have Jg:Xh l i=X9 l i (l.length+1+1):=by
  rcases nJ (l:=l) (i:=i) (l.length+1) with ⟨q,h1,h2⟩|h
  ·have e1:=eZ h2 (l.length+1-q);have e2:=eZ h2 (l.length+1+1-q);rw [show q+(l.length+1-q)=l.length+1 by omega] at e1
   rw [show q+(l.length+1+1-q)=l.length+1+1 by omega] at e2
   unfold Xh;rw [e1,e2]
  ·have h3:=List.countP_le_length (p:=id) (l:=X9 l i (l.length+1));have h4:=Yt (l:=l) (i:=i) (l.length+1);omega
 intro k j hk hs;rw [Jg];exact sO (Yt _) l.length k j (Zfl hs).1 hk hs
theorem Nk {l:List Ge} {i k:Nat}:(Xh l i).getD k false=true↔Path l i k :=
 ⟨fun h=>nY _ k h,fun h=>Zjl (M:=fun k=>(Xh l i).getD k false=true) (fun k j hk hs=>eX k j (.inr hk) hs) h fun j hj=>eX i j (.inl rfl) hj⟩
theorem Qgy {x y:List UInt8}:Op.bytesLess x y=true↔x<y:=by rw [bytesLess_eq,decide_eq_true_eq]
theorem less_not {x y:List UInt8}:Op.bytesLess x y=false↔y≤x:=by
 rw [bytesLess_eq,decide_eq_false_iff_not,List.not_lt]
theorem zZ:∀ {l:List Ge} {s:List UInt8} {k:Nat},Un l s=some k→nm l k=s
 | [],s,k,h=>by simp [Un] at h
 | m::l,s,k,h=>by
  rw [Un] at h;by_cases hm:m.name=s
  ·rw [if_pos hm] at h;injection h with h
   subst h;exact hm
  ·rw [if_neg hm] at h;cases hf:Un l s with
   | none=>rw [hf] at h;cases h
   | some j =>
    rw [hf] at h;simp only [Option.map_some,Zb] at h;subst h;have:=zZ hf;simpa [nm] using this
theorem Zlg:∀ {l:List Ge} {k:Nat},k<l.length→∃ j,Un l (nm l k)=some j∧j≤k
 | [],k,h=>by simp at h
 | m::l,0,_=>⟨0,by simp [Un,nm],Zr _⟩
 | m::l,k+1,h=>by
  by_cases hm:m.name=nm (m::l) (k+1)
  ·exact ⟨0,by rw [Un,if_pos hm],Nat.zero_le _⟩
  ·obtain ⟨j,h1,h2⟩:=Zlg (l:=l) (k:=k) (by simpa using h)
   have e:nm (m::l) (k+1)=nm l k:=by simp [nm]
   rw [e] at hm ⊢;exact ⟨j+1,by rw [Un,if_neg hm,h1];rfl,by omega⟩
def Zzf (l:List Ge):Prop:=∀ k,k<l.length→Un l (nm l k)=some k
def Qe2 (l:List Ge):Prop:=∀ k,k<l.length→∀ s∈imp l k,∃ j,Un l s=some j
theorem wB {l:List Ge} (h:Zzf l) {a b:Nat} (ha:a<l.length) (hb:b<l.length) (e:nm l a=nm l b):a=b:=by
 have h1:=h a ha;rw [e,h b hb] at h1;injection h1 with h1
 exact h1.symm
theorem Zio {l:List Ge}:(List.range l.length).find? (zK l)=none↔Zzf l:=by
 rw [List.find?_eq_none];constructor
 ·intro h k hk;obtain ⟨j,h1,h2⟩:=Zlg hk;have:=h k (List.mem_range.2 hk);rw [Bool.not_eq_true] at this;unfold zK W8 at this;rw [h1] at this;simp only at this;rw [Q7] at this;rw [h1,show j=k by omega]
 ·intro h k hk;rw [List.mem_range] at hk;unfold zK W8;rw [h k hk];simp only;rw [Jj];omega
theorem Zk7 {l:List Ge}:(List.range l.length).find? (eD l)=none↔Qe2 l:=by
 rw [List.find?_eq_none];constructor
 ·intro h k hk s hs;have:=h k (List.mem_range.2 hk);rw [Bool.not_eq_true] at this;unfold eD at this;rw [List.any_eq_false] at this;have:=this s hs;rw [Bool.not_eq_true] at this;unfold W8 at this;cases hf:Un l s with
  | none=>rw [hf] at this;cases this
  | some j=>exact ⟨j,rfl⟩
 ·intro h k hk;rw [List.mem_range] at hk;rw [Bool.not_eq_true];unfold eD;rw [List.any_eq_false];intro s hs;obtain ⟨j,hj⟩:=h k hk s hs;unfold W8;rw [hj];simp only;rw [Jj];omega
theorem iU {l:List Ge} {is:List Bool}:∀ n,(bestN l is n=-1∧∀ j,j<n→is.getD j false=false) ∨
  ∃ k:Nat,bestN l is n=k∧k<n∧is.getD k false=true∧∀ j,j<n→is.getD j false=true→nm l k≤nm l j
 | 0=>.inl ⟨rfl,fun j hj=>by omega⟩
 | n+1=>by
  rw [bestN];rcases iU (l:=l) (is:=is) n with ⟨h,Jl⟩|⟨k,h,hk,Zhv,Er⟩
  ·rw [h];cases hn:is.getD n false with
   | false =>
    rw [Bool.false_and,cond_false];exact .inl ⟨rfl,Qcg Jl hn⟩
   | true =>
    right;refine ⟨n,rfl,by omega,hn,fun j hj sM=>?_⟩
    by_cases e:j=n
    ·subst e;exact List.le_refl _
    ·rw [Jl j (by omega)] at sM;cases sM
  ·rw [h,Zl,show Wd (k:Int) 0=false by rw [Q7];omega,Bool.false_or]
   cases hn:is.getD n false with
   | false =>
    rw [Bool.false_and,cond_false];refine .inr ⟨k,rfl,by omega,Zhv,fun j hj sM=>?_⟩
    by_cases e:j=n
    ·subst e;rw [hn] at sM;cases sM
    ·exact Er j (by omega) sM
   | true =>
    rw [Bool.true_and];cases hb:Op.bytesLess (nm l n) (nm l k) with
    | true =>
     rw [cond_true];rw [Qgy] at hb;refine .inr ⟨n,rfl,by omega,hn,fun j hj sM=>?_⟩
     by_cases e:j=n
     ·subst e;exact List.le_refl _
     ·exact List.le_trans (List.le_of_lt hb) (Er j (by omega) sM)
    | false =>
     rw [cond_false];rw [less_not] at hb;refine .inr ⟨k,rfl,by omega,Zhv,fun j hj sM=>?_⟩
     by_cases e:j=n
     ·subst e;exact hb
     ·exact Er j (by omega) sM
def Qn0 (l:List Ge):Prop:=∃ k,Path l k k
theorem Zjg {l:List Ge} (hU:Zzf l) (hF:Qe2 l) (hA:¬ Qn0 l) {C:List (List UInt8)}:∀ n k,k<l.length→(Xh l k).countP id≤n→nm l k∉C→∃ j,j<l.length∧(nm l j∉C∧∀ s∈imp l j,s∈C):=by
 intro n
 induction n with
 | zero =>
  intro k hk hn hC;by_cases h:∀ s∈imp l k,s∈C
  ·exact ⟨k,hk,⟨hC,h⟩⟩
  ·obtain ⟨s,h2⟩:=Classical.not_forall.1 h;obtain ⟨hs,Qy2⟩:=Classical.not_imp.1 h2;obtain ⟨j,hj⟩:=hF k hk s hs;have h1:(Xh l k).getD j false=true:=Nk.2 (.one ⟨s,hs,hj⟩);have h0:(Xh l k).countP id=0:=by omega
   rw [List.countP_eq_zero] at h0;have C6:j<(Xh l k).length:=by have:(Xh l k).length=l.length:=Yt _;rw [this];exact Rc hj
   have:=h0 _ (List.getElem_mem C6);rw [Zd,Zk C6] at h1;exact absurd h1 this
 | succ n ih =>
  intro k hk hn hC;by_cases h:∀ s∈imp l k,s∈C
  ·exact ⟨k,hk,⟨hC,h⟩⟩
  ·obtain ⟨s,h2⟩:=Classical.not_forall.1 h;obtain ⟨hs,Qy2⟩:=Classical.not_imp.1 h2;obtain ⟨j,hj⟩:=hF k hk s hs;have Qk9:Zb2 l k j:=⟨s,hs,hj⟩;have C6:=Rc hj;refine ih j C6 ?_ (by rw [zZ hj];exact Qy2)
   have l1:(Xh l j).length=l.length:=Yt _;have l2:(Xh l k).length=l.length:=Yt _;rcases Zy3 (b:=Xh l j) (c:=Xh l k) (by rw [l1,l2]) (fun x hx=>Nk.2 (.more Qk9 (Nk.1 hx))) with e|e
   ·have h1:(Xh l k).getD j false=true:=Nk.2 (.one Qk9);rw [←e,Nk] at h1;exact absurd ⟨j,h1⟩ hA
   ·omega
theorem gB {l:List Int} {n:Int}:Zm4 l n=true↔n∈l:=by
 unfold Zm4;rw [List.any_eq_true];exact ⟨fun ⟨x,h1,h2⟩=>by rw [Zj] at h2;exact h2▸h1,fun h=>⟨n,h,by simp⟩⟩
theorem eC {f:Nat→Bool} {n k:Nat} (h:k<n):((List.range n).map f).getD k false=f k:=by
 rw [Zd];simp [h]
theorem Zl2 {l:List Ge} (hl:l.length≤20):Xp 0 (bestN l ((List.range l.length).map (sY l)) l.length)=true↔Qn0 l:=by
 rw [Q9];rcases iU (l:=l) (is:=(List.range l.length).map (sY l)) l.length with ⟨h,Jl⟩|⟨k,h,hk,Zhv,_⟩
 ·rw [h];refine ⟨fun h=>by omega,fun ⟨k,hk⟩=>?_⟩
  have aK:=(Qjq hk).1;have:=Jl k aK;rw [eC aK] at this;have h2:(Xh l k).getD k false=true:=Nk.2 hk
  change (Xh l k).getD k false=false at this
  rw [h2] at this;cases this
 ·rw [h];refine ⟨fun _=>⟨k,?_⟩,fun _=>by omega⟩
  rw [eC hk] at Zhv;exact Nk.1 Zhv
theorem Zzd:∀ (n:Nat) (O:List Int),(∀ k:Nat,k<n→(k:Int)∈O)→n≤O.length
 | 0,O,_=>Nat.zero_le _
 | n+1,O,h=>by
  have h0:=h n (by omega)
  have h1:=Zzd n (O.erase n) fun k hk=>(List.mem_erase_of_ne (by omega)).2 (h k (by omega))
  rw [List.length_erase_of_mem h0] at h1;have:0<O.length:=List.length_pos_of_mem h0;omega
theorem Zf3 {l:List Ge} (hU:Zzf l) (hF:Qe2 l) (hA:¬ Qn0 l):∀ r,r≤l.length→∀ x∈Gy l r,∃ k:Nat,x=k∧k<l.length
 | 0,_,x,hx=>by simp [Gy] at hx
 | r+1,hr,x,hx=>by
  have ih:=Zf3 hU hF hA r (by omega)
  rw [Gy] at hx;rcases List.mem_append.1 hx with hx|hx
  ·exact ih x hx
  rw [Zt] at hx;obtain ⟨O,hO⟩:=exq (Gy l r);have Q5:=Ky l r;rw [hO] at ih hx Q5;have T0:∃ k:Nat,k<l.length∧(k:Int)∉O:=Classical.byContradiction fun hn=>by
   have:=Zzd l.length O fun k hk=>Classical.byContradiction fun h=>hn ⟨k,hk,h⟩;omega
  obtain ⟨k,hk,Qwo⟩:=T0;have Qwp:nm l k∉O.map fun x=>nm l x.toNat:=fun h=>by
   obtain ⟨y,hy,he⟩:=List.mem_map.1 h;obtain ⟨k',rfl,hk'⟩:=ih y hy;rw [Zl] at he;have:=wB hU hk' hk he;exact Qwo (this▸hy)
  obtain ⟨j,hj,h1,h2⟩:=Zjg hU hF hA (C:=O.map fun x=>nm l x.toNat) _ k hk (Zr _) Qwp;have Qoi:mayB l O j=true:=by
   unfold mayB;rw [Zg,Bool.not_eq_true'];refine ⟨?_,?_⟩
   ·rw [←Bool.not_eq_true,gB];exact fun h=>h1 (List.mem_map.2 ⟨_,h,by rw [Zl]⟩)
   ·unfold aR;rw [Zl,List.all_eq_true];intro s hs;obtain ⟨y,hy,he⟩:=List.mem_map.1 (h2 s hs);obtain ⟨k',rfl,hk'⟩:=ih y hy;rw [Zl] at he;rw [gB,←he,W8,hU k' hk'];exact hy
  rcases iU (l:=l) (is:=(List.range l.length).map (mayB l O)) l.length with ⟨_,Jl⟩|⟨k',h,hk',_,_⟩
  ·have:=Jl j hj;rw [eC hj,Qoi] at this;cases this
  ·exact ⟨k',by rw [hx,h],hk'⟩
theorem rB {l:List Ge} (uF:l.length≤20):∀ x∈(Nm l).1.l,∃ k:Nat,x=k∧k<l.length:=by
 intro x hx;unfold Nm at hx;split at hx
 ·cases hx
 rename_i hu;split at hx
 ·cases hx
 rename_i hf;cases hc:Xp 0 (bestN l ((List.range l.length).map (sY l)) l.length) with
 | true =>
  rw [hc] at hx;cases hx
 | false =>
  rw [hc] at hx;have hA:¬ Qn0 l:=fun h=>by
   rw [(Zl2 uF).2 h] at hc;cases hc
  exact Zf3 (Zio.1 hu) (Zk7.1 hf) hA l.length (Zr _) x hx
end Go.Am.Ty.Gr
namespace Go.Am.Ty
open Go.Proofs Gr
open Enc (enc dec)
structure Tx9 where
 names:List (List UInt8)
 texts:List (List UInt8)
 deriving DecidableEq
instance encTx9:Enc Tx9:=⟨fun a=>.agg [.list 1 (a.names.map enc),.list 1 (a.texts.map enc)],fun x=>match x with
 | .agg [a,b]=>⟨a.l.map dec,b.l.map dec⟩
 | _=>⟨[],[]⟩,fun a=>by
  have h:∀ l:List (List UInt8),(l.map (enc:List UInt8→D)).map dec=l:=fun l=>Jx;cases a;simp [D.l,h]⟩
theorem Ui {a b:List (List UInt8)}:(enc (Tx9.mk a b):D)=.agg [.list 1 (a.map enc),.list 1 (b.map enc)]:=rfl
theorem Uj {a b:List (List UInt8)}:(dec (.agg [.list 1 (a.map enc),.list 1 (b.map enc)]):Tx9)=⟨a,b⟩:=Enc.dec_enc (Tx9.mk a b)
theorem Ug {a b:List (List UInt8)}:Ul Tx9 (.agg [.list 1 (a.map enc),.list 1 (b.map enc)])=True:=eq_true (Wc (Tx9.mk a b))
structure Good9 (m:Mod6):Prop where
 name:m.name.length≤50
 short:∀ x∈m.imps,x.length≤1000000
 ilen:m.imps.length≤1502
 dlen:m.defs.length≤200
 fit:∀ d∈m.defs,FitD d
 ok:∀ d∈m.defs,d.t≠[]∧Wg d.t=true∧d.e≠[]
 right:∀ d∈m.defs,Ke d.e=true
 slen:m.sites.length≤1501
 cnt:∀ z,A4 z m.defs=if 1≤z∧z<(m.sites.length:Int)+1 then 1 else 0
theorem Zjn {name text:List UInt8} (hn:name.length≤50) (ht:text.length≤1500) (h:(Cx name text).2.2=0):Good9 (Cx name text).1:=by
 obtain ⟨hT,Qo2⟩:=Zcn ht;unfold Cx at h ⊢;simp only at h ⊢;split at h
 ·exact absurd h (by assumption)
 rename_i h1;rw [if_neg h1];split at h
 ·exact absurd h (by assumption)
 rename_i h2;rw [if_neg h2];split at h
 ·exact absurd h (by show ¬ (4:Int)=0;decide)
 rename_i h3;rw [if_neg h3];obtain ⟨_,_,_,Vt⟩:=xP hT name;obtain ⟨hM,_,_⟩:=Vt (by simpa using h2)
 refine ⟨by show (Y9 (Lh text).1 name).1.name.length≤50;rw [hM.name];exact hn,hM.short,by have:=hM.ilen;show (Y9 (Lh text).1 name).1.imps.length≤1502;omega,hM.dlen,hM.fit,hM.ok,fun d hd=>?_,by have:=hM.slen;show (Y9 (Lh text).1 name).1.sites.length≤1501;omega,hM.cnt⟩
 refine Classical.byContradiction fun hr=>h3 ?_;unfold Zy8;rw [List.findIdx_lt_length];exact ⟨d,hd,by simpa using hr⟩
def T7:List (List UInt8)→List (List UInt8)→List Mod6→List Mod6×Bool
 | n::ns,t::ts,out=>if 50<n.length∨1500<t.length then ([],false) else if (Cx n t).2.2≠0 then ([],false) else T7 ns ts (out++[(Cx n t).1])
 | _,_,out=>(out,true)
def Aq (t:Tx9):List Mod6×Bool:=if t.names.length≠t.texts.length∨6<t.names.length then ([],false) else T7 t.names t.texts []
theorem xV:∀ (ns ts:List (List UInt8)) (out:List Mod6),(∀ m∈out,Good9 m)→∀ m∈(T7 ns ts out).1,Good9 m
 | [],_,out,h=>by rw [T7];exact h;intro a b c d e;cases e
 | _::_,[],out,h=>by rw [T7];exact h;intro a b c d e f;cases f
 | n::ns,t::ts,out,h=>by
  rw [T7];split
  ·intro m hm;cases hm
  rename_i h1;split
  ·intro m hm;cases hm
  rename_i h2;refine xV ns ts _ fun m hm=>?_;rcases List.mem_append.1 hm with hm|hm
  ·exact h m hm
  ·rw [Zt] at hm;subst hm;exact Zjn (by omega) (by omega) (by simpa using h2)
theorem Zc0:∀ (ns ts:List (List UInt8)) (out:List Mod6),(T7 ns ts out).1.length≤out.length+ns.length
 | [],_,out=>by rw [T7];exact Nat.le_add_right _ _;intro a b c d e;cases e
 | _::_,[],out=>by rw [T7];exact Nat.le_add_right _ _;intro a b c d e f;cases f
 | n::ns,t::ts,out=>by
  rw [T7];split
  ·simp
  split
  ·simp
  have:=Zc0 ns ts (out++[(Cx n t).1]);simp only [Ze,Zi,List.length_nil] at this ⊢;omega
structure Goods (l:List Mod6):Prop where
 len:l.length≤6
 good:∀ m∈l,Good9 m
theorem aU (t:Tx9):Goods (Aq t).1:=by
 unfold Aq;split
 ·exact ⟨by simp,fun m hm=>(by cases hm)⟩
 ·have:=Zc0 t.names t.texts [];simp only [List.length_nil] at this;exact ⟨by omega,xV _ _ _ fun m hm=>(by cases hm)⟩
theorem Goods.few {l:List Mod6} (h:Goods l):Qe3 l:=by
 refine ⟨by have:=h.len;omega,fun k=>?_⟩
 show (l.getD k m0).imps.length≤2000;rcases Nat.lt_or_ge k l.length with hk|hk
 ·rw [Zd,Zk hk];have:=(h.good _ (List.getElem_mem hk)).ilen;simp only [Option.getD_some];omega
 ·rw [Zd,List.getElem?_eq_none hk];simp [m0]
def iG:Con:=Ht (fun (_:Tx9)=>True) (fun t=>((⟨(Aq t).1⟩,(Aq t).2):Sl Mod6×Bool))
class KgR:Prop
theorem KgR.k (_:KgR) (h:p:=by
 first|rfl|trivial|exact ⟨(k+1,out++[⟨mn,mi,md,ms⟩]),by (have Vc:=@Wn;exact Qt),by omega,by simp;omega,hL,by omega⟩|skip):p:=h
class KgQ:Prop
theorem KgQ.k (_:KgQ) (h:p:=by
 refine Zm [2,3,6,7,8,23,24,25,26,27,28,29,30,31,32,33,34,35,36,37,38,39,40,41,42,43,44,45,46,47,48,49,50,51,52,53,54,55,56,57,58,59,60,61,62,63,64,65,66] (fun p:Nat×List Mod6=>[(5,.d (.int .i64 p.1)),(4,.sl 9 (p.2.map (enc:Mod6→D)).length)]) (fun p:Nat×List Mod6=>[(9,.row 4 (p.2.map enc) 0)]) (fun p:Nat×List Mod6=>p.1≤names.length∧p.2.length=p.1∧T7 (names.drop p.1) (texts.drop p.1) p.2=R) (fun p:Nat×List Mod6=>names.length-p.1) (0,[]) ?_ ?_ ?_
 ·exact ⟨by omega,rfl,Zq⟩
 ·exact Qt
 rintro ⟨k,out⟩ ⟨hk,Zhr,hL⟩;simp only at hk Zhr hL;rcases Zn k names.length with ⟨Zv,Qn⟩|⟨Zv,Qn⟩
 ·have Mx:k<texts.length:=by omega
  have Ql:=Zp ([]:List UInt8) Zv;have Qp:=Zp ([]:List UInt8) Mx;rw [List.drop_eq_getElem_cons Zv,List.drop_eq_getElem_cons Mx,T7] at hL;have e1:names.getD k []=names[k]:=by simp [Zv]
  have e2:texts.getD k []=texts[k]:=by simp [Mx]
  rw [←e1,←e2] at hL;obtain ⟨n,hn⟩:=exq (names.getD k []);obtain ⟨t,ht⟩:=exq (texts.getD k []);rw [hn] at Ql hL;rw [ht] at Qp hL;clear e1 e2;rcases Y3 50 (n.length:Int) with ⟨h1,Qv⟩|⟨h1,Qv⟩
  ·rw [if_pos (.inl (by omega))] at hL
   subst hL;have Z3:=@Ui;have Z6:=@Uj;have Z7:=@Ug;exact N6
  rcases Y3 1500 (t.length:Int) with ⟨h2,Q3⟩|⟨h2,Q3⟩
  ·rw [if_pos (.inr (by omega))] at hL
   subst hL;have Z3:=@Ui;have Z6:=@Uj;have Z7:=@Ug;exact N6
  rw [if_neg (by omega)] at hL
  obtain ⟨⟨⟨mn,mi,md,ms⟩,a,e⟩,Jh⟩:=exq (Cx n t);rw [Jh] at hL;simp only at hL;by_cases he:e=0
  case neg =>
   rw [if_pos he] at hL;have Jb:(e != 0)=true:=bne_iff_ne.2 he;subst hL;have Z3:=@Ui;have Z6:=@Uj;have Z7:=@Ug;exact N6
  rw [if_neg (by simpa using he)] at hL
  have Jb:(e != 0)=false:=by rw [bne_eq_false_iff_eq];exact he
  have Z3:=@Ui;have Z6:=@Uj;have Z7:=@Ug;have Kq:KgR:=⟨⟩;exact Jw
 ·have Ni:k=names.length:=by omega
  rw [Ni,List.drop_length,T7] at hL;rotate_left
  ·intro a b c d e;cases e
  rw [Ni] at Qn;subst hL;have Z3:=@Ui;have Z6:=@Uj;have Z7:=@Ug;exact N6):p:=h
theorem good_Read9:Qc Tryz.prog (25,iG):=by
 obtain ⟨Kx,Kt,Kc,Kd,Kb,Ku,Kw,K,X4,_⟩:=J7 Zx Zo [] false (Q1 good_Parse6 cB.eq_def J5);have Ko:=iG.eq_def;refine J9 K Tryz.func25 [.tmp 2,.tmp 3] rfl 68 rfl (fun c hc Ji Zh=>?_);unfold iG at Zh;obtain ⟨⟨names,texts⟩,rfl,-⟩:=sA Zh;clear Zh;obtain ⟨R,Qo⟩:=exq (Aq ⟨names,texts⟩);have Zq:=Qo;unfold Aq at Zq;simp only at Zq;cases hc;refine W5 4 ?_;by_cases Q5:names.length=texts.length
 case neg =>
  rw [if_pos (.inl Q5)] at Zq;have Qk:((names.length:Int) != (texts.length:Int))=true:=by rw [bne_iff_ne];omega
  subst Zq;have Z3:=@Ui;have Z6:=@Uj;have Z7:=@Ug;exact N6
 have Qk:((names.length:Int) != (texts.length:Int))=false:=by rw [Q5,bne_self_eq_false]
 rcases Y3 6 (names.length:Int) with ⟨h6,Qi⟩|⟨h6,Qi⟩
 ·rw [if_pos (.inr (by omega))] at Zq
  subst Zq;have Z3:=@Ui;have Z6:=@Uj;have Z7:=@Ug;exact N6
 rw [if_neg (by omega)] at Zq
 have Z3:=@Ui;have Z6:=@Uj;have Z7:=@Ug;have Kq:KgQ:=⟨⟩;exact Jw
def M0 (l:List Mod6) (O:List Int):List Mod6:=O.map fun x=>l.getD x.toNat Je
def Wq (t:Tx9):List Mod6×Bool:=if (Aq t).2=false then ([],false) else (M0 (Aq t).1 (Nm (Aq t).1).1.l,(Nm (Aq t).1).2.2==0)
def D5:Con:=Ht (fun (_:Tx9)=>True) (fun t=>((⟨(Wq t).1⟩,(Wq t).2):Sl Mod6×Bool))
theorem Qak {l:List Ge} (h:l.length≤20):(Nm l).1.l.length≤20:=by
 unfold Nm;split
 ·simp
 split
 ·simp
 cases Xp 0 (bestN l ((List.range l.length).map (sY l)) l.length) with
 | true=>simp
 | false =>
  show (Gy l l.length).length≤20;rw [Ky];exact h
class KgT:Prop
theorem KgT.k (_:KgT) (h:p:=by
 first|rfl|trivial|exact ⟨k+1,by (have Vc:=Jg;have Cs:=@Zlo;exact Qt),by omega,by omega⟩|skip):p:=h
class KgS:Prop
theorem KgS.k (_:KgS) (h:p:=by
 first|exact hF|skip
 refine Zm [25,26,27,28,29,30,31,32,33,34,35,36,37,38,39,40] (fun k:Nat=>[(10,.d (.int .i64 k)),(9,.sl 24 ((M0 l (O.take k)).map (enc:Mod6→D)).length)]) (fun k:Nat=>[(24,.row 4 ((M0 l (O.take k)).map enc) 0)]) (fun k:Nat=>k≤O.length) (fun k:Nat=>O.length-k) 0 ?_ ?_ ?_
 ·omega
 ·have Vc:=@M0.eq_1;exact Qt
 rintro k hk;have qE:(M0 l (O.take k)).length≤20:=by unfold M0;rw [Zf,List.length_take];omega
 rcases Zn k O.length with ⟨Zv,Qn⟩|⟨Zv,Qn⟩
 ·have Ql:=Zp (0:Int) Zv;obtain ⟨j,hj,C6⟩:=fN (O.getD k 0) (by simp [Zv])
  have Qp:=Zp Je C6;have Jg:M0 l (O.take (k+1))=M0 l (O.take k)++[l.getD j Je]:=by
   unfold M0;rw [Y0 (0:Int) Zv,List.map_append];simp only [List.map_cons,List.map_nil];rw [hj,Zl]
  rw [hj] at Ql;obtain ⟨P,hP⟩:=exq (M0 l (O.take k));rw [hP] at Jg qE ⊢;obtain ⟨m,hm⟩:=exq (l.getD j Je);rw [hm] at Qp Jg;clear fN hF hG;have Qv:=@Hu.eq_def;have Q3:=@Zlo;have Kq:KgT:=⟨⟩;exact Jw
 ·have Ni:k=O.length:=by omega
  rw [Ni,List.take_length];rw [Ni] at Qn;subst Zq;have Qv:=@Hu.eq_def;exact N6):p:=h
theorem good_Program9:Qc Tryz.prog (12,D5):=by
 obtain ⟨Kx,Kt,Kc,Kd,Kb,Ku,Kw,K,X4,V2,_⟩:=J7 Zx Zo [] false (Q1 good_Read9 iG.eq_def (Q1 good_Order8 cC.eq_def J5));have Ko:=D5.eq_def;refine J9 K Tryz.func12 [.tmp 2,.tmp 3] rfl 44 rfl (fun c hc Ji Zh=>?_);unfold D5 at Zh;obtain ⟨⟨names,texts⟩,rfl,-⟩:=sA Zh;clear Zh;obtain ⟨R,Qo⟩:=exq (Wq ⟨names,texts⟩);have Zq:=Qo;unfold Wq at Zq;have hG:=aU ⟨names,texts⟩;have hF:=hG.few;have uF:=hF.1;have fN:=rB uF;have Zhr:=Qak uF;obtain ⟨⟨l,ok⟩,Qk⟩:=exq (Aq ⟨names,texts⟩);rw [Qk] at Zq hG hF uF fN Zhr;simp only at Zq hG hF uF fN Zhr;cases hc;refine W5 2 ?_;cases ok with
 | false =>
  rw [if_pos rfl] at Zq;subst Zq;have Qv:=@Hu.eq_def;have Q3:=@Ui;have Jh:=@Uj;have Jb:=@Ug;exact N6
 | true =>
  rw [if_neg (by simp)] at Zq
  obtain ⟨⟨⟨O⟩,b,e⟩,Qi⟩:=exq (Nm l);rw [Qi] at Zq fN Zhr;simp only at Zq fN Zhr;have Qv:=@Hu.eq_def;have Q3:=@Ui;have Jh:=@Uj;have Jb:=@Ug;have Kq:KgS:=⟨⟩;exact Jw
theorem jP (t:Tx9):(Wq t).1.length≤20∧∀ m∈(Wq t).1,Good9 m:=by
 have hG:=aU t;have uF:=hG.few.1;unfold Wq;split
 ·exact ⟨by simp,fun m hm=>(by cases hm)⟩
 ·refine ⟨by show (M0 _ _).length≤20;unfold M0;rw [Zf];exact Qak uF,fun m hm=>?_⟩
  obtain ⟨x,hx,rfl⟩:=List.mem_map.1 hm;obtain ⟨k,rfl,hk⟩:=rB uF x hx;rw [Zl,Zd,Zk hk];exact hG.good _ (List.getElem_mem hk)
def ah (l:List Mod6) (k:Nat):Nat:=((l.take k).map fun m=>m.sites.length).sum
structure SitesOk (l:List Mod6):Prop where
 len:l.length≤20
 sites:∀ m∈l,m.sites.length≤2000
theorem Qbt (l:List Mod6):ah l 0=0:=rfl
theorem Zhb {l:List Mod6} {k:Nat} (h:k<l.length):ah l (k+1)=ah l k+(l.getD k Je).sites.length:=by
 unfold ah;rw [Y0 Je h,List.map_append,List.sum_append];simp
theorem Ql9 {l:List Mod6} (h:SitesOk l):∀ k,k≤l.length→ah l k≤2000*k
 | 0,_=>Zr _
 | k+1,hk=>by
  have ih:=Ql9 h k (by omega)
  rw [Zhb (by omega)]
  have:=h.sites (l.getD k Je) (by rw [Zd,Zk (show k<l.length by omega)];exact List.getElem_mem _)
  omega
def Uv {α:Type} (f:Nat→α→α) (l:List α) (k:Nat):List α:=(l.take k).mapIdx f++l.drop k
section
variable {α:Type} {f:Nat→α→α} {l:List α}
theorem Kk (k:Nat):(Uv f l k).length=l.length:=by
 unfold Uv;simp;omega
theorem V6:Uv f l 0=l:=by simp [Uv]
theorem V7:Uv f l l.length=l.mapIdx f:=by simp [Uv]
theorem Ms (d:α) {k:Nat} (h:k<l.length):(Uv f l k).getD k d=l.getD k d:=by
 unfold Uv;rw [Zd,List.getElem?_append_right (by simp;omega)]
 simp [show min k l.length=k by omega,Zd]
theorem Kj (d:α) {k:Nat} (h:k<l.length):(Uv f l k).set k (f k (l.getD k d))=Uv f l (k+1):=by
 unfold Uv;rw [List.set_append_right _ _ (by simp;omega),Y0 d h,List.mapIdx_append]
 simp only [List.length_mapIdx,List.length_take,show min k l.length=k by omega,Nat.sub_self]
 rw [List.drop_eq_getElem_cons h,Jr];simp
theorem Qgk (d:α) {k:Nat} (h:k<l.length) (e:f k (l.getD k d)=l.getD k d):Uv f l (k+1)=Uv f l k:=by
 rw [←Kj d h,e,←Ms d h (f:=f)];have h2:k<(Uv f l k).length:=by rw [Kk];exact h
 rw [Zd,Zk h2];simp
end
theorem X0 {α:Type} [Enc α] {l:List α} {k:Nat} {y:α}:(l.map (enc:α→D)).set k (enc y)=(l.set k y).map enc:=(List.map_set ..).symm
def Rv:Con:=Gd (fun (t:Sl Part)=>t.l.length≤1000000) (fun t=>t.l)
class KgU:Prop
theorem KgU.k (_:KgU) (h:p:=by
 first|(simp_all;done)|skip):p:=h
theorem good_cloneE:Qc Tryz.prog (46,Rv):=by
 obtain ⟨Kx,Kt,Kc,Kd,Kb,Ku,Kw,K,_⟩:=J7 Zx Zo [4] false J5;have Ko:=Rv.eq_def;refine J9 K Tryz.func46 [.tmp 2] rfl 8 rfl (fun c hc Ji Zh=>?_);unfold Rv at Zh;obtain ⟨⟨t⟩,rfl,ht⟩:=iP Zh;simp only at ht;clear Zh;cases hc;have Kq:KgU:=⟨⟩;exact Jw
def Hg:Con:=Gd (fun (t:Sl Def6)=>t.l.length≤1000000) (fun t=>t.l)
class KgV:Prop
theorem KgV.k (_:KgV) (h:p:=by
 first|(simp_all;done)|skip):p:=h
theorem good_cloneDefs:Qc Tryz.prog (45,Hg):=by
 obtain ⟨Kx,Kt,Kc,Kd,Kb,Ku,Kw,K,_⟩:=J7 Zx Zo [4] false J5;have Ko:=Hg.eq_def;refine J9 K Tryz.func45 [.tmp 2] rfl 8 rfl (fun c hc Ji Zh=>?_);unfold Hg at Zh;obtain ⟨⟨t⟩,rfl,ht⟩:=iP Zh;simp only at ht;clear Zh;cases hc;have Kq:KgV:=⟨⟩;exact Jw
def Hf:Con:=Gd (fun (t:Sl Mod6)=>t.l.length≤1000000) (fun t=>t.l)
class KgW:Prop
theorem KgW.k (_:KgW) (h:p:=by
 first|(simp_all;done)|skip):p:=h
theorem good_cloneMods:Qc Tryz.prog (42,Hf):=by
 obtain ⟨Kx,Kt,Kc,Kd,Kb,Ku,Kw,K,_⟩:=J7 Zx Zo [4] false J5;have Ko:=Hf.eq_def;refine J9 K Tryz.func42 [.tmp 2] rfl 8 rfl (fun c hc Ji Zh=>?_);unfold Hf at Zh;obtain ⟨⟨t⟩,rfl,ht⟩:=iP Zh;simp only at ht;clear Zh;cases hc;have Kq:KgW:=⟨⟩;exact Jw
def Y1 (by_:Int) (n:Node):Node:=if n.kind=0∧0<n.n then ⟨n.kind,n.name,n.n+by_⟩ else n
def Hi (by_:Int) (t:List Node):List Node:=t.mapIdx fun _=>Y1 by_
end Go.Am.Ty
namespace Go.Am
theorem L5 {C:Ctx} {c:Code} {Q:AExit→AS→Prop} {st:AS} (ks:List Nat) (i:Nat) (kills:List Nat) {α:Type} (vals:α→List (Nat×AV)) (objs:α→List (Nat×Obj)) (ok:α→Prop) (μ:α→Nat) (a0:α) (h0:ok a0)
  (hw:Qpk ks st (Tj st kills (vals a0) (objs a0))) (h:∀ a,ok a→Shut (Tw C c (qX (fun s'=>∃ a',Qsi i s' (Tj st kills (vals a') (objs a'))∧ok a'∧μ a'<μ a) Q) (Tj st kills (vals a) (objs a)))):Qbu C c Q st :=
 ⟨α,fun a=>Tj st kills (vals a) (objs a),ok,μ,Qsi i,fun _ _ h=>.inr (.inr (.inl ⟨i,h⟩)),⟨a0,⟨ks,hw⟩,h0⟩,fun a ha=>(h a ha).out⟩
end Go.Am
namespace Go.Am.Ty
open Go.Proofs Gr
open Enc (enc dec)
theorem Br {α:Type} [Enc α] {l:List α} {k:Nat} {y:α} (h:k<l.length):el ((l.set k y).map (enc:α→D)) k=enc y:=by
 unfold el;rw [Zd];simp [h]
theorem Qni {l:List D} {k:Nat} {y:D} (h:k<l.length):el (l.set k y) k=y:=by
 unfold el;rw [Zd];simp [h]
def Ut (b:Int) (p:Part):Part:=⟨p.kind,p.label,p.name,p.bind,p.many,p.num,Hi b p.t,Hi b p.u⟩
def V5 (b:Int) (d:Def6):Def6:=⟨d.name,Hi b d.t,d.e.mapIdx fun _=>Ut b⟩
def Uu (l:List Mod6) (k:Nat) (m:Mod6):Mod6:=⟨m.name,m.imps,m.defs.mapIdx fun _=>V5 (ah l k),m.sites⟩
def Dh (l:List Mod6):Sl Mod6×Int×Int:=if 60<ah l l.length then (⟨[]⟩,0,11) else (⟨l.mapIdx (Uu l)⟩,(ah l l.length:Int),0)
def Qig (t:List Node):Prop:=t.length≤1000000∧∀ n∈t,n.kind=0→n.n≤1000000
structure LowD (d:Def6):Prop where
 t:Qig d.t
 len:d.e.length≤1000000
 e:∀ p∈d.e,Qig p.t∧Qig p.u
structure NumOk (l:List Mod6):Prop where
 sites:SitesOk l
 len:∀ m∈l,m.defs.length≤1000
 low:∀ m∈l,∀ d∈m.defs,LowD d
def Of {α:Type} (w:α→Nat) (l:List α):Nat:=(l.map w).sum
theorem Qce {α:Type} {w:α→Nat} {l:List α} {k:Nat} (d:α) (h:k<l.length):Of w (l.take (k+1))=Of w (l.take k)+w (l.getD k d):=by
 unfold Of;rw [Y0 d h,List.map_append,List.sum_append];simp
def Zgz (z:Int) (l:List Mod6):Nat:=Of (fun m=>Of (C1 z) m.defs) l
theorem Qec {b z:Int} (hb:0≤b) (hz:1≤z) (n:Node):Ys z (Y1 b n)=if 1≤z-b then Ys (z-b) n else 0:=by
 obtain ⟨k,s,v⟩:=n;unfold Y1 Ys;simp only;split
 ·rename_i h;simp only;split
  ·rw [if_pos (by omega),if_pos ⟨h.1,by omega⟩]
  ·rename_i h2;split
   ·rw [if_neg (fun e=>h2 ⟨h.1,by omega⟩)]
   ·rfl
 ·rename_i h;have h:¬ (k=0∧0<v):=h;rw [if_neg (fun e:k=0∧v=z=>h ⟨e.1,by omega⟩)]
  split
  ·rw [if_neg (fun e:k=0∧v=z-b=>h ⟨e.1,by omega⟩)]
  ·rfl
theorem Qkj {b z:Int} (hb:0≤b) (hz:z<0) (n:Node):Ys z (Y1 b n)=Ys z n:=by
 obtain ⟨k,s,v⟩:=n;unfold Y1 Ys;simp only;split
 ·rename_i h;simp only;rw [if_neg (by omega),if_neg (by omega)]
 ·rfl
theorem B4 {α:Type} {w w':α→Nat} {f:α→α} (h:∀ x,w (f x)=w' x) (l:List α):Of w (l.mapIdx fun _=>f)=Of w' l:=by
 have:(l.mapIdx fun _=>f)=l.map f:=by
  apply List.ext_getElem?;intro i;simp
 rw [this];unfold Of;rw [List.map_map]
 congr 1
 exact List.map_congr_left fun x _=>h x
theorem qH {α:Type} {l:List α}:Of (fun _=>0) l=0:=by
 unfold Of
 induction l with
 | nil=>rfl
 | cons x l ih=>rw [List.map_cons,List.sum_cons,ih]
theorem xI {b z:Int} (hb:0≤b) (hz:1≤z) (t:List Node):J0 (Ys z) (Hi b t)=if 1≤z-b then J0 (Ys (z-b)) t else 0:=by
 have:=B4 (w:=Ys z) (w':=fun n=>if 1≤z-b then Ys (z-b) n else 0) (f:=Y1 b) (Qec hb hz) t
 split
 ·rename_i h;simp only [if_pos h] at this;exact this
 ·rename_i h;simp only [if_neg h,qH] at this;exact this
theorem Zjt {b z:Int} (hb:0≤b) (hz:z<0) (t:List Node):J0 (Ys z) (Hi b t)=J0 (Ys z) t :=
 B4 (w:=Ys z) (w':=Ys z) (f:=Y1 b) (Qkj hb hz) t
theorem Zxq {b z:Int} (hb:0≤b) (hz:1≤z) (p:Part):Xi z (Ut b p)=if 1≤z-b then Xi (z-b) p else 0:=by
 unfold Xi Ut;simp only [xI hb hz];split<;>rfl
theorem Qeg {b z:Int} (hb:0≤b) (hz:1≤z) (d:Def6):C1 z (V5 b d)=if 1≤z-b then C1 (z-b) d else 0:=by
 unfold C1 V5;simp only [xI hb hz];have:=B4 (w:=Xi z) (w':=fun p=>if 1≤z-b then Xi (z-b) p else 0) (f:=Ut b) (Zxq hb hz) d.e
 split
 ·rename_i h;simp only [if_pos h] at this;unfold Wh;unfold Of at this;rw [this]
 ·rename_i h;simp only [if_neg h,qH] at this;unfold Wh;unfold Of at this;rw [this]
theorem Qkk {b z:Int} (hb:0≤b) (hz:z<0) (d:Def6):C1 z (V5 b d)=C1 z d:=by
 unfold C1 V5;simp only [Zjt hb hz];have:=B4 (w:=Xi z) (w':=Xi z) (f:=Ut b) (fun p=>by unfold Xi Ut;simp only [Zjt hb hz]) d.e
 unfold Wh;unfold Of at this;rw [this]
theorem Qdh {l:List Mod6} {k:Nat} {z:Int} {m:Mod6} (hz:1≤z) (hm:∀ z,A4 z m.defs=if 1≤z∧z<(m.sites.length:Int)+1 then 1 else 0) :
  Of (C1 z) (Uu l k m).defs=if (ah l k:Int)<z∧z≤(ah l k:Int)+m.sites.length then 1 else 0:=by
 unfold Uu;simp only;rw [B4 (Qeg (by omega) hz)]
 by_cases h:1≤z-(ah l k:Int)
 ·simp only [if_pos h];have:=hm (z-ah l k);unfold A4 at this;unfold Of;rw [this];by_cases h2:(ah l k:Int)<z∧z≤(ah l k:Int)+m.sites.length
  ·rw [if_pos h2,if_pos (by omega)]
  ·rw [if_neg h2,if_neg (by omega)]
 ·simp only [if_neg h,qH];rw [if_neg (by omega)]
theorem Qj0 {l:List Mod6} {k:Nat} {z:Int} {m:Mod6} (hz:z<0) (hm:∀ z,A4 z m.defs=if 1≤z∧z<(m.sites.length:Int)+1 then 1 else 0):Of (C1 z) (Uu l k m).defs=0:=by
 unfold Uu;simp only;rw [B4 (Qkk (by omega) hz)]
 have:=hm z;unfold A4 at this;unfold Of;rw [this,if_neg (by omega)]
theorem zG {l:List Mod6} {z:Int} (hz:z≠0) (hm:∀ m∈l,∀ z,A4 z m.defs=if 1≤z∧z<(m.sites.length:Int)+1 then 1 else 0):∀ k,k≤l.length→Of (fun m=>Of (C1 z) m.defs) ((l.mapIdx (Uu l)).take k)=if 1≤z∧z≤(ah l k:Int) then 1 else 0
 | 0,_=>by
  rw [Qbt,if_neg (by omega)]
  rfl
 | k+1,hk=>by
  have Qol:k<(l.mapIdx (Uu l)).length:=by simp;omega
  rw [Qce Je Qol,zG hz hm k (by omega),Zhb (by omega)]
  have hg:(l.mapIdx (Uu l)).getD k Je=Uu l k (l.getD k Je):=by
   rw [Zd,Zd];simp [show k<l.length by omega]
  rw [hg];have Zb8:=hm (l.getD k Je) (by simp [show k<l.length by omega])
  rcases Int.lt_or_le z 0 with h|h
  ·rw [Qj0 h Zb8,if_neg (by omega),if_neg (by omega)]
  ·rw [Qdh (by omega) Zb8]
   split<;>split<;>split<;>omega
theorem zH {l:List Mod6} {z:Int} (hz:z≠0) (hm:∀ m∈l,∀ z,A4 z m.defs=if 1≤z∧z<(m.sites.length:Int)+1 then 1 else 0):Zgz z (l.mapIdx (Uu l))=if 1≤z∧z≤(ah l l.length:Int) then 1 else 0:=by
 have:=zG hz hm l.length (Zr _);rw [List.take_of_length_le (by simp)] at this
 exact this
def Qcr:Site:=⟨0,0,false⟩
theorem Zxx {t:List Node} (h:∀ z:Int,100000<z→J0 (Ys z) t=0) (hl:t.length≤100001):Qig t:=by
 refine ⟨by omega,fun n hn hk=>Int.not_lt.1 fun hh=>?_⟩
 have:=h n.n (by omega)
 unfold J0 at this;have h1:=List.sum_eq_zero_iff_forall_eq_nat.1 this (Ys n.n n) (List.mem_map_of_mem hn);unfold Ys at h1;rw [if_pos ⟨hk,rfl⟩] at h1;cases h1
theorem mT {α:Type} {w:α→Nat} {l:List α} (h:(l.map w).sum=0) {x:α} (hx:x∈l):w x=0 :=
 List.sum_eq_zero_iff_forall_eq_nat.1 h (w x) (List.mem_map_of_mem hx)
theorem Qg7 {l:List Mod6} (uF:l.length≤20) (hG:∀ m∈l,Good9 m):NumOk l:=by
 refine ⟨⟨uF,fun m hm=>by have:=(hG m hm).slen;omega⟩,fun m hm=>by have:=(hG m hm).dlen;omega,fun m hm d hd=>?_⟩
 have hg:=hG m hm;have hf:=hg.fit d hd;have hz:∀ z:Int,100000<z→C1 z d=0:=fun z hz=>by
  have h1:=hg.cnt z;have h2:=hg.slen;rw [if_neg (by omega)] at h1
  unfold A4 at h1;exact mT h1 hd
 refine ⟨Zxx (fun z h=>?_) hf.t,by have:=hf.e;omega,fun p hp=>?_⟩
 ·have:=hz z h;unfold C1 at this;omega
 ·have Zh4:∀ z:Int,100000<z→Xi z p=0:=fun z h=>by
   have h1:=hz z h;unfold C1 at h1;have h2:Wh z d.e=0:=by omega
   unfold Wh at h2;exact mT h2 hp
  have Ze8:=hf.fit p hp;exact ⟨Zxx (fun z h=>by have:=Zh4 z h;unfold Xi at this;omega) Ze8.1.1,Zxx (fun z h=>by have:=Zh4 z h;unfold Xi at this;omega) Ze8.2.1.1⟩
open Go.Proofs
theorem Qh9 {p q:D→Prop} {ds:List D} (h:Zzk [p,q] ds):∃ a b,ds=[a,b]∧p a∧q b:=by
 match ds,h with
 | [a,b],h=>exact ⟨a,b,rfl,h.1,h.2.1⟩
theorem Qag:Qja Tryz.prog 22 1 false (Sl (List UInt8)) (fun a=>a.l.length≤maxLen∧∀ y∈a.l,y.length≤maxLen):=Zxk Tryz.underlying22 (by kernel_rfl) rfl (by decide) (Qaf Tryz.underlying9)
theorem rdTx9:Qja Tryz.prog 24 2 true Tx9 (fun a=>a.names.length≤maxLen) :=
 (rJ (ps:=[_,_]) Tryz.underlying24 (by kernel_rfl) rfl ⟨rfl,by kernel_rfl,Qag,rfl,by kernel_rfl,Qag,trivial⟩).mono fun x h=>by
  obtain ⟨ds,rfl,h⟩:=h;obtain ⟨a,b,rfl,⟨⟨k⟩,rfl,hk,_⟩,⟨⟨t⟩,rfl,ht⟩⟩:=Qh9 h;exact ⟨⟨k,t⟩,rfl,hk⟩
theorem Fz {α:Type} (d:α) {a b:List α} (hl:a.length=b.length) (h:∀ j,j<a.length→a.getD j d=b.getD j d):a=b:=by
 refine List.ext_getElem hl fun j h1 h2=>?_;have:=h j h1;simpa [h1,h2] using this
def Lv:Con:=Jy (fun (a b:Sl (List UInt8))=>Lo a.l.length∧Lo b.l.length) (fun a b=>a.l==b.l)
class KgY:Prop
theorem KgY.k (_:KgY) (h:p:=by
 first|exact ⟨k+1,by exact Qt,by omega,h2,by omega⟩|skip):p:=h
class KgX:Prop
theorem KgX.k (_:KgX) (h:p:=by
 refine Zm [4,11,12,13,14,15,16,17,18,19,20,21,22,23,24,25] (fun k:Nat=>[(5,.d (.int .i64 k))]) (fun k:Nat=>[]) (fun k:Nat=>k≤a.length∧∀ j,j<k→a.getD j []=b.getD j []) (fun k:Nat=>a.length-k) 0 ?_ ?_ ?_
 ·exact ⟨by omega,fun j hj=>absurd hj (Nat.not_lt_zero j)⟩
 ·exact Qt
 rintro k ⟨hk,Jl⟩;rcases Zn k a.length with ⟨Zv,Qi⟩|⟨Zv,Qi⟩
 ·have Qn:=Zp ([]:List UInt8) Zv;have Ql:=Zp ([]:List UInt8) (show k<b.length by omega)
  have Jg:a.getD k []=b.getD k []→∀ j,j<k+1→a.getD j []=b.getD j []:=fun h=>Vd Jl h;have Qs:a.getD k []≠b.getD k []→(a==b)=false:=by
   intro h;rw [Za];intro e;exact h (by rw [e])
  obtain ⟨x,hx⟩:=exq (a.getD k []);obtain ⟨y,hy⟩:=exq (b.getD k []);rw [hx] at Qn Jg Qs;rw [hy] at Ql Jg Qs;cases Qp:(x==y) with
  | false =>
   have Qo:=Qs (by simpa using Qp)
   exact N6
  | true =>
   have h2:=Jg (by simpa using Qp)
   have Kq:KgY:=⟨⟩;exact Jw
 ·have Qo:(a==b)=true:=by
   rw [Zj];exact Fz [] Q5 fun j hj=>Jl j (by omega)
  exact dL):p:=h
theorem good_Strings5:Qc Tryz.prog (130,Lv):=by
 obtain ⟨Kx,Kt,Kc,Kd,Kb,Ku,Kw,K,_⟩:=J7 Zx Zo [] false J5;have Ko:=Lv.eq_def;refine J9 K Tryz.func130 [.tmp 4] rfl 26 rfl (fun c hc Ji Zh=>?_);unfold Lv at Zh;obtain ⟨⟨a⟩,⟨b⟩,rfl,ha,hb⟩:=Qf Zh;simp only at ha hb;by_cases Q5:a.length=b.length
 case neg =>
  have Qk:((a.length:Int) != (b.length:Int))=true:=by rw [bne_iff_ne];omega
  have Qo:(a==b)=false:=by rw [Za];intro e;exact Q5 (by rw [e])
  cases hc;exact dL
 have Qk:((a.length:Int) != (b.length:Int))=false:=by rw [Q5,bne_self_eq_false]
 cases hc;have Kq:KgX:=⟨⟩;exact Jw
def cX:Con:=Jy (fun (a b:Sl Site)=>Lo a.l.length∧Lo b.l.length) (fun a b=>a.l==b.l)
def Zgs (a b:Site):Bool:=(a.frm==b.frm)&&((a.to==b.to)&&(a.miss==b.miss))
theorem Zln {a b:Site}:Zgs a b=true↔a=b:=by
 obtain ⟨a1,a2,a3⟩:=a;obtain ⟨b1,b2,b3⟩:=b;simp [Zgs]
class Kha:Prop
theorem Kha.k (_:Kha) (h:p:=by
 first|rfl|(simp_all;done)|skip):p:=h
class Khb:Prop
theorem Khb.k (_:Khb) (h:p:=by
 first|exact ⟨k+1,by exact Qt,by omega,h2,by omega⟩|(simp_all;done)|skip):p:=h
class KgZ:Prop
theorem KgZ.k (_:KgZ) (h:p:=by
 refine Zm [4,11,12,13,14,15,16,17,18,19,20,21,22,23,24,25] (fun k:Nat=>[(5,.d (.int .i64 k))]) (fun k:Nat=>[]) (fun k:Nat=>k≤a.length∧∀ j,j<k→a.getD j Qcr=b.getD j Qcr) (fun k:Nat=>a.length-k) 0 ?_ ?_ ?_
 ·exact ⟨by omega,fun j hj=>absurd hj (Nat.not_lt_zero j)⟩
 ·exact Qt
 rintro k ⟨hk,Jl⟩;rcases Zn k a.length with ⟨Zv,Qi⟩|⟨Zv,Qi⟩
 ·have Qn:=Zp Qcr Zv;have Ql:=Zp Qcr (show k<b.length by omega)
  have Jg:a.getD k Qcr=b.getD k Qcr→∀ j,j<k+1→a.getD j Qcr=b.getD j Qcr:=fun h=>Vd Jl h;have Qs:a.getD k Qcr≠b.getD k Qcr→(a==b)=false:=by
   intro h;rw [Za];intro e;exact h (by rw [e])
  obtain ⟨x,hx⟩:=exq (a.getD k Qcr);obtain ⟨y,hy⟩:=exq (b.getD k Qcr);rw [hx] at Qn Jg Qs;rw [hy] at Ql Jg Qs;have Zca:=Zln (a:=x) (b:=y);unfold Zgs at Zca;cases Qp:((x.frm==y.frm)&&((x.to==y.to)&&(x.miss==y.miss))) with
  | false =>
   have Qo:=Qs (fun e=>by rw [Qp] at Zca;exact Bool.noConfusion (Zca.2 e))
   have Kq:Kha:=⟨⟩;exact Jw
  | true =>
   have h2:=Jg (Zca.1 Qp);have Kq:Khb:=⟨⟩;exact Jw
 ·have Qo:(a==b)=true:=by
   rw [Zj];exact Fz Qcr Q5 fun j hj=>Jl j (by omega)
  exact dL):p:=h
theorem good_Sites4:Qc Tryz.prog (92,cX):=by
 obtain ⟨Kx,Kt,Kc,Kd,Kb,Ku,Kw,K,_⟩:=J7 Zx Zo [] false J5;have Ko:=cX.eq_def;refine J9 K Tryz.func92 [.tmp 4] rfl 26 rfl (fun c hc Ji Zh=>?_);unfold cX at Zh;obtain ⟨⟨a⟩,⟨b⟩,rfl,ha,hb⟩:=Qf Zh;simp only at ha hb;by_cases Q5:a.length=b.length
 case neg =>
  have Qk:((a.length:Int) != (b.length:Int))=true:=by rw [bne_iff_ne];omega
  have Qo:(a==b)=false:=by rw [Za];intro e;exact Q5 (by rw [e])
  cases hc;exact dL
 have Qk:((a.length:Int) != (b.length:Int))=false:=by rw [Q5,bne_self_eq_false]
 cases hc;have Kq:KgZ:=⟨⟩;exact Jw
def jO (x y:Def6):Bool:=(x.name==y.name)&&(Lk x.t y.t&&T5 x.e y.e)
def lJ (a b:List Def6):Bool:=(List.range a.length).all fun j=>jO (a.getD j Q6) (b.getD j Q6)
theorem Zi5 {a b:List Def6} (h:∀ j,j<a.length→jO (a.getD j Q6) (b.getD j Q6)=true):lJ a b=true:=by
 unfold lJ;rw [List.all_eq_true];exact fun j hj=>h j (List.mem_range.1 hj)
theorem Zfr {a b:List Def6} {k:Nat} (hk:k<a.length) (h:jO (a.getD k Q6) (b.getD k Q6)=false):lJ a b=false:=by
 unfold lJ;rw [←Bool.not_eq_true,List.all_eq_true];intro hh;have:=hh k (List.mem_range.2 hk);rw [h] at this;cases this
def sR (a b:Mod6):Bool:=(a.name==b.name)&&((a.imps==b.imps)&&((a.defs.length==b.defs.length)&&lJ a.defs b.defs))
structure In6 (m:Mod6):Prop where
 imps:Lo m.imps.length
 defs:Lo m.defs.length
 sites:Lo m.sites.length
 t:∀ d∈m.defs,Lo d.t.length
 e:∀ d∈m.defs,Zmn d.e
def iF:Con:=Jy (fun (a b:Mod6)=>In6 a∧In6 b) (fun a b=>sR a b)
class Khd:Prop
theorem Khd.k (_:Khd) (h:p:=by
 first|exact x2|exact y2|exact ⟨k+1,by exact Qt,by omega,h9,by omega⟩|rfl|trivial|skip):p:=h
class Khc:Prop
theorem Khc.k (_:Khc) (h:p:=by
 refine Zm [4,6,7,30,31,32,33,34,35,36,37,38,39,40,41,42,43,44,45,46,47,48,49,50,51,52,53,54,55,56,57,58,59,60,61,62,63,64,65,66,67] (fun k:Nat=>[(5,.d (.int .i64 k))]) (fun k:Nat=>[]) (fun k:Nat=>k≤ad.length∧∀ j,j<k→jO (ad.getD j Q6) (bd.getD j Q6)=true) (fun k:Nat=>ad.length-k) 0 ?_ ?_ ?_
 ·exact ⟨by omega,fun j hj=>absurd hj (Nat.not_lt_zero j)⟩
 ·exact Qt
 rintro k ⟨hk,Jl⟩;rcases Zn k ad.length with ⟨Zv,Ql⟩|⟨Zv,Ql⟩
 ·have Qp:=Zp Q6 Zv;have Qv:=Zp Q6 (show k<bd.length by omega)
  have Jg:jO (ad.getD k Q6) (bd.getD k Q6)=true→∀ j,j<k+1→jO (ad.getD j Q6) (bd.getD j Q6)=true:=fun h=>Vd Jl h;have Qs:jO (ad.getD k Q6) (bd.getD k Q6)=false→R=false:=fun h=>by rw [←Zq];exact Zfr Zv h
  have x1:=a4 (ad.getD k Q6) (by simp [Zv])
  have x2:=a5 (ad.getD k Q6) (by simp [Zv])
  have y1:=b4 (bd.getD k Q6) (by simp [show k<bd.length by omega])
  have y2:=b5 (bd.getD k Q6) (by simp [show k<bd.length by omega])
  obtain ⟨x,hx⟩:=exq (ad.getD k Q6);obtain ⟨y,hy⟩:=exq (bd.getD k Q6);rw [hx] at Qp Jg Qs x1 x2;rw [hy] at Qv Jg Qs y1 y2;obtain ⟨xn,xt,xe⟩:=x;obtain ⟨yn,yt,ye⟩:=y;unfold jO at Jg Qs;simp only at Jg Qs x1 x2 y1 y2;clear Jl;cases Q3:xn==yn with
  | false =>
   have g1b:(xn != yn)=true:=by rw [bne,Q3];rfl
   have Jh:=Qs (by rw [Q3];rfl)
   clear Jg Qs;exact N6
  | true =>
   have g1b:(xn != yn)=false:=by rw [bne,Q3];rfl
   cases Jb:Lk xt yt with
   | false =>
    have Jh:=Qs (by rw [Q3,Jb];rfl)
    clear Jg Qs;exact N6
   | true =>
    cases Z3:T5 xe ye with
    | false =>
     have Jh:=Qs (by rw [Q3,Jb,Z3];rfl)
     clear Jg Qs;exact N6
    | true =>
     have h9:=Jg (by rw [Q3,Jb,Z3];rfl)
     clear Jg Qs;have Kq:Khd:=⟨⟩;exact Jw
 ·have Ni:k=ad.length:=by omega
  have Jh:R=true:=by rw [←Zq];exact Zi5 fun j hj=>Jl j (by omega)
  clear Jl;exact dL):p:=h
theorem good_Same6:Qc Tryz.prog (91,iF):=by
 obtain ⟨Kx,Kt,Kc,Kd,Kb,Ku,Kw,K,X4,V2,Mo,_⟩:=J7 Zx Zo [] false (Q1 good_Strings5 Lv.eq_def (Q1 good_Same3 O4.eq_def (Q1 good_Same5 Em.eq_def J5)));have Ko:=iF.eq_def;refine J9 K Tryz.func91 [.tmp 4] rfl 68 rfl (fun c hc Ji Zh=>?_);unfold iF at Zh;obtain ⟨⟨an,ai,ad,sa⟩,⟨bn,bi,bd,bs⟩,rfl,⟨a1,a2,a3,a4,a5⟩,⟨b1,b2,b3,b4,b5⟩⟩:=Qf Zh;simp only at a1 a2 a3 a4 a5 b1 b2 b3 b4 b5;clear Zh;obtain ⟨R,Qo⟩:=exq (sR ⟨an,ai,ad,sa⟩ ⟨bn,bi,bd,bs⟩);have Zq:=Qo;unfold sR at Zq;simp only at Zq;cases hc;refine W5 4 ?_;cases Qk:an==bn with
 | false =>
  have Jce:(an != bn)=true:=by rw [bne,Qk];rfl
  rw [Qk,Bool.false_and] at Zq;subst Zq;exact dL
 | true =>
  have Jce:(an != bn)=false:=by rw [bne,Qk];rfl
  rw [Qk,Bool.true_and] at Zq;cases Qi:ai==bi with
  | false =>
   rw [Qi,Bool.false_and] at Zq;subst Zq;exact N6
  | true =>
   rw [Qi,Bool.true_and] at Zq;by_cases h3:ad.length=bd.length
   case neg =>
    have Qn:((ad.length:Int) != (bd.length:Int))=true:=by rw [bne_iff_ne];omega
    have Qpg:(ad.length==bd.length)=false:=by rw [Za];exact h3
    rw [Qpg,Bool.false_and] at Zq;subst Zq;exact N6
   have Qn:((ad.length:Int) != (bd.length:Int))=false:=by rw [h3,bne_self_eq_false]
   have Qpg:(ad.length==bd.length)=true:=by rw [Zj];exact h3
   rw [Qpg,Bool.true_and] at Zq;have Kq:Khc:=⟨⟩;exact Jw
theorem Zxd (a:Mod6):sR a a=true:=by
 unfold sR lJ jO Lk T5;simp
theorem Zxc {a b:Mod6} (h:sR a b=true):a.name=b.name∧a.imps=b.imps∧a.defs.length=b.defs.length∧∀ j,j<a.defs.length→(a.defs.getD j Q6).name=(b.defs.getD j Q6).name:=by
 unfold sR at h;simp only [Zg,Zj] at h;obtain ⟨h1,h2,h3,h4⟩:=h;refine ⟨h1,h2,h3,fun j hj=>?_⟩;unfold lJ at h4;rw [List.all_eq_true] at h4;have:=h4 j (List.mem_range.2 hj);unfold jO at this;simp only [Zg,Zj] at this;exact this.1
def pH:Con:=Jy (fun (a b:Mod6)=>In6 a∧In6 b) (fun a b=>a==b)
class Khf:Prop
theorem Khf.k (_:Khf) (h:p:=by
 first|exact x2|exact y2|exact ⟨k+1,by exact Qt,by omega,h9,by omega⟩|rfl|trivial|skip):p:=h
class Khe:Prop
theorem Khe.k (_:Khe) (h:p:=by
 first|exact Jcd|exact Zfc|skip
 refine Zm [4,18,19,20,21,22,23,24,25,26,27,28,29,30,31,32,33,34,35,36,37,38,39,40,41,42,43,44,45,46,47,48,49,50,51,52,53,54] (fun k:Nat=>[(5,.d (.int .i64 k))]) (fun k:Nat=>[]) (fun k:Nat=>k≤ad.length∧∀ j,j<k→ad.getD j Q6=bd.getD j Q6) (fun k:Nat=>ad.length-k) 0 ?_ ?_ ?_
 ·exact ⟨by omega,fun j hj=>absurd hj (Nat.not_lt_zero j)⟩
 ·exact Qt
 rintro k ⟨hk,Jg⟩;rcases Zn k ad.length with ⟨Zv,Ql⟩|⟨Zv,Ql⟩
 ·have Qp:=Zp Q6 Zv;have Qv:=Zp Q6 (show k<bd.length by omega)
  have Jg:ad.getD k Q6=bd.getD k Q6→∀ j,j<k+1→ad.getD j Q6=bd.getD j Q6:=fun h=>Vd Jg h;have Qs:ad.getD k Q6≠bd.getD k Q6→R=false:=fun h=>Jl fun e=>by injection e with _ _ e _;exact h (by rw [e])
  have x1:=a4 (ad.getD k Q6) (by simp [Zv])
  have x2:=a5 (ad.getD k Q6) (by simp [Zv])
  have y1:=b4 (bd.getD k Q6) (by simp [show k<bd.length by omega])
  have y2:=b5 (bd.getD k Q6) (by simp [show k<bd.length by omega])
  have Qpt:=e4 k Zv;obtain ⟨x,hx⟩:=exq (ad.getD k Q6);obtain ⟨y,hy⟩:=exq (bd.getD k Q6);rw [hx] at Qp Jg Qs x1 x2 Qpt;rw [hy] at Qv Jg Qs y1 y2 Qpt;obtain ⟨xn,xt,xe⟩:=x;obtain ⟨yn,yt,ye⟩:=y;simp only at x1 x2 y1 y2 Qpt;cases Q3:xt==yt with
  | false =>
   have Qi:=Qs (fun e=>by injection e with _ e _;rw [e,beq_self_eq_true] at Q3;cases Q3)
   clear Jg Qs;exact N6
  | true =>
   cases Jh:xe==ye with
   | false =>
    have Qi:=Qs (fun e=>by injection e with _ _ e;rw [e,beq_self_eq_true] at Jh;cases Jh)
    clear Jg Qs;exact N6
   | true =>
    have h9:=Jg (by rw [Qpt,(by simpa using Q3:xt=yt),(by simpa using Jh:xe=ye)])
    clear Jg Qs;have Kq:Khf:=⟨⟩;exact Jw
 ·have Qi:R=true:=by
   rw [←Qo,Zj,e1,e2,e5,Fz Q6 e3 fun j hj=>Jg j (by omega)]
  clear Jg;exact dL):p:=h
theorem good_One6:Qc Tryz.prog (48,pH):=by
 obtain ⟨Kx,Kt,Kc,Kd,Kb,Ku,Kw,K,X4,V2,Mo,Tx,_⟩:=J7 Zx Zo [] false (Q1 good_Same6 iF.eq_def (Q1 good_Sites4 cX.eq_def (Q1 good_One3 fJ.eq_def (Q1 good_One5 pI.eq_def J5))));have Ko:=pH.eq_def;refine J9 K Tryz.func48 [.tmp 4] rfl 55 rfl (fun c hc Ji Zh=>?_);unfold pH at Zh;obtain ⟨⟨an,ai,ad,sa⟩,⟨bn,bi,bd,bs⟩,rfl,hA,hB⟩:=Qf Zh;clear Zh;have Jcd:=hA;have Zfc:=hB;obtain ⟨a1,a2,a3,a4,a5⟩:=hA;obtain ⟨b1,b2,b3,b4,b5⟩:=hB;simp only at a1 a2 a3 a4 a5 b1 b2 b3 b4 b5;obtain ⟨R,Qo⟩:=exq (((⟨an,ai,ad,sa⟩:Mod6)==⟨bn,bi,bd,bs⟩));have Jl:(⟨an,ai,ad,sa⟩:Mod6)≠⟨bn,bi,bd,bs⟩→R=false:=fun h=>by rw [←Qo,Za];exact h
 cases hc;refine W5 3 ?_;cases Qk:sR ⟨an,ai,ad,sa⟩ ⟨bn,bi,bd,bs⟩ with
 | false =>
  have Qi:=Jl (fun e=>by rw [e,Zxd] at Qk;cases Qk)
  exact N6
 | true =>
  obtain ⟨e1,e2,e3,e4⟩:=Zxc Qk;simp only at e1 e2 e3 e4;cases Qn:sa==bs with
  | false =>
   have Qi:=Jl (fun e=>by injection e with _ _ _ e;rw [e,beq_self_eq_true] at Qn;cases Qn)
   exact N6
  | true =>
   have e5:sa=bs:=by simpa using Qn
   have Kq:Khe:=⟨⟩;exact Jw
def iE:Con:=Jy (fun (a b:Sl Mod6)=>(Lo a.l.length∧∀ m∈a.l,In6 m)∧Lo b.l.length∧∀ m∈b.l,In6 m) (fun a b=>a.l==b.l)
class Khh:Prop
theorem Khh.k (_:Khh) (h:p:=by
 first|exact x1|exact y1|exact ⟨k+1,by exact Qt,by omega,h2,by omega⟩|skip):p:=h
class Khg:Prop
theorem Khg.k (_:Khg) (h:p:=by
 refine Zm [4,11,12,13,14,15,16,17,18,19,20,21,22,23,24,25,26] (fun k:Nat=>[(5,.d (.int .i64 k))]) (fun k:Nat=>[]) (fun k:Nat=>k≤a.length∧∀ j,j<k→a.getD j Je=b.getD j Je) (fun k:Nat=>a.length-k) 0 ?_ ?_ ?_
 ·exact ⟨by omega,fun j hj=>absurd hj (Nat.not_lt_zero j)⟩
 ·exact Qt
 rintro k ⟨hk,Jl⟩;rcases Zn k a.length with ⟨Zv,Qi⟩|⟨Zv,Qi⟩
 ·have Qn:=Zp Je Zv;have Ql:=Zp Je (show k<b.length by omega)
  have Jg:a.getD k Je=b.getD k Je→∀ j,j<k+1→a.getD j Je=b.getD j Je:=fun h=>Vd Jl h;have Qs:a.getD k Je≠b.getD k Je→(a==b)=false:=by
   intro h;rw [Za];intro e;exact h (by rw [e])
  have x1:=Qo1 (a.getD k Je) (by simp [Zv])
  have y1:=aB (b.getD k Je) (by simp [show k<b.length by omega])
  obtain ⟨x,hx⟩:=exq (a.getD k Je);obtain ⟨y,hy⟩:=exq (b.getD k Je);rw [hx] at Qn Jg Qs x1;rw [hy] at Ql Jg Qs y1;obtain ⟨xn,xi,xd,xs⟩:=x;obtain ⟨yn,yi,yd,ys⟩:=y;cases Qp:((⟨xn,xi,xd,xs⟩:Mod6)==⟨yn,yi,yd,ys⟩) with
  | false =>
   have Qo:=Qs (by simpa using Qp)
   clear Jl;exact N6
  | true =>
   have h2:=Jg (by simpa using Qp)
   clear Jl;have Kq:Khh:=⟨⟩;exact Jw
 ·have Qo:(a==b)=true:=by
   rw [Zj];exact Fz Je Q5 fun j hj=>Jl j (by omega)
  clear Jl;exact dL):p:=h
theorem good_Same9:Qc Tryz.prog (18,iE):=by
 obtain ⟨Kx,Kt,Kc,Kd,Kb,Ku,Kw,K,X4,_⟩:=J7 Zx Zo [] false (Q1 good_One6 pH.eq_def J5);have Ko:=iE.eq_def;refine J9 K Tryz.func18 [.tmp 4] rfl 27 rfl (fun c hc Ji Zh=>?_);unfold iE at Zh;obtain ⟨⟨a⟩,⟨b⟩,rfl,⟨ha,Qo1⟩,hb,aB⟩:=Qf Zh;simp only at ha Qo1 hb aB;by_cases Q5:a.length=b.length
 case neg =>
  have Qk:((a.length:Int) != (b.length:Int))=true:=by rw [bne_iff_ne];omega
  have Qo:(a==b)=false:=by rw [Za];intro e;exact Q5 (by rw [e])
  cases hc;exact dL
 have Qk:((a.length:Int) != (b.length:Int))=false:=by rw [Q5,bne_self_eq_false]
 cases hc;have Kq:Khg:=⟨⟩;exact Jw
structure Bd where
 name:List UInt8
 t:List Node
 deriving DecidableEq
instance encBd:Enc Bd:=⟨fun a=>.agg [.str a.name,.list 3 (a.t.map enc)],fun x=>match x with
 | .agg [a,b]=>⟨a.s,b.l.map dec⟩
 | _=>⟨[],[]⟩,fun a=>by
  have h1:∀ l:List Node,(l.map (enc:Node→D)).map dec=l:=fun l=>Jx;cases a;simp [D.l,D.s,h1]⟩
instance szBd:Sz Bd:=⟨2⟩
theorem Ad:Sz.sz Bd=2:=rfl
theorem vM {a:List UInt8} {b:List Node}:(enc (Bd.mk a b):D)=.agg [.str a,.list 3 (b.map enc)]:=rfl
def Qi8:Bd:=⟨[],[]⟩
def Dp:Con:=Jy (fun (t:Sl Node) (b:Int)=>Qig t.l∧0≤b∧b≤1000000) (fun t b=>Sl.mk (Hi b t.l))
class Khj:Prop
theorem Khj.k (_:Khj) (h:p:=by
 first|contradiction|exact ⟨k+1,by (have Vc:=dN;exact Qt),by omega,by omega⟩|skip):p:=h
class Khk:Prop
theorem Khk.k (_:Khk) (h:p:=by
 first|contradiction|exact ⟨k+1,by exact Qt,by omega,by omega⟩|skip):p:=h
class Khl:Prop
theorem Khl.k (_:Khl) (h:p:=by
 first|contradiction|exact ⟨k+1,by (have Vc:=dN;exact Qt),by omega,by omega⟩|skip):p:=h
class Khi:Prop
theorem Khi.k (_:Khi) (h:p:=by
 refine Zm [10,11,12,13,14,15,16,17,18,19,20,21,22,23,24,25,26,27,28,29,30,31,32,33,34,35,36,37,38,39,40] (fun k:Nat=>[(6,.d (.int .i64 k))]) (fun k:Nat=>[(7,.row 3 ((Uv (fun _=>Y1 b) t k).map enc) 0)]) (fun k:Nat=>k≤t.length) (fun k:Nat=>t.length-k) 0 ?_ ?_ ?_
 ·omega
 ·have Vc:=@V6;exact Qt
 rintro k hk;have Ql:=Kk (f:=fun _=>Y1 b) (l:=t) k;rcases Zn k t.length with ⟨Zv,Qo⟩|⟨Zv,Qo⟩
 ·have Qi:=Zp n0 (show k<(Uv (fun _=>Y1 b) t k).length by omega)
  rw [Ms n0 Zv] at Qi;have C4:=Kj n0 Zv (f:=fun _=>Y1 b);have K8:=Qgk n0 Zv (f:=fun _=>Y1 b);have Qlc:=hb (t.getD k n0) (by simp [Zv])
  obtain ⟨y,hy⟩:=exq (t.getD k n0);rw [hy] at Qi C4 K8 Qlc;obtain ⟨yk,yn,yi⟩:=y;simp only at Qlc;obtain ⟨P,hP⟩:=exq (Uv (fun _=>Y1 b) t k);rw [hP] at Qi C4 K8 Ql ⊢;have Qp:(P.map (enc:Node→D)).length=t.length:=by rw [Zf,Ql]
  by_cases h0:yk=0
  case neg =>
   have Qn:(yk==0)=false:=by rw [Za];exact h0
   have dN:=K8 (by unfold Y1;rw [if_neg (fun h=>h0 h.1)])
   have Kq:Khj:=⟨⟩;exact Jw
  subst h0;have Qn:((0:Int)==0)=true:=rfl;rcases Y3 0 yi with ⟨h1,Qv⟩|⟨h1,Qv⟩
  ·have Jch:=Qlc rfl;have Q3:(P.map (enc:Node→D)).set k (.agg [.int .i64 0,.str yn,.int .i64 (yi+b)])=(Uv (fun _=>Y1 b) t (k+1)).map enc:=by
    rw [←C4];unfold Y1;rw [if_pos ⟨rfl,h1⟩,←X0];rfl
   have Kq:Khk:=⟨⟩;exact Jw
  ·have dN:=K8 (by unfold Y1;rw [if_neg (fun h=>by have:=h.2;simp only at this;omega)])
   have Kq:Khl:=⟨⟩;exact Jw
 ·have Ni:k=t.length:=by omega
  have Zbc:Uv (fun _=>Y1 b) t k=R:=by rw [Ni,V7,←Qk];rfl
  have Jh:R.length=t.length:=by rw [←Zbc,Ql]
  rw [Zbc];exact N6):p:=h
theorem good_shifted9:Qc Tryz.prog (47,Dp):=by
 obtain ⟨Kx,Kt,Kc,Kd,Kb,Ku,Kw,K,_⟩:=J7 Zx Zo [] false J5;have Ko:=Dp.eq_def;refine J9 K Tryz.func47 [.tmp 4] rfl 42 rfl (fun c hc Ji Zh=>?_);unfold Dp at Zh;obtain ⟨⟨t⟩,b,rfl,⟨ht,hb⟩,Qix,Zhw⟩:=Qf Zh;simp only at ht hb;clear Zh;obtain ⟨R,Qk⟩:=exq (Hi b t);cases hc;refine W5 2 ?_;have Kq:Khi:=⟨⟩;exact Jw
def Zh0 {α:Type} (f:Nat→α→α) (l:List α) (k:Nat):List α:=(l.take k).mapIdx f
section
variable {α:Type} {f:Nat→α→α} {l:List α}
theorem Zif:Zh0 f l 0=[]:=by simp [Zh0]
theorem Zih:Zh0 f l l.length=l.mapIdx f:=by simp [Zh0]
theorem Zz5 {k:Nat} (h:k≤l.length):(Zh0 f l k).length=k:=by
 unfold Zh0;simp;omega
theorem Zig (d:α) {k:Nat} (h:k<l.length):Zh0 f l (k+1)=Zh0 f l k++[f k (l.getD k d)]:=by
 unfold Zh0;rw [Y0 d h,List.mapIdx_append];simp [show min k l.length=k by omega]
end
def Il:Con:=Hu (fun (l:Sl Mod6)=>NumOk l.l) (fun l=>Dh l.l)
class Khn:Prop
theorem Khn.k (_:Khn) (h:p:=by
 first|rfl|trivial|(simp;done)|skip):p:=h
class Khp:Prop
theorem Khp.k (_:Khp) (h:p:=by
 first|exact ⟨k+1,by rw [←dN];(have Vc:=@Wn;exact Qt),by omega,by omega⟩|skip):p:=h
class Khr:Prop
theorem Khr.k (_:Khr) (h:p:=by
 first|exact lowt2 _ (by assumption) (by assumption)|exact ⟨lowt1,lowt2⟩|exact ⟨d+1,by rw [←dN];(have Vc:=@Md;have Cs:=Jbv;exact Qt),by omega,by omega⟩|skip):p:=h
class Khs:Prop
theorem Khs.k (_:Khs) (h:p:=by
 first|exact lpt|exact lpu|exact ⟨j+1,by (have Vc:=Qm;have Cs:=r9b;exact Qt),by omega,by omega⟩|skip):p:=h
class Khq:Prop
theorem Khq.k (_:Khq) (h:p:=by
 refine Zm [58,59,60,61,62,63,64,65,66,67,68,69,70,71,72,73,74,75,76,77,78,79,80,81,82,83,84,85] (fun j:Nat=>[(12,.d (.int .i64 j))]) (fun j:Nat=>[(54,.row 8 ((Uv (fun _=>Ut b) xe j).map enc) 0)]) (fun j:Nat=>j≤xe.length) (fun j:Nat=>xe.length-j) 0 ?_ ?_ ?_
 ·omega
 ·have Vc:=@V6;exact Qt
 rintro j hj;have L8:=Kk (f:=fun _=>Ut b) (l:=xe) j;rcases Zn j xe.length with ⟨Ka,Jh⟩|⟨Ka,Jh⟩
 rotate_left
 ·have wZ:j=xe.length:=by omega
  have Zbc:Uv (fun _=>Ut b) xe j=xe.mapIdx fun _=>Ut b:=by rw [wZ,V7]
  have Jb:(xe.mapIdx fun _=>Ut b).length=xe.length:=by simp
  have dN:Q++[⟨xn,Hi b xt,xe.mapIdx fun _=>Ut b⟩]=Zh0 (fun _=>V5 b) md (d+1):=by
   rw [Zzo];rfl
  rw [Zbc];rw [wZ] at Jh;obtain ⟨E2,Qfq⟩:=exq ((xe.mapIdx fun _=>Ut b));obtain ⟨T2,Z3⟩:=exq (Hi b xt);rw [Qfq,Z3] at dN;have Jbv:(enc (Sl.mk T2):D)=.list 3 (T2.map enc):=rfl;rw [Qfq] at Jb ⊢;have Qr:=@Hu.eq_def;have Kq:Khr:=⟨⟩;exact Jw
 have Qq:=Zp e0 (show j<(Uv (fun _=>Ut b) xe j).length by omega)
 rw [Ms e0 Ka] at Qq;have R8:=Kj e0 Ka (f:=fun _=>Ut b);have Qmk:=lowe (xe.getD j e0) (by simp [Ka])
 obtain ⟨p,hp⟩:=exq (xe.getD j e0);rw [hp] at Qq R8 Qmk;obtain ⟨pk,pl,pn,pb,pm,pq,pt,pu⟩:=p;obtain ⟨lpt,lpu⟩:=Qmk;simp only at lpt lpu;obtain ⟨S,Qo3⟩:=exq (Uv (fun _=>Ut b) xe j);rw [Qo3] at Qq R8 L8 ⊢;have Z6:(S.map (enc:Part→D)).length=xe.length:=by rw [Zf,L8]
 obtain ⟨T2,Z3⟩:=exq (Hi b pt);obtain ⟨U2,Qg⟩:=exq (Hi b pu);have Qj:(S.map (enc:Part→D)).set j (.agg [.int .i64 pk,.str pl,.str pn,.str pb,.int .i64 pm,.int .i64 pq,enc (Sl.mk T2),.list 3 (pu.map enc)])=(S.set j ⟨pk,pl,pn,pb,pm,pq,T2,pu⟩).map enc:=X0 (y:=(⟨pk,pl,pn,pb,pm,pq,T2,pu⟩:Part));have Qx:el ((S.set j ⟨pk,pl,pn,pb,pm,pq,T2,pu⟩).map (enc:Part→D)) j=.agg [.int .i64 pk,.str pl,.str pn,.str pb,.int .i64 pm,.int .i64 pq,enc (Sl.mk T2),.list 3 (pu.map enc)]:=Br (by omega)
 have Qm:((S.set j ⟨pk,pl,pn,pb,pm,pq,T2,pu⟩).map (enc:Part→D)).set j (.agg [.int .i64 pk,.str pl,.str pn,.str pb,.int .i64 pm,.int .i64 pq,enc (Sl.mk T2),enc (Sl.mk U2)])=(Uv (fun _=>Ut b) xe (j+1)).map enc:=by
  rw [←R8];have:Ut b ⟨pk,pl,pn,pb,pm,pq,pt,pu⟩=⟨pk,pl,pn,pb,pm,pq,T2,U2⟩:=by unfold Ut;rw [Z3,Qg]
  rw [this];refine Eq.trans (X0 (y:=(⟨pk,pl,pn,pb,pm,pq,T2,U2⟩:Part))) ?_;rw [List.set_set]
 have r9b:(S.map (enc:Part→D)).set j (.agg [.int .i64 pk,.str pl,.str pn,.str pb,.int .i64 pm,.int .i64 pq,enc (Sl.mk T2),enc (Sl.mk U2)])=(Uv (fun _=>Ut b) xe (j+1)).map enc:=by
  rw [←Qm,←X0,List.set_set]
 have Z7:((S.set j ⟨pk,pl,pn,pb,pm,pq,T2,pu⟩).map (enc:Part→D)).length=xe.length:=by rw [Zf,List.length_set,L8]
 have Qfd:(S.set j ⟨pk,pl,pn,pb,pm,pq,T2,pu⟩).length=xe.length:=by rw [List.length_set,L8]
 have Qq:el (S.map (enc:Part→D)) j=.agg [.int .i64 pk,.str pl,.str pn,.str pb,.int .i64 pm,.int .i64 pq,.list 3 (pt.map enc),.list 3 (pu.map enc)]:=Qq;have Qr:=@Hu.eq_def;have Kq:Khs:=⟨⟩;exact Jw):p:=h
class Kho:Prop
theorem Kho.k (_:Kho) (h:p:=by
 refine Zm [10,11,12,36,37,38,39,40,41,42,43,44,45,46,47,48,49,50,51,52,53,54,55,56,57,58,59,60,61,62,63,64,65,66,67,68,69,70,71,72,73,74,75,76,77,78,79,80,81,82,83,84,85,86,87,88,89,90,91,92,93,94,95,96,97,98] (fun d:Nat=>[(9,.d (.int .i64 d))]) (fun d:Nat=>[(8,.box true [.d (.str mn),.d (.list 1 (mi.map enc)),.sl 97 ((Zh0 (fun _=>V5 b) md d).map (enc:Def6→D)).length,.d (.list 3 (ms.map enc))]),(97,.row 3 ((Zh0 (fun _=>V5 b) md d).map enc) 0)]) (fun d:Nat=>d≤md.length) (fun d:Nat=>md.length-d) 0 ?_ ?_ ?_
 ·omega
 ·have Vc:=@Zif;exact Qt
 rintro d hd;have Mq:=Zz5 (f:=fun _=>V5 b) (l:=md) hd;rcases Zn d md.length with ⟨Ki,Ql⟩|⟨Ki,Ql⟩
 rotate_left
 ·have Zcb:d=md.length:=by omega
  have Zbc:Zh0 (fun _=>V5 b) md d=md.mapIdx fun _=>V5 b:=by rw [Zcb,Zih]
  have dN:P++[⟨mn,mi,md.mapIdx fun _=>V5 b,ms⟩]=Zh0 (Uu l) l (k+1):=by
   rw [G9];unfold Uu;rw [Qzn]
  have Qp:(md.mapIdx fun _=>V5 b).length=md.length:=by simp
  rw [Zbc];rw [Zcb] at Ql;obtain ⟨Ds,Jca⟩:=exq ((md.mapIdx fun _=>V5 b));rw [Jca] at Qp dN ⊢;have Qr:=@Hu.eq_def;have Kq:Khp:=⟨⟩;exact Jw
 have Q3:=Zp Q6 Ki;have Zzo:=Zig Q6 Ki (f:=fun _=>V5 b);have Qml:=mI (md.getD d Q6) (by simp [Ki])
 obtain ⟨x,hx⟩:=exq (md.getD d Q6);rw [hx] at Q3 Zzo Qml;obtain ⟨xn,xt,xe⟩:=x;obtain ⟨⟨lowt1,lowt2⟩,lowl,lowe⟩:=Qml;simp only at lowt1 lowt2 lowl lowe;obtain ⟨Q,hQ⟩:=exq (Zh0 (fun _=>V5 b) md d);rw [hQ] at Zzo Mq ⊢;have Qr:=@Hu.eq_def;have Kq:Khq:=⟨⟩;exact Jw):p:=h
class Khm:Prop
theorem Khm.k (_:Khm) (h:p:=by
 refine Zm [8,9,10,11,12,14,15,16,17,18,19,20,21,22,23,24,25,26,27,28,29,30,31,32,33,34,35,36,37,38,39,40,41,42,43,44,45,46,47,48,49,50,51,52,53,54,55,56,57,58,59,60,61,62,63,64,65,66,67,68,69,70,71,72,73,74,75,76,77,78,79,80,81,82,83,84,85,86,87,88,89,90,91,92,93,94,95,96,97,98,99,100,101,102,103,104,105,106,107,108,109,110] (fun k:Nat=>[(5,.sl 13 ((Zh0 (Uu l) l k).map (enc:Mod6→D)).length),(6,.d (.int .i64 (ah l k))),(7,.d (.int .i64 k))]) (fun k:Nat=>[(13,.row 4 ((Zh0 (Uu l) l k).map enc) 0)]) (fun k:Nat=>k≤l.length) (fun k:Nat=>l.length-k) 0 ?_ ?_ ?_
 ·omega
 ·have Vc:=@Zif;have Cs:=@Qbt;exact Qt
 rintro k hk;have qE:=Zz5 (f:=Uu l) (l:=l) hk;have Qfo:=Ql9 hS k hk;rcases Zn k l.length with ⟨Zv,Qk⟩|⟨Zv,Qk⟩
 rotate_left
 ·have Ni:k=l.length:=by omega
  rw [Ni,Zih];rw [Ni] at Qk;rcases Y3 60 (ah l l.length:Int) with ⟨h6,Qo⟩|⟨h6,Qo⟩
  ·rw [if_pos (by omega)] at Zq
   subst Zq;have Qr:=@Hu.eq_def;exact N6
  ·rw [if_neg (by omega)] at Zq
   subst Zq;have Qr:=@Hu.eq_def;have Kq:Khn:=⟨⟩;exact Jw
 have Qn:=Zp Je Zv;have G9:=Zig Je Zv (f:=Uu l);have Qty:=Zhb Zv;have Yn:l.getD k Je∈l:=by simp [Zv]
 have fP:=hN.len _ Yn;have mI:=hN.low _ Yn;have Qil:=hS.sites _ Yn;obtain ⟨m,hm⟩:=exq (l.getD k Je);rw [hm] at Qn G9 fP mI Qty Qil;obtain ⟨mn,mi,md,ms⟩:=m;simp only at fP mI Qty Qil;obtain ⟨P,hP⟩:=exq (Zh0 (Uu l) l k);rw [hP] at G9 qE ⊢;obtain ⟨b,Qzn⟩:∃ b:Int,(ah l k:Int)=b:=⟨_,rfl⟩;have Qi2:0≤b:=by omega
 have wX:b≤1000000:=by omega
 have Qv:b+(ms.length:Int)=(ah l (k+1):Int):=by omega
 rw [Qzn];have Qr:=@Hu.eq_def;have Kq:Kho:=⟨⟩;exact Jw):p:=h
theorem good_Number9:Qc Tryz.prog (15,Il):=by
 obtain ⟨Kx,Kt,Kc,Kd,Kb,Ku,Kw,K,X4,_⟩:=J7 Zx Zo [] false (Q1 good_shifted9 Dp.eq_def J5);have Ko:=Il.eq_def;refine J9 K Tryz.func15 [.tmp 2,.tmp 3,.tmp 4] rfl 115 rfl (fun c hc Ji Zh=>?_);unfold Il at Zh;obtain ⟨⟨l⟩,rfl,hN⟩:=Zen Zh;simp only at hN;clear Zh;have hS:=hN.sites;obtain ⟨R,Qi⟩:=exq (Dh l);have Zq:=Qi;unfold Dh at Zq;have Q5:=hS.len;cases hc;refine W5 7 ?_;have Qr:=@Hu.eq_def;have Kq:Khm:=⟨⟩;exact Jw
def Qkt (p:List UInt8) (x:Def6):Bd:=⟨p++x.name,x.t⟩
def nE (i:List UInt8) (x:Mod6):List Bd:=if x.name=i then x.defs.map (Qkt (x.name++[33])) else []
def tY (l:List Mod6) (i:List UInt8):List Bd:=l.flatMap (nE i)
def Qnf (l:List Mod6) (m d:Nat):List Bd:=(l.getD m Je).imps.flatMap (tY l)++((l.getD m Je).defs.take d).map (Qkt [])
def Zys (l:List Mod6) (m d:Int):List Bd :=
 if m<0∨(l.length:Int)≤m∨d<0∨((l.getD m.toNat Je).defs.length:Int)≤d then [] else Qnf l m.toNat d.toNat
structure EnvOk (l:List Mod6):Prop where
 len:l.length≤20
 name:∀ m∈l,m.name.length≤1000000
 iname:∀ m∈l,∀ i∈m.imps,i.length≤1000000
 dname:∀ m∈l,∀ d∈m.defs,d.name.length≤1000000
 imps:∀ m∈l,m.imps.length≤2000
 defs:∀ m∈l,m.defs.length≤1000
theorem bE {α β:Type} {f:α→List β} {c:Nat}:∀ {l:List α},(∀ x∈l,(f x).length≤c)→(l.flatMap f).length≤c*l.length
 | [],_=>by simp
 | x::l,h=>by
  have h1:=h x (by simp)
  have h2:=bE (f:=f) (c:=c) (l:=l) fun y hy=>h y (by simp [hy])
  rw [List.flatMap_cons,Ze,Zi,Nat.mul_add];omega
theorem Zjr {l:List Mod6} (h:EnvOk l) {x:Mod6} (hx:x∈l) (i:List UInt8):(nE i x).length≤1000:=by
 unfold nE;split
 ·rw [Zf];exact h.defs x hx
 ·simp
theorem Qgt {l:List Mod6} (h:EnvOk l) (i:List UInt8):(tY l i).length≤20000:=by
 have:=bE (f:=nE i) (c:=1000) (l:=l) fun x hx=>Zjr h hx i;have:=h.len;unfold tY;omega
theorem Qa3 {l:List Mod6} (h:EnvOk l) (is:List (List UInt8)):(is.flatMap (tY l)).length≤20000*is.length:=bE fun x _=>Qgt h x
theorem oM {α β:Type} (f:α→List β) (z:α) {l:List α} {k:Nat} (h:k<l.length):(l.take (k+1)).flatMap f=(l.take k).flatMap f++f (l.getD k z):=by
 rw [Y0 z h,List.flatMap_append];simp
theorem Qdm {α β:Type} (f:α→β) (z:α) {l:List α} {k:Nat} (h:k<l.length):(l.take (k+1)).map f=(l.take k).map f++[f (l.getD k z)]:=by
 rw [Y0 z h,List.map_append];simp
def sG (l:List Mod6) (is:List (List UInt8)) (i:Nat):List Bd:=(is.take i).flatMap (tY l)
def qZ (l:List Mod6) (x:List UInt8) (E:List Bd) (k:Nat):List Bd:=E++(l.take k).flatMap (nE x)
def fG (p:List UInt8) (ds:List Def6) (E:List Bd) (j:Nat):List Bd:=E++(ds.take j).map (Qkt p)
theorem Qex {l:List Mod6} {is:List (List UInt8)}:sG l is 0=[]:=by simp [sG]
theorem Qev {l:List Mod6} {x:List UInt8} {E:List Bd}:qZ l x E 0=E:=by simp [qZ]
theorem Zew {p:List UInt8} {ds:List Def6} {E:List Bd}:fG p ds E 0=E:=by simp [fG]
theorem Qey {l:List Mod6} {is:List (List UInt8)} {i:Nat} (h:i<is.length):sG l is (i+1)=qZ l (is.getD i []) (sG l is i) l.length:=by
 unfold sG qZ;rw [oM (tY l) [] h,List.take_length];rfl
theorem Qez {l:List Mod6} {is:List (List UInt8)}:sG l is is.length=is.flatMap (tY l):=by
 unfold sG;rw [List.take_length]
theorem Qew {l:List Mod6} {x:List UInt8} {E:List Bd} {k:Nat} (h:k<l.length):qZ l x E (k+1)=qZ l x E k++nE x (l.getD k Je):=by
 unfold qZ;rw [oM (nE x) Je h,List.append_assoc]
theorem Zex {p:List UInt8} {ds:List Def6} {E:List Bd} {j:Nat} (h:j<ds.length):fG p ds E (j+1)=fG p ds E j++[Qkt p (ds.getD j Q6)]:=by
 unfold fG;rw [Qdm (Qkt p) Q6 h,List.append_assoc]
theorem Qe0 {p:List UInt8} {ds:List Def6} {E:List Bd}:fG p ds E ds.length=E++ds.map (Qkt p):=by
 unfold fG;rw [List.take_length]
theorem Zmj {p:List UInt8} {ds:List Def6} {E:List Bd} {j:Nat}:(fG p ds E j).length≤E.length+ds.length:=by
 unfold fG;rw [Ze,Zf,List.length_take];omega
theorem Qic {l:List Mod6} (h:EnvOk l) {is:List (List UInt8)} {i:Nat}:(sG l is i).length≤20000*is.length:=by
 have:=Qa3 h (is.take i);rw [List.length_take] at this;unfold sG;omega
theorem Qib {l:List Mod6} (h:EnvOk l) {x:List UInt8} {E:List Bd} {k:Nat}:(qZ l x E k).length≤E.length+20000:=by
 have h1:=bE (f:=nE x) (c:=1000) (l:=l.take k) fun y hy=>Zjr h (List.mem_of_mem_take hy) x;have h2:=h.len;rw [List.length_take] at h1;unfold qZ;rw [Ze];omega
def pL:Con:=Um (fun (l:Sl Mod6) (_ _:Int)=>EnvOk l.l) (fun l m d=>Sl.mk (Zys l.l m d))
class Khw:Prop
theorem Khw.k (_:Khw) (h:p:=by
 first|(simp only [Ze,Zi,List.length_nil];omega)|exact ⟨j+1,by rw [Zhl];(have Vc:=@vM;exact Qt),by omega,by omega⟩|skip):p:=h
class Khx:Prop
theorem Khx.k (_:Khx) (h:p:=by
 first|exact ⟨k+1,by exact Qt,by omega,by omega⟩|skip):p:=h
class Khv:Prop
theorem Khv.k (_:Khv) (h:p:=by
 refine Zm [11,53,54,55,56,57,58,59,60,61,62,63,64,65,66,67,68,69,70,71,72,73,74,75,76,77,78,79,80,81,82,83,84,85,86,87,88,89,90,91,92,93,94,95,96,97,98,99,100,101] (fun j:Nat=>[(7,.sl 13 ((fG (yn++[33]) yd F j).map (enc:Bd→D)).length),(10,.d (.int .i64 j))]) (fun j:Nat=>[(13,.row 2 ((fG (yn++[33]) yd F j).map enc) 0)]) (fun j:Nat=>j≤yd.length) (fun j:Nat=>yd.length-j) 0 ?_ ?_ ?_
 ·omega
 ·have Vc:=@Zew;exact Qt
 rintro j hj;have Qxj:=Zmj (p:=yn++[33]) (ds:=yd) (E:=F) (j:=j);rcases Zn j yd.length with ⟨Ka,Z7⟩|⟨Ka,Z7⟩
 ·have Z6:=Zp Q6 Ka;have Zhl:=Zex (p:=yn++[33]) (E:=F) Ka;have Qyq:=Qe9 (yd.getD j Q6) (by simp [Ka])
  obtain ⟨Z,hZ⟩:=exq (yd.getD j Q6);rw [hZ] at Z6 Zhl Qyq;obtain ⟨zn,zt,ze⟩:=Z;simp only at Qyq;obtain ⟨G,hG⟩:=exq (fG (yn++[33]) yd F j);rw [hG] at Zhl Qxj ⊢;have Qlc:Qkt (yn++[33]) ⟨zn,zt,ze⟩=⟨yn++[33]++zn,zt⟩:=rfl;rw [Qlc] at Zhl;clear Qe9 fN;have Qj:=@Ad;have Kq:Khw:=⟨⟩;exact Jw
 ·have wZ:j=yd.length:=by omega
  have dN:fG (yn++[33]) yd F j=qZ l x E (k+1):=by rw [Zms,wZ,Qe0]
  rw [dN];clear Qe9 fN;have Qj:=@Ad;have Kq:Khx:=⟨⟩;exact Jw):p:=h
class Khz:Prop
theorem Khz.k (_:Khz) (h:p:=by
 first|exact ⟨k+1,by rw [Zms];exact Qt,by omega,by omega⟩|skip):p:=h
class KhA:Prop
theorem KhA.k (_:KhA) (h:p:=by
 first|exact ⟨k+1,by rw [Zms];exact Qt,by omega,by omega⟩|skip):p:=h
class Khy:Prop
theorem Khy.k (_:Khy) (h:p:=by
 refine Zm [11,53,54,55,56,57,58,59,60,61,62,63,64,65,66,67,68,69,70,71,72,73,74,75,76,77,78,79,80,81,82,83,84,85,86,87,88,89,90,91,92,93,94,95,96,97,98,99,100,101] (fun j:Nat=>[(7,.sl 13 (F.map (enc:Bd→D)).length),(10,.d (.int .i64 0))]) (fun j:Nat=>[(13,.row 2 (F.map enc) 0)]) (fun j:Nat=>True) (fun j:Nat=>0) 0 ?_ ?_ ?_
 ·trivial
 ·exact Qt
 rintro j -;rcases Zn 0 yd.length with ⟨Ka,Z7⟩|⟨Ka,Z7⟩
 ·rw [Int.natCast_zero] at Z7;have Qj:=@Ad;have Kq:Khz:=⟨⟩;exact Jw
 ·rw [Int.natCast_zero] at Z7;have Qj:=@Ad;have Kq:KhA:=⟨⟩;exact Jw):p:=h
class KhB:Prop
theorem KhB.k (_:KhB) (h:p:=by
 first|exact ⟨i+1,by exact Qt,by omega,by omega⟩|skip):p:=h
class Khu:Prop
theorem Khu.k (_:Khu) (h:p:=by
 refine Zm [10,11,47,48,49,50,51,52,53,54,55,56,57,58,59,60,61,62,63,64,65,66,67,68,69,70,71,72,73,74,75,76,77,78,79,80,81,82,83,84,85,86,87,88,89,90,91,92,93,94,95,96,97,98,99,100,101] (fun k:Nat=>[(7,.sl 13 ((qZ l x E k).map (enc:Bd→D)).length),(9,.d (.int .i64 k))]) (fun k:Nat=>[(13,.row 2 ((qZ l x E k).map enc) 0)]) (fun k:Nat=>k≤l.length) (fun k:Nat=>l.length-k) 0 ?_ ?_ ?_
 ·omega
 ·have Vc:=@Qev;exact Qt
 rintro k hk;have Qp4:=Qib hE (x:=x) (E:=E) (k:=k);rcases Zn k l.length with ⟨R9,Jb⟩|⟨R9,Jb⟩
 ·have Z3:=Zp Je R9;have Zms:=Qew (x:=x) (E:=E) R9;have Qit:l.getD k Je∈l:=by simp [R9]
  have X7:=hE.defs _ Qit;have Qfl:=hE.name _ Qit;have Qe9:=hE.dname _ Qit;obtain ⟨Y,hY⟩:=exq (l.getD k Je);rw [hY] at Z3 Zms X7 Qfl Qe9;obtain ⟨yn,yi,yd,ys⟩:=Y;simp only at X7 Qfl Qe9;have Ja1:nE x ⟨yn,yi,yd,ys⟩=if yn=x then yd.map (Qkt (yn++[33])) else []:=rfl
  rw [Ja1] at Zms;obtain ⟨F,hF⟩:=exq (qZ l x E k);rw [hF] at Qp4 Zms ⊢;have Qzz:F.length≤20000*2000+20000:=by omega
  by_cases Qun:yn=x
  ·rw [if_pos Qun] at Zms;have Qq:(yn==x)=true:=by rw [Zj];exact Qun
   have Qj:=@Ad;have Kq:Khv:=⟨⟩;exact Jw
  ·rw [if_neg Qun,List.append_nil] at Zms;have Qq:(yn==x)=false:=by rw [Za];exact Qun
   clear Qe9 fN;have Qj:=@Ad;have Kq:Khy:=⟨⟩;exact Jw
 ·have aK:k=l.length:=by omega
  have dN:qZ l x E k=sG l mi (i+1):=by rw [aK,vB]
  rw [dN];clear fN;have Qj:=@Ad;have Kq:KhB:=⟨⟩;exact Jw):p:=h
class KhD:Prop
theorem KhD.k (_:KhD) (h:p:=by
 first|exact ⟨j+1,by rw [Zhl];(have Vc:=@vM;exact Qt),by omega,by omega⟩|skip):p:=h
class KhC:Prop
theorem KhC.k (_:KhC) (h:p:=by
 refine Zm [102,103,104,105,106,107,108,109,110,111,112,113,114,115,116,117,118,119,120,121,122,123,124,125,126,127,128] (fun j:Nat=>[(7,.sl 13 ((fG [] md E j).map (enc:Bd→D)).length),(12,.d (.int .i64 j))]) (fun j:Nat=>[(13,.row 2 ((fG [] md E j).map enc) 0)]) (fun j:Nat=>j≤d) (fun j:Nat=>d-j) 0 ?_ ?_ ?_
 ·omega
 ·have Vc:=@Zew;exact Qt
 rintro j hj;have Qxj:=Zmj (p:=[]) (ds:=md) (E:=E) (j:=j);rcases Zn j d with ⟨Ka,Z7⟩|⟨Ka,Z7⟩
 ·have Qzg:j<md.length:=by omega
  have Z6:=Zp Q6 Qzg;have Zhl:=Zex (p:=[]) (E:=E) Qzg;obtain ⟨Z,hZ⟩:=exq (md.getD j Q6);rw [hZ] at Z6 Zhl;obtain ⟨zn,zt,ze⟩:=Z;obtain ⟨G,hG⟩:=exq (fG [] md E j);rw [hG] at Zhl Qxj ⊢;have Qlc:Qkt [] ⟨zn,zt,ze⟩=⟨zn,zt⟩:=rfl;rw [Qlc] at Zhl;have Qj:=@Ad;have Kq:KhD:=⟨⟩;exact Jw
 ·have wZ:j=d:=by omega
  rw [wZ] at Z7 ⊢;rw [Qlg];have Qj:=@Ad;exact N6):p:=h
class Kht:Prop
theorem Kht.k (_:Kht) (h:p:=by
 have fN:=hE.iname _ Qtb;rw [hM] at fN;simp only at fN;refine Zm [9,10,11,37,38,39,40,41,42,43,44,45,46,47,48,49,50,51,52,53,54,55,56,57,58,59,60,61,62,63,64,65,66,67,68,69,70,71,72,73,74,75,76,77,78,79,80,81,82,83,84,85,86,87,88,89,90,91,92,93,94,95,96,97,98,99,100,101] (fun i:Nat=>[(7,.sl 13 ((sG l mi i).map (enc:Bd→D)).length),(8,.d (.int .i64 i))]) (fun i:Nat=>[(13,.row 2 ((sG l mi i).map enc) 0)]) (fun i:Nat=>i≤mi.length) (fun i:Nat=>mi.length-i) 0 ?_ ?_ ?_
 ·omega
 ·have Vc:=@Qex;exact Qt
 rintro i hi;have Qp6:=Qic hE (is:=mi) (i:=i);rcases Zn i mi.length with ⟨Zzv,Q3⟩|⟨Zzv,Q3⟩
 ·have Jh:=Zp ([]:List UInt8) Zzv;have vB:=Qey (l:=l) Zzv;obtain ⟨x,hx⟩:=exq (mi.getD i []);rw [hx] at Jh vB;have Jh:el (mi.map enc) i=(.str x:D):=Jh;obtain ⟨E,Qxk⟩:=exq (sG l mi i);rw [Qxk] at vB Qp6 ⊢;have Qj:=@Ad;have Kq:Khu:=⟨⟩;exact Jw
 ·have Zna:i=mi.length:=by omega
  rw [Zna] at Qp6 Q3 ⊢;rw [Qez] at Qp6 ⊢;obtain ⟨E,Qxk⟩:=exq (mi.flatMap (tY l));rw [Qxk] at Qp6 Zq ⊢;have Jb8:E.length≤40000000:=by omega
  have Qlg:fG [] md E d=R:=Zq;clear fN;have Qj:=@Ad;have Kq:KhC:=⟨⟩;exact Jw):p:=h
theorem good_Env9:Qc Tryz.prog (21,pL):=by
 obtain ⟨Kx,Kt,Kc,Kd,Kb,Ku,Kw,K,_⟩:=J7 Zx Zo [] false J5;have Ko:=pL.eq_def;refine J9 K Tryz.func21 [.tmp 6] rfl 130 rfl (fun c hc Ji Zh=>?_);unfold pL at Zh;obtain ⟨⟨l⟩,m,d,rfl,hE⟩:=Vb Zh;simp only at hE;clear Zh;obtain ⟨R,Qo⟩:=exq (Zys l m d);have Zq:=Qo;unfold Zys at Zq;have Q5:=hE.len;cases hc;refine W5 8 ?_;rcases Y3 m 0 with ⟨h1,Qk⟩|⟨h1,Qk⟩
 ·rw [if_pos (.inl h1)] at Zq;subst Zq;have Qj:=@Ad;exact N6
 obtain ⟨m,rfl⟩:∃ n:Nat,m=n:=⟨m.toNat,by omega⟩
 rcases Ou (l.length:Int) (m:Int) with ⟨h2,Qi⟩|⟨h2,Qi⟩
 ·rw [if_pos (.inr (.inl h2))] at Zq;subst Zq;have Qj:=@Ad;exact N6
 rcases Y3 d 0 with ⟨h3,Qn⟩|⟨h3,Qn⟩
 ·rw [if_pos (.inr (.inr (.inl h3)))] at Zq;subst Zq;have Qj:=@Ad;exact N6
 obtain ⟨d,rfl⟩:∃ n:Nat,d=n:=⟨d.toNat,by omega⟩
 have Qpv:m<l.length:=by omega
 have Qp:=Zp Je Qpv;have Yn:l.getD m Je∈l:=by simp [Qpv]
 have Qtb:=Yn;have Ai:=hE.imps _ Yn;have fP:=hE.defs _ Yn;rw [Zl,Zl] at Zq;unfold Qnf at Zq;obtain ⟨M,hM⟩:=exq (l.getD m Je);rw [hM] at Qp Ai fP Zq;obtain ⟨mn,mi,md,ms⟩:=M;simp only at Ai fP Zq;have Qv:((m:Nat):Int).toNat=m:=Zl m;rcases Ou (md.length:Int) (d:Int) with ⟨h4,Ql⟩|⟨h4,Ql⟩
 ·rw [if_pos (.inr (.inr (.inr h4)))] at Zq;subst Zq;have Qj:=@Ad;exact N6
 rw [if_neg (by omega)] at Zq
 have Qj:=@Ad;have Kq:Kht:=⟨⟩;exact Jw
def Qih (l:List Mod6):Prop:=∀ i j,i<j→j<l.length→nm l i≠nm l j
theorem Qc5 {l:List Ge} (hU:Zzf l) (hF:Qe2 l) (hA:¬ Qn0 l) {r:Nat} (hr:r<l.length) :
  ∃ k:Nat,bestN l ((List.range l.length).map (mayB l (Gy l r))) l.length=(k:Int)∧k<l.length∧mayB l (Gy l r) k=true:=by
 have ih:=Zf3 hU hF hA r (by omega)
 have Q5:=Ky l r;obtain ⟨O,hO⟩:=exq (Gy l r);rw [hO] at ih Q5 ⊢;have T0:∃ k:Nat,k<l.length∧(k:Int)∉O:=Classical.byContradiction fun hn=>by
  have:=Zzd l.length O fun k hk=>Classical.byContradiction fun h=>hn ⟨k,hk,h⟩;omega
 obtain ⟨k,hk,Qwo⟩:=T0;have Qwp:nm l k∉O.map fun x=>nm l x.toNat:=fun h=>by
  obtain ⟨y,hy,he⟩:=List.mem_map.1 h;obtain ⟨k',rfl,hk'⟩:=ih y hy;rw [Zl] at he;have:=wB hU hk' hk he;exact Qwo (this▸hy)
 obtain ⟨j,hj,h1,h2⟩:=Zjg hU hF hA (C:=O.map fun x=>nm l x.toNat) _ k hk (Zr _) Qwp;have Qoi:mayB l O j=true:=by
  unfold mayB;rw [Zg,Bool.not_eq_true'];refine ⟨?_,?_⟩
  ·rw [←Bool.not_eq_true,gB];exact fun h=>h1 (List.mem_map.2 ⟨_,h,by rw [Zl]⟩)
  ·unfold aR;rw [Zl,List.all_eq_true];intro s hs;obtain ⟨y,hy,he⟩:=List.mem_map.1 (h2 s hs);obtain ⟨k',rfl,hk'⟩:=ih y hy;rw [Zl] at he;rw [gB,←he,W8,hU k' hk'];exact hy
 rcases iU (l:=l) (is:=(List.range l.length).map (mayB l O)) l.length with ⟨_,Jl⟩|⟨k',h,hk',hm,_⟩
 ·have:=Jl j hj;rw [eC hj,Qoi] at this;cases this
 ·rw [eC hk'] at hm;exact ⟨k',h,hk',hm⟩
theorem gX {l:List Ge}:∀ {r i:Nat},i<r→(Gy l r).getD i 0=bestN l ((List.range l.length).map (mayB l (Gy l i))) l.length
 | r+1,i,h=>by
  rw [Gy,Zd];rcases Nat.lt_or_ge i r with h1|h1
  ·rw [List.getElem?_append_left (by rw [Ky];exact h1),←Zd]
   exact gX h1
  ·have:i=r:=by omega
   subst this;rw [List.getElem?_append_right (by rw [Ky];exact Zr _),Ky,Nat.sub_self]
   rfl
theorem Qgq {l:List Ge} {r:Nat} {x:Int} (h:x∈Gy l r):∃ j,j<r∧(Gy l r).getD j 0=x:=by
 obtain ⟨j,hj,rfl⟩:=List.mem_iff_getElem.1 h;rw [Ky] at hj;exact ⟨j,hj,by rw [Zd,Zk (by rw [Ky];exact hj)];rfl⟩
theorem Zxr {l:List Ge} {r i:Nat} (h:i<r):(Gy l r).getD i 0∈Gy l r:=by
 rw [Zd,Zk (by rw [Ky];exact h)]
 exact List.getElem_mem _
theorem Zjp {l:List Ge} (uF:l.length≤20) (h:(Nm l).2.2=0):Zzf l∧Qe2 l∧¬ Qn0 l∧(Nm l).1.l=Gy l l.length:=by
 cases hu:(List.range l.length).find? (zK l) with
 | some i=>unfold Nm at h;rw [hu] at h;cases h
 | none =>
 cases hf:(List.range l.length).find? (eD l) with
 | some i=>unfold Nm at h;rw [hu] at h;simp only at h;rw [hf] at h;cases h
 | none =>
 cases hc:Xp 0 (bestN l ((List.range l.length).map (sY l)) l.length) with
 | true =>
  unfold Nm at h;rw [hu] at h;simp only at h;rw [hf] at h;simp only at h;rw [hc] at h;cases h
 | false =>
  refine ⟨Zio.1 hu,Zk7.1 hf,fun h=>?_,?_⟩
  ·rw [(Zl2 uF).2 h] at hc;cases hc
  ·unfold Nm;rw [hu];simp only;rw [hf];simp only;rw [hc];rfl
def Qij (l:List Mod6):Prop:=∀ m,m<l.length→∀ s∈imp l m,∃ k,k<m∧nm l k=s
theorem Qgp {l:List Mod6} {O:List Int} {i k:Nat} (hi:i<O.length) (h:O.getD i 0=(k:Int)):(M0 l O).getD i m0=l.getD k m0:=by
 unfold M0;rw [Zd,List.getElem?_map,Zk hi];rw [Zd,Zk hi] at h;simp only [Option.getD_some] at h;simp only [Option.map_some,Option.getD_some];rw [h,Zl];rfl
theorem Zjo {l:List Mod6} (hU:Zzf l) (hF:Qe2 l) (hA:¬ Qn0 l):Qih (M0 l (Gy l l.length))∧Qij (M0 l (Gy l l.length)):=by
 have Q5:(M0 l (Gy l l.length)).length=l.length:=by unfold M0;rw [Zf,Ky]
 have Iu:∀ i,i<l.length→∃ k:Nat,(Gy l l.length).getD i 0=k∧k<l.length∧mayB l (Gy l i) k=true∧(M0 l (Gy l l.length)).getD i m0=l.getD k m0:=fun i hi=>by
  obtain ⟨k,h1,h2,h3⟩:=Qc5 hU hF hA hi;rw [←gX hi] at h1;exact ⟨k,h1,h2,h3,Qgp (by rw [Ky];exact hi) h1⟩
 have Yn:∀ i j,j<i→i≤l.length→∃ k:Nat,(Gy l l.length).getD j 0=k∧(k:Int)∈Gy l i:=fun i j hj hi=>by
  obtain ⟨k,h1,h2,_⟩:=Iu j (by omega)
  refine ⟨k,h1,?_⟩;rw [←h1,gX (show j<l.length by omega),←gX hj]
  exact Zxr hj
 refine ⟨fun i j fO hj he=>?_,fun m hm s hs=>?_⟩
 ·rw [Q5] at hj;obtain ⟨a,a1,a2,_,a4⟩:=Iu i (by omega)
  obtain ⟨b,b1,b2,b3,b4⟩:=Iu j hj;unfold nm at he;rw [a4,b4] at he;have e:=wB hU a2 b2 he;subst e;obtain ⟨k,k1,k2⟩:=Yn j i fO (by omega)
  rw [a1] at k1;have:a=k:=by omega
  subst this;unfold mayB at b3;rw [gB.2 k2] at b3;cases b3
 ·rw [Q5] at hm;obtain ⟨b,b1,b2,b3,b4⟩:=Iu m hm;unfold imp at hs;rw [b4] at hs;unfold mayB at b3;rw [Zg] at b3;have h:=b3.2;unfold aR at h;rw [Zl,List.all_eq_true] at h;have h:=h s hs;rw [gB] at h;obtain ⟨j,hj,he⟩:=Qgq h;obtain ⟨a,a1,a2,_,a4⟩:=Iu j (by omega)
  refine ⟨j,hj,?_⟩;unfold nm;rw [a4];have hz:W8 l s=a:=by
   rw [←he,gX hj,←gX (show j<l.length by omega),a1]
  unfold W8 at hz;cases hr:Un l s with
  | none=>rw [hr] at hz;simp only at hz;omega
  | some q =>
   rw [hr] at hz;simp only at hz;have:q=a:=by omega
   subst this;exact zZ hr
theorem xK {t:Tx9} (h:(Wq t).2=true):Qih (Wq t).1∧Qij (Wq t).1:=by
 have hG:=aU t;have uF:=hG.few.1;unfold Wq at h ⊢;split at h
 ·cases h
 rename_i hr;rw [if_neg hr];have he:(Nm (Aq t).1).2.2=0:=by simpa using h
 obtain ⟨h1,h2,h3,h4⟩:=Zjp uF he;show Qih (M0 _ _)∧Qij (M0 _ _);rw [h4];exact Zjo h1 h2 h3
theorem Qg8 {l:List Mod6} (uF:l.length≤20) (hG:∀ m∈l,Good9 m):EnvOk l :=
 ⟨uF,fun m hm=>by have:=(hG m hm).name;omega,fun m hm=>(hG m hm).short,fun m hm d hd=>((hG m hm).fit d hd).name,fun m hm=>by have:=(hG m hm).ilen;omega,fun m hm=>by have:=(hG m hm).dlen;omega⟩
end Go.Am.Ty
