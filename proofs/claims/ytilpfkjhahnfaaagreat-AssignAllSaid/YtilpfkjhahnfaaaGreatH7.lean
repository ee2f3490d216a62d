/- Contracts of functions that the law reaches, and plain laws. Conditions: those that each contract states. -/
import Derived.Test.YtilpfkjhahnfaaaGreatH6
set_option maxHeartbeats 4000000
set_option linter.unusedVariables false
set_option linter.unusedSimpArgs false
variable {p:Prop}
set_option maxRecDepth 100000
namespace Go.Am.Ty
open Go.Proofs
open Enc (enc dec)
def wH:List Part→List Int→Bool
 | [],_=>true
 | n::l,rs=>if 100≤rs.length then false else wH l (Og (Vo n) rs)
def fR (t:List Part):Bool:=wH t []
def Qcb (rs:List Int):Prop:=(∀ x∈rs,0≤x∧x≤60)∧∀ x∈rs.tail,1≤x
def Cb:Con:=J7 (fun (t:Sl Part)=>oK t.l) (fun t=>fR t.l)
structure Kcz:Prop
theorem Kcz.k (_:Kcz) (h:p:=by
 repeat' first|exact Z8|with_reducible apply Zb|intro _
 simp only [Zu0] at g4;exact ⟨(k+1,[]),by exact Qw,by simp only;omega,by simp,by simp,by simp only;rw [←h4,e1,g4],by simp only;omega⟩):p:=h
structure KcA:Prop
theorem KcA.k (_:KcA) (h:p:=by
 repeat' first|exact Z8|with_reducible apply Zb|intro _
 exact ⟨[],by exact Qw,⟨by simp,by simp⟩,by simp,by rw [←g4];rfl,by simp⟩):p:=h
structure KcB:Prop
theorem KcB.k (_:KcB) (h:p:=by
 repeat' first|exact Z8|with_reducible apply Zb|intro _
 refine ⟨(y-1)::r,by exact Qw,⟨fun z Z9=>?_,fun z Z9=>g2 z (List.mem_cons_of_mem _ Z9)⟩,by simp only [Zi];omega,by rw [←g4];simp only [Zu0,Og,if_true],by simp only [Zi];omega⟩
 rcases Zs.1 Z9 with rfl|Z9
 ·omega
 ·exact g1 z (List.mem_cons_of_mem _ (List.mem_cons_of_mem _ Z9))):p:=h
structure KcC:Prop
theorem KcC.k (_:KcC) (h:p:=by
 repeat' first|exact Z8|with_reducible apply Zb|intro _
 have e3:Og M rs=x::r:=by rw [←g4];exact bJ hx0
 refine ⟨(k+1,x::r),by exact Qw,by simp only;omega,by simp only [Zi];omega,fun z Z9=>?_,by simp only;rw [←h4,e1,e3],by simp only;omega⟩
 rcases Zs.1 Z9 with rfl|Z9
 ·omega
 ·exact ⟨g2 z Z9,(g1 z (List.mem_cons_of_mem _ Z9)).2⟩):p:=h
structure Kcy:Prop
theorem Kcy.k (_:Kcy) (h:p:=by
 revert e1 hmk;generalize Vo (t.getD k e0)=M;intro hmk e1;repeat' first|exact Z8|with_reducible apply Zb|intro _
 ·rw [if_pos (by omega)] at e1
  rw [←h4,e1]
 ·rw [if_neg (by omega)] at e1
  have e2:rs.reverse++[M]=(M::rs).reverse:=by simp
  have hS:∀ (q:List Int),q≠[]→((q.length:Nat):Int)-1=((q.length-1:Nat):Int):=by
   intro q hq;have:=List.length_pos_iff.2 hq;omega
  refine Zm [23,24,25,26,27,28,29,30,31,32,33,34,35,36,37,38,39,40,41,42,43,44,45,46,47,48,49,50] (fun q:List Int=>[(3,.sl 5 (q.reverse.map enc).length),(5,.dead),(12,.dead),(15,.dead),(22,.dead)]) (fun q:List Int=>[(5,.row 1 (q.reverse.map enc) 0)]) (fun q:List Int=>Qcb q∧q.length≤101∧Zu0 q=Og M rs) (fun q:List Int=>q.length) (M::rs) ?_ ?_ ?_
  ·refine ⟨⟨fun x hx=>?_,fun x hx=>(h3 x hx).1⟩,by simp only [Zi];omega,rfl⟩
   rcases Zs.1 hx with rfl|hx
   ·exact hmk
   ·have:=h3 x hx;omega
  ·exact Qw
  rintro q ⟨⟨g1,g2⟩,g3,g4⟩;cases q with
  | nil =>
   have Z9:X4 0 ((0:Nat):Int)=false:=rfl;have Zx:=@List.length_reverse.{0};have Zw:=@List.reverse_nil.{0};have Zz:=@Qg;have Zy:=@Qm;have Qd:=@Qo;have Z1:=@Qp;have Z0:=@Sx;have Kq:Kcz:=⟨⟩;exact U6
  | cons x r =>
   have Z9:X4 0 ((r.length+1:Nat):Int)=true:=by rw [Jf];omega
   have Qe:((r.length+1:Nat):Int)-1=(r.length:Int):=by omega
   have hx1:=g1 x (by simp)
   have Qc:el (List.map enc (x::r).reverse) r.length=.int .i64 x:=gJ;have Qh:List.take r.length (List.map (enc:Int→D) (x::r).reverse)=List.map enc r.reverse:=Zmi;simp only [Zi] at g3;by_cases hx0:x=0
   ·subst hx0;cases r with
    | nil =>
     have Qn:X4 0 ((0:Nat):Int)=false:=rfl;simp only [List.length_nil] at Z9 Qe Qc Qh;have Zx:=@List.length_reverse.{0};have Zw:=@List.reverse_nil.{0};have Zz:=@Qg;have Zy:=@Qm;have Qd:=@Qo;have Z1:=@Qp;have Z0:=@Sx;have Kq:KcA:=⟨⟩;exact U6
    | cons y r =>
     have hy1:=g2 y (by simp)
     have hy2:=g1 y (by simp)
     have Q6:X4 0 ((r.length+1:Nat):Int)=true:=by rw [Jf];omega
     have Je:((r.length+1:Nat):Int)-1=(r.length:Int):=by omega
     have Q4:el (List.map enc (y::r).reverse) r.length=.int .i64 y:=gJ;simp only [Zi] at Z9 Qe Qc Qh g3;have Zx:=@List.length_reverse.{0};have Zw:=@Qg;have Zz:=@Qm;have Zy:=@Qo;have Qd:=@Qp;have Z1:=@Sx;have Kq:KcB:=⟨⟩;exact U6
   ·have Zu:(x==(0:Int))=false:=by simpa using hx0
    have Zx:=@List.length_reverse.{0};have Zw:=@Qg;have Zz:=@Qm;have Zy:=@Qo;have Qd:=@Qp;have Z1:=@Sx;have Kq:KcC:=⟨⟩;exact U6):p:=h
structure KcD:Prop
theorem KcD.k (_:KcD) (h:p:=by
 rw [←h4,List.drop_eq_nil_of_le hlt];rfl):p:=h
structure Kcx:Prop
theorem Kcx.k (_:Kcx) (h:p:=by
 refine Zm [2,6,7,8,9,10,11,12,13,14,15,16,17,18,19,20,21,22,23,24,25,26,27,28,29,30,31,32,33,34,35,36,37,38,39,40,41,42,43,44,45,46,47,48,49,50] (fun p:Nat×List Int=>[(3,.sl 5 (p.2.reverse.map enc).length),(4,.d (.int .i64 p.1)),(5,.dead)]) (fun p:Nat×List Int=>[(5,.row 1 (p.2.reverse.map enc) 0)]) (fun p:Nat×List Int=>p.1≤t.length∧p.2.length≤101∧(∀ x∈p.2,1≤x∧x≤60)∧wH (t.drop p.1) p.2=fR t) (fun p:Nat×List Int=>t.length-p.1) (0,[]) ?_ ?_ ?_
 ·exact ⟨Nat.zero_le _,by simp,by simp,rfl⟩
 ·exact Qw
 rintro ⟨k,rs⟩ ⟨h1,h2,h3,h4⟩;simp only at h1 h2 h3 h4;rcases Zo k t.length with ⟨hlt,Qb⟩|⟨hlt,Qb⟩
 ·have hmk3:=(hm (t.getD k e0) (by simp [hlt])).2.2
  have hmk:0≤Vo (t.getD k e0)∧Vo (t.getD k e0)≤60:=⟨(hm (t.getD k e0) (by simp [hlt])).1,(hm (t.getD k e0) (by simp [hlt])).2.1⟩
  have e1:wH (t.drop k) rs=if 100≤rs.length then false else wH (t.drop (k+1)) (Og (Vo (t.getD k e0)) rs):=by
   rw [List.drop_eq_getElem_cons hlt,wH];simp [hlt]
  have Qf:=Zr (e0:Part) hlt;have Zx:=@List.length_reverse.{0};have Zw:=@Qg;have Zz:=@Qm;have Zy:=@Qo;have Qd:=@Qp;have Z1:=@Sx;have Kq:Kcy:=⟨⟩;exact U6
 ·have Zx:=@Qg;have Zw:=@Qm;have Zz:=@Qo;have Zy:=@Qp;have Qd:=@Sx;have Kq:KcD:=⟨⟩;exact U6):p:=h
theorem good_shallow5:Qa Tryz.prog (151,Cb):=by
 obtain ⟨Kx,Kt,Kc,Kd,Kb,Ku,Kw,K,X9,_⟩:=Xe Zv Zn [39] false (Q0 good_Many5 Sd.eq_def Xd);have Ko:=Cb.eq_def;refine Xj K Tryz.func151 [.tmp 2] rfl 51 rfl (fun c hc cvs hpre=>?_);unfold Cb at hpre;obtain ⟨⟨t⟩,rfl,⟨ht,hm⟩⟩:=Q2 hpre;simp only at ht hm;cases hc;refine Y4 3 ?_;have Zx:=@Qg;have Zw:=@Qm;have Zz:=@Qo;have Zy:=@Qp;have Qd:=@Sx;have Kq:Kcx:=⟨⟩;exact U6
def J4 (t:List Part) (l:List Int) (k:Nat):Part:=t.getD (l.getD k 0).toNat e0
def Zzk (t:List Part) (l:List Int) (x:Part) (k:Nat):Bool:=(List.range k).any fun j=>!(x.label==[])&&((J4 t l j).label==x.label)
def Qcq (p x:Part) (br:Bool):Bool:=((x.kind==8)==br)&&!((br&&!N8 x.label)||(((p.kind==10)&&!Wg x.label)||((!br&&!(p.kind==10))&&!(x.label==[]))))
def eT (t:List Part) (p:Part) (l:List Int) (k:Nat):Bool:=Qcq p (J4 t l k) ((p.kind==7)&&X4 0 k)&&!Zzk t l (J4 t l k) k
def Znp (t:List Part) (i:Nat):Bool:=(((S5 t i).length:Int)==Vo (t.getD i e0))&&(List.range (S5 t i).length).all fun k=>eT t (t.getD i e0) (S5 t i) k
theorem iQ (t:List Part):∀ (m q:Nat),∀ x∈X1 t m q,(q:Int)≤x∧x<t.length
 | 0,q,x,hx=>by simp [X1] at hx
 | m+1,q,x,hx=>by
  unfold X1 at hx;split at hx
  ·rcases Zs.1 hx with rfl|hx
   ·omega
   ·have:=iQ t m _ x hx;omega
  ·cases hx
theorem Zy1 {t:List Part} {i:Nat}:∀ x∈S5 t i,(i:Int)<x∧x<t.length:=by
 intro x hx;unfold S5 at hx;split at hx
 ·cases hx
 ·have:=iQ t _ _ x hx;omega
theorem dM (t:List Part):∀ (m q:Nat),(X1 t m q).length≤m
 | 0,q=>by simp [X1]
 | m+1,q=>by
  unfold X1;split
  ·simp only [Zi];have:=dM t m (q+Oi (t.drop q) 1);omega
  ·simp
def Qgm (t:List Part):Prop:=∀ n∈t,n.label.length≤9223372036854775807
theorem C9 {p:Nat→Bool} {l:List Nat} (h:∀ m∈l,p m=false):l.any p=false:=by
 rw [List.any_eq_false];intro x hx;rw [h x hx];simp
def Sn:Con:=Xc (fun (t:Sl Part) (i:Int)=>oK t.l∧Qgm t.l∧0≤i∧i<t.l.length) (fun t i=>Znp t.l i.toNat)
theorem Zp6 {p:Prop} (h:p:=by (sym=>simp [Kt,Kc,Kd,Kb,Ku,Kw,Ko,X9,Uv,Po,Cx,Oj,kK,oB,Zbx,Zlp,Zlo,Ok,Qb,Qf,Z9,Qe,Qc,Qh,Qn,Q6,Je,Q4,Zu,Zx,Zw,Zz,Zy,Qd,Z1,Z0,Qi,Qk,Qs,Q8,Q5,Qy,Jh,Jg,Wb,Wn,Wx,W0,Wz,Gb,Ga,H3,H2,Hq,Hp,M4,M3,Nm,M0,Mz,Nz,My,Mx,Mw,D.setCell.eq_1,Zj,Y5,Ju,Jt,Wq,Ub,Wp,Xm,Js,J2,Z7,Qo,J1,Ye,Z2,Qg,Z6,Y3,Fn,Yb,Z5,Qm,Xb,Wh,Kj,rC,Z4,Qp,Nu,Sx,Ud,Zll,Zlk,Zlj,Zli,Zlh,Zlg,Zlf,Zle,Zld,Zlc,Zlb,Zla,Zk9,Zk8,Zk7,Zk6,Zk5,Zk4,Zk3,Zk2,Zk1,Zk0,Zkz,Zky,Zkx,Zkw,Zkv,Zku,Zkt,Zks,Zkr,Zkq,Zkp,Zko,Zkn,Zkm,Zkl,Zkk,Zkj,Zki,Zkh,Zkg,Zkf,Zke,Zkd,Zkc,Zkb,Zka,Zj9,Zj8,Zj7,Zj6,Zj5,Zj4,Zj3,Zj2,Zj1,Zj0,Zjz,Zjy,Zjx,Zjw,Zjv,Zju,Zjt,Zjs,Zjr,Zjq,Zjp,Zjo,Zjn,Zjm,Zjl,Zjk,Zjj,Zji,Zjh,Zjg,Zjf,Zje,Zjd,Zjc,Zjb,Zja,Zi9,Zi8,Zi7,Zi6,Zi5,Zi4,Zi3,Zi2,Zi1,Zi0,Ziz,Ziy,Zix,Ziw,Ziv,Ziu,Zit,Zis,Zir,Ziq,Zip,Zio,Zin,Zim,Zil,Zik,Zij,Zii,Zih,Zig,Zif,Zie,Zid,Zic,Zib,Zia,Zh9,Zh8,Zh7,Zh6,Zh5,Zh4,Zh3,Zh2,Zh1,Zh0,Zhz,Zhy,Zhx,Zhw,Zhv,Zhu,Zht,Zhs,Zhr,Zhq,Zhp,Zho,Zhn,Zhm,Zhl,Zhk,Zhj,Zhi,Zhh,Zhg,Zhf,Zhe,Zhd,Zhc,Zhb,Zha,Zg9,Zg8,Zg7,Zg6,Zg5,Zg4,Zg3,Zg2,Zg1,Zg0,Zgz,Zgy,Zgx,Zgw,Zgv,Zgu,Zgt,Zgs,Zgr,Zgq,Zgp,Zgo,Zgn,Zgm,Zgl,Zgk,Zgj,Zgi,Zgh,Zgg,Zgf,Zge,Zgd,Zgc,Zgb,Zga,Zf9,Zf8,Zf7,Zf6,Zf5,Zf4,Zf3,Zf2,Zf1,Zf0,Zfz,Zfy,Zfx,Zfw,Zfv,Zfu,Zft,Zfs,Zfr,Zfq,Zfp,Zfo,Zfn,Zfm,Zfl,Zfk,Zfj,Zfi,Zfh,Zfg,Zff,Zfe,Zfd,Zfc,Zfb,Zfa,Ze9,Ze8,Ze7,Ze6,Ze5,Ze4,Ze3,Ze2,Ze1,Ze0,Zez,Zey,Zex,Zew,Zev,Zeu,Zet,Zes,Zer,Zeq,Zep,Zeo,Zen,Zem,Zel,Zek,Zej,Zei,Zeh,Zeg,Zef,Zee,Zed,Zec,Zeb,Zea,Zd9,Zd8,Zd7,Zd6,Zd5,Zd4,Zd3,Zd2,Zd1,Zd0,Zdz,Zdy,Zdx,Zdw,Zdv,Zdu,Zdt,Zds,Zdr,Zdq,Zdp,Zdo,Zdn,Zdm,Zdl,Zdk,Zdj,Zdi,Zdh,Zdg,Zdf,Zde,Zdd,Zdc,Zdb,Zda,Zc9,Zc8,Zc7,Zc6,Zc5,Zc4,Zc3,Zc2,Zc1,Zc0,Zcz,Zcy,Zcx,Zcw,Zcv,Zcu,Zct,Zcs,Zcr,Zcq,Zcp,Zco,Zcn,Zcm,Zcl,Zck,Zcj,Zci,Zch,Zcg,Zcf,Zce,Zcd,Zcc,Zcb,Zca,Zb9,Zb8,Zb7,Zb6,Zb5,Zb4,Zb3,Zb2,Zb1,Zb0,Zbz,Zby,Of,Oe,Od,Oc,Ob,Oa,Le,Ld,Lb,La,B9,B8,B7,B6,B5,B4,B3,B1,B0,Bz,Bx,Bw,Bv,Bu,Bt,Bs,Br,Bq,Bp,Bo,Bn,Bm,Bl,Hn,Hm,Hl,Hk,Hj,Hi,Hh,Hg,Hf,He,Hd,Hc,Hb,Ha,G9,G8,G7,G6,G5,G4,G3,Gz,Gy,Gx,Gw,Gv,Gu,Gt,Gq,Gp,Gn])):p:=h
theorem Y6 {p:Prop} (h:p:=by
 (sym=>simp [Kt,Kc,Kd,Kb,Ku,Kw,Ko,X9,Uv,Po,Cx,Oj,kK,oB,Zbx,Zlp,Zlo,Ok,Qb,Qf,Z9,Qe,Qc,Qh,Qn,Q6,Je,Q4,Zu,Zx,Zw,Zz,Zy,Qd,Z1,Z0,Qi,Qk,Qs,Q8,Q5,Qy,Jh,Jg,Wb,Wn,Wx,W0,Wz,Gb,Ga,H3,H2,Hq,Hp,M4,M3,Nm,M0,Mz,Nz,My,Mx,Mw,D.setCell.eq_1,Zj,Y5,Ju,Jt,Wq,Ub,Wp,Xm,Js,J2,Z7,Qo,J1,Ye,Z2,Qg,Z6,Y3,Fn,Yb,Z5,Qm,Xb,Wh,Kj,rC,Z4,Qp,Nu,Sx,Ud,Zll,Zlk,Zlj,Zli,Zlh,Zlg,Zlf,Zle,Zld,Zlc,Zlb,Zla,Zk9,Zk8,Zk7,Zk6,Zk5,Zk4,Zk3,Zk2,Zk1,Zk0,Zkz,Zky,Zkx,Zkw,Zkv,Zku,Zkt,Zks,Zkr,Zkq,Zkp,Zko,Zkn,Zkm,Zkl,Zkk,Zkj,Zki,Zkh,Zkg,Zkf,Zke,Zkd,Zkc,Zkb,Zka,Zj9,Zj8,Zj7,Zj6,Zj5,Zj4,Zj3,Zj2,Zj1,Zj0,Zjz,Zjy,Zjx,Zjw,Zjv,Zju,Zjt,Zjs,Zjr,Zjq,Zjp,Zjo,Zjn,Zjm,Zjl,Zjk,Zjj,Zji,Zjh,Zjg,Zjf,Zje,Zjd,Zjc,Zjb,Zja,Zi9,Zi8,Zi7,Zi6,Zi5,Zi4,Zi3,Zi2,Zi1,Zi0,Ziz,Ziy,Zix,Ziw,Ziv,Ziu,Zit,Zis,Zir,Ziq,Zip,Zio,Zin,Zim,Zil,Zik,Zij,Zii,Zih,Zig,Zif,Zie,Zid,Zic,Zib,Zia,Zh9,Zh8,Zh7,Zh6,Zh5,Zh4,Zh3,Zh2,Zh1,Zh0,Zhz,Zhy,Zhx,Zhw,Zhv,Zhu,Zht,Zhs,Zhr,Zhq,Zhp,Zho,Zhn,Zhm,Zhl,Zhk,Zhj,Zhi,Zhh,Zhg,Zhf,Zhe,Zhd,Zhc,Zhb,Zha,Zg9,Zg8,Zg7,Zg6,Zg5,Zg4,Zg3,Zg2,Zg1,Zg0,Zgz,Zgy,Zgx,Zgw,Zgv,Zgu,Zgt,Zgs,Zgr,Zgq,Zgp,Zgo,Zgn,Zgm,Zgl,Zgk,Zgj,Zgi,Zgh,Zgg,Zgf,Zge,Zgd,Zgc,Zgb,Zga,Zf9,Zf8,Zf7,Zf6,Zf5,Zf4,Zf3,Zf2,Zf1,Zf0,Zfz,Zfy,Zfx,Zfw,Zfv,Zfu,Zft,Zfs,Zfr,Zfq,Zfp,Zfo,Zfn,Zfm,Zfl,Zfk,Zfj,Zfi,Zfh,Zfg,Zff,Zfe,Zfd,Zfc,Zfb,Zfa,Ze9,Ze8,Ze7,Ze6,Ze5,Ze4,Ze3,Ze2,Ze1,Ze0,Zez,Zey,Zex,Zew,Zev,Zeu,Zet,Zes,Zer,Zeq,Zep,Zeo,Zen,Zem,Zel,Zek,Zej,Zei,Zeh,Zeg,Zef,Zee,Zed,Zec,Zeb,Zea,Zd9,Zd8,Zd7,Zd6,Zd5,Zd4,Zd3,Zd2,Zd1,Zd0,Zdz,Zdy,Zdx,Zdw,Zdv,Zdu,Zdt,Zds,Zdr,Zdq,Zdp,Zdo,Zdn,Zdm,Zdl,Zdk,Zdj,Zdi,Zdh,Zdg,Zdf,Zde,Zdd,Zdc,Zdb,Zda,Zc9,Zc8,Zc7,Zc6,Zc5,Zc4,Zc3,Zc2,Zc1,Zc0,Zcz,Zcy,Zcx,Zcw,Zcv,Zcu,Zct,Zcs,Zcr,Zcq,Zcp,Zco,Zcn,Zcm,Zcl,Zck,Zcj,Zci,Zch,Zcg,Zcf,Zce,Zcd,Zcc,Zcb,Zca,Zb9,Zb8,Zb7,Zb6,Zb5,Zb4,Zb3,Zb2,Zb1,Zb0,Zbz,Zby,Of,Oe,Od,Oc,Ob,Oa,Le,Ld,Lb,La,B9,B8,B7,B6,B5,B4,B3,B1,B0,Bz,Bx,Bw,Bv,Bu,Bt,Bs,Br,Bq,Bp,Bo,Bn,Bm,Bl,Hn,Hm,Hl,Hk,Hj,Hi,Hh,Hg,Hf,He,Hd,Hc,Hb,Ha,G9,G8,G7,G6,G5,G4,G3,Gz,Gy,Gx,Gw,Gv,Gu,Gt,Gq,Gp,Gn];tactic =>
   try simp only [I4] at *
   try simp only [Zw8] at *
   try simp (maxSteps:=4000000) only [Qb,Qf,Z9,Qe,Qc,Qh,Qn,Q6,Je,Q4,Zu,Zx,Zw,Zz,Zy,Qd,Z1,Z0,Qi,Qk,Qs,Q8,Q5,Qy,Jh,Jg,Wb,Wn,Wx,W0,Wz,Gb,Ga,H3,H2,Hq,Hp,M4,M3,Nm,M0,Mz,Nz,My,Mx,Mw,D.setCell.eq_1,Zj,Y5,Ju,Jt,Wq,Ub,Wp,Xm,Js,J2,Z7,Qo,J1,Ye,Z2,Qg,Z6,Y3,Fn,Yb,Z5,Qm,Xb,Wh,Kj,rC,Z4,Qp,Nu,Sx,Ud,oC]
   first|done|exact Kq.k)):p:=h
theorem N9 {p:Prop} (h:p:=by
 first|(sym=>simp [Kt,Kc,Kd,Kb,Ku,Kw,Ko,X9,Uv,Po,Cx,Oj,kK,oB,Zbx,Zlp,Zlo,Ok,Qb,Qf,Z9,Qe,Qc,Qh,Qn,Q6,Je,Q4,Zu,Zx,Zw,Zz,Zy,Qd,Z1,Z0,Qi,Qk,Qs,Q8,Q5,Qy,Jh,Jg,Wb,Wn,Wx,W0,Wz,Gb,Ga,H3,H2,Hq,Hp,M4,M3,Nm,M0,Mz,Nz,My,Mx,Mw,D.setCell.eq_1,Zj,Y5,Ju,Jt,Wq,Ub,Wp,Xm,Js,J2,Z7,Qo,J1,Ye,Z2,Qg,Z6,Y3,Fn,Yb,Z5,Qm,Xb,Wh,Kj,rC,Z4,Qp,Nu,Sx,Ud,Zll,Zlk,Zlj,Zli,Zlh,Zlg,Zlf,Zle,Zld,Zlc,Zlb,Zla,Zk9,Zk8,Zk7,Zk6,Zk5,Zk4,Zk3,Zk2,Zk1,Zk0,Zkz,Zky,Zkx,Zkw,Zkv,Zku,Zkt,Zks,Zkr,Zkq,Zkp,Zko,Zkn,Zkm,Zkl,Zkk,Zkj,Zki,Zkh,Zkg,Zkf,Zke,Zkd,Zkc,Zkb,Zka,Zj9,Zj8,Zj7,Zj6,Zj5,Zj4,Zj3,Zj2,Zj1,Zj0,Zjz,Zjy,Zjx,Zjw,Zjv,Zju,Zjt,Zjs,Zjr,Zjq,Zjp,Zjo,Zjn,Zjm,Zjl,Zjk,Zjj,Zji,Zjh,Zjg,Zjf,Zje,Zjd,Zjc,Zjb,Zja,Zi9,Zi8,Zi7,Zi6,Zi5,Zi4,Zi3,Zi2,Zi1,Zi0,Ziz,Ziy,Zix,Ziw,Ziv,Ziu,Zit,Zis,Zir,Ziq,Zip,Zio,Zin,Zim,Zil,Zik,Zij,Zii,Zih,Zig,Zif,Zie,Zid,Zic,Zib,Zia,Zh9,Zh8,Zh7,Zh6,Zh5,Zh4,Zh3,Zh2,Zh1,Zh0,Zhz,Zhy,Zhx,Zhw,Zhv,Zhu,Zht,Zhs,Zhr,Zhq,Zhp,Zho,Zhn,Zhm,Zhl,Zhk,Zhj,Zhi,Zhh,Zhg,Zhf,Zhe,Zhd,Zhc,Zhb,Zha,Zg9,Zg8,Zg7,Zg6,Zg5,Zg4,Zg3,Zg2,Zg1,Zg0,Zgz,Zgy,Zgx,Zgw,Zgv,Zgu,Zgt,Zgs,Zgr,Zgq,Zgp,Zgo,Zgn,Zgm,Zgl,Zgk,Zgj,Zgi,Zgh,Zgg,Zgf,Zge,Zgd,Zgc,Zgb,Zga,Zf9,Zf8,Zf7,Zf6,Zf5,Zf4,Zf3,Zf2,Zf1,Zf0,Zfz,Zfy,Zfx,Zfw,Zfv,Zfu,Zft,Zfs,Zfr,Zfq,Zfp,Zfo,Zfn,Zfm,Zfl,Zfk,Zfj,Zfi,Zfh,Zfg,Zff,Zfe,Zfd,Zfc,Zfb,Zfa,Ze9,Ze8,Ze7,Ze6,Ze5,Ze4,Ze3,Ze2,Ze1,Ze0,Zez,Zey,Zex,Zew,Zev,Zeu,Zet,Zes,Zer,Zeq,Zep,Zeo,Zen,Zem,Zel,Zek,Zej,Zei,Zeh,Zeg,Zef,Zee,Zed,Zec,Zeb,Zea,Zd9,Zd8,Zd7,Zd6,Zd5,Zd4,Zd3,Zd2,Zd1,Zd0,Zdz,Zdy,Zdx,Zdw,Zdv,Zdu,Zdt,Zds,Zdr,Zdq,Zdp,Zdo,Zdn,Zdm,Zdl,Zdk,Zdj,Zdi,Zdh,Zdg,Zdf,Zde,Zdd,Zdc,Zdb,Zda,Zc9,Zc8,Zc7,Zc6,Zc5,Zc4,Zc3,Zc2,Zc1,Zc0,Zcz,Zcy,Zcx,Zcw,Zcv,Zcu,Zct,Zcs,Zcr,Zcq,Zcp,Zco,Zcn,Zcm,Zcl,Zck,Zcj,Zci,Zch,Zcg,Zcf,Zce,Zcd,Zcc,Zcb,Zca,Zb9,Zb8,Zb7,Zb6,Zb5,Zb4,Zb3,Zb2,Zb1,Zb0,Zbz,Zby,Of,Oe,Od,Oc,Ob,Oa,Le,Ld,Lb,La,B9,B8,B7,B6,B5,B4,B3,B1,B0,Bz,Bx,Bw,Bv,Bu,Bt,Bs,Br,Bq,Bp,Bo,Bn,Bm,Bl,Hn,Hm,Hl,Hk,Hj,Hi,Hh,Hg,Hf,He,Hd,Hc,Hb,Ha,G9,G8,G7,G6,G5,G4,G3,Gz,Gy,Gx,Gw,Gv,Gu,Gt,Gq,Gp,Gn];tactic =>
   try simp only [I4] at *
   try simp only [Zw8] at *
   try simp (maxSteps:=4000000) only [Qb,Qf,Z9,Qe,Qc,Qh,Qn,Q6,Je,Q4,Zu,Zx,Zw,Zz,Zy,Qd,Z1,Z0,Qi,Qk,Qs,Q8,Q5,Qy,Jh,Jg,Wb,Wn,Wx,W0,Wz,Gb,Ga,H3,H2,Hq,Hp,M4,M3,Nm,M0,Mz,Nz,My,Mx,Mw,D.setCell.eq_1,Zj,Y5,Ju,Jt,Wq,Ub,Wp,Xm,Js,J2,Z7,Qo,J1,Ye,Z2,Qg,Z6,Y3,Fn,Yb,Z5,Qm,Xb,Wh,Kj,rC,Z4,Qp,Nu,Sx,Ud,oC]
   repeat' first|with_reducible assumption|with_reducible apply Zb|intro _|omega|(rw [Xr];omega)
   all_goals first|with_reducible exact Jd|omega|rfl|trivial|exact Or.inr trivial|assumption|contradiction|exact Qw)|exact Zp6):p:=h
structure KcF:Prop
theorem KcF.k (_:KcF) (h:p:=by
 repeat' first|exact Z8|with_reducible apply Zb|intro _
 all_goals first|with_reducible exact Jd|omega|assumption|trivial|rfl|(exfalso;clear hE hno Qe hR2 hin hT hN Qf Qh Qn K hki hkt;simp_all;done)|(exfalso;clear hno Qe hR2 hin hT hN Qf Qh Qn K hki hkt;simp_all;done)|skip):p:=h
structure KcH:Prop
theorem KcH.k (_:KcH) (h:p:=by
 repeat' first|exact Z8|with_reducible apply Zb|intro _
 all_goals first|with_reducible exact Jd|omega|exact ⟨j+1,by exact Qw,by omega,by omega⟩|skip):p:=h
structure KcI:Prop
theorem KcI.k (_:KcI) (h:p:=by
 repeat' first|exact Z8|with_reducible apply Zb|intro _
 all_goals first|with_reducible exact Jd|omega|exact ⟨k+1,by exact Qw,by omega,Eq.mpr hQ hs,by omega⟩|skip):p:=h
structure KcG:Prop
theorem KcG.k (_:KcG) (h:p:=by
 repeat' first|exact Z8|with_reducible apply Zb|intro _
 all_goals first|with_reducible exact Jd|omega|assumption|skip
 refine Zm [4,85,86,87,88,89,90,91,92,93,94,95,96,97,98,99,100,101,102,103,104,105] (fun j:Nat=>[(10,.d (.int .i64 j))]) (fun j:Nat=>[]) (fun j:Nat=>j≤k∧∀ m,m<j→(!true&&((J4 t l m).label==x.label))=false) (fun j:Nat=>k-j) 0 ?_ ?_ ?_
 ·simp
 ·exact Qw
 rintro j ⟨hj,hnj⟩;rcases Zo j k with ⟨hjl,Zy⟩|⟨hjl,Zy⟩
 ·have hsj:(!true&&((J4 t l j).label==x.label))=false→∀ m,m<j+1→(!true&&((J4 t l m).label==x.label))=false:=fun h=>K6 hnj h;have hbj:(!true&&((J4 t l j).label==x.label))=true→R=false:=fun h=>hbad (by rw [List.any_eq_true];exact ⟨j,List.mem_range.2 hjl,h⟩)
  have hjlt:j<l.length:=by omega
  have hji:=hin (l.getD j 0) (by simp [hjlt])
  have hjt:(l.getD j 0).toNat<t.length:=by omega
  have Qd:=Zr (0:Int) hjlt;have Z1:=Zr e0 hjt
  change el _ _=enc (J4 t l j) at Z1
  obtain ⟨u,hu⟩:=exq (l.getD j 0);rw [hu] at Qd Z1 hji hjt;obtain ⟨u,rfl⟩:∃ n:Nat,u=n:=⟨u.toNat,by omega⟩
  rw [Zj] at Z1 hjt;obtain ⟨y,hy⟩:=exq (J4 t l j);rw [hy] at Z1 hsj hbj;obtain ⟨ee,Z0⟩:=exq ((y.label==x.label));rw [Z0] at hsj hbj;have Kq:KcH:=⟨⟩;exact Y6
 ·have hs:=hyes (C9 fun m hm=>hnj m (by have:=List.mem_range.1 hm;omega))
  have Kq:KcI:=⟨⟩;exact Y6):p:=h
structure KcK:Prop
theorem KcK.k (_:KcK) (h:p:=by
 repeat' first|exact Z8|with_reducible apply Zb|intro _
 all_goals first|with_reducible exact Jd|omega|exact ⟨j+1,by exact Qw,by omega,fun m hm=>by simpa using h2 m hm,by omega⟩|skip):p:=h
structure KcL:Prop
theorem KcL.k (_:KcL) (h:p:=by
 repeat' first|exact Z8|with_reducible apply Zb|intro _
 all_goals first|with_reducible exact Jd|omega|exact ⟨k+1,by exact Qw,by omega,Eq.mpr hQ hs,by omega⟩|skip):p:=h
structure KcJ:Prop
theorem KcJ.k (_:KcJ) (h:p:=by
 repeat' first|exact Z8|with_reducible apply Zb|intro _
 all_goals first|with_reducible exact Jd|omega|assumption|skip
 refine Zm [4,85,86,87,88,89,90,91,92,93,94,95,96,97,98,99,100,101,102,103,104,105] (fun j:Nat=>[(10,.d (.int .i64 j))]) (fun j:Nat=>[]) (fun j:Nat=>j≤k∧∀ m,m<j→(!false&&((J4 t l m).label==x.label))=false) (fun j:Nat=>k-j) 0 ?_ ?_ ?_
 ·simp
 ·exact Qw
 rintro j ⟨hj,hnj⟩;rcases Zo j k with ⟨hjl,Zy⟩|⟨hjl,Zy⟩
 ·have hsj:(!false&&((J4 t l j).label==x.label))=false→∀ m,m<j+1→(!false&&((J4 t l m).label==x.label))=false:=fun h=>K6 hnj h;have hbj:(!false&&((J4 t l j).label==x.label))=true→R=false:=fun h=>hbad (by rw [List.any_eq_true];exact ⟨j,List.mem_range.2 hjl,h⟩)
  have hjlt:j<l.length:=by omega
  have hji:=hin (l.getD j 0) (by simp [hjlt])
  have hjt:(l.getD j 0).toNat<t.length:=by omega
  have Qd:=Zr (0:Int) hjlt;have Z1:=Zr e0 hjt
  change el _ _=enc (J4 t l j) at Z1
  obtain ⟨u,hu⟩:=exq (l.getD j 0);rw [hu] at Qd Z1 hji hjt;obtain ⟨u,rfl⟩:∃ n:Nat,u=n:=⟨u.toNat,by omega⟩
  rw [Zj] at Z1 hjt;obtain ⟨y,hy⟩:=exq (J4 t l j);rw [hy] at Z1 hsj hbj;obtain ⟨ee,Z0⟩:=exq ((y.label==x.label));rw [Z0] at hsj hbj;cases ee with
  | true =>
   have hr:=hbj rfl;subst hr;exact N9
  | false =>
   have h2:=hsj rfl;have Kq:KcK:=⟨⟩;exact Y6
 ·have hs:=hyes (C9 fun m hm=>hnj m (by have:=List.mem_range.1 hm;omega))
  have Kq:KcL:=⟨⟩;exact Y6):p:=h
structure KcN:Prop
theorem KcN.k (_:KcN) (h:p:=by
 repeat' first|exact Z8|with_reducible apply Zb|intro _
 all_goals first|with_reducible exact Jd|omega|exact ⟨j+1,by exact Qw,by omega,by omega⟩|skip):p:=h
structure KcO:Prop
theorem KcO.k (_:KcO) (h:p:=by
 repeat' first|exact Z8|with_reducible apply Zb|intro _
 all_goals first|with_reducible exact Jd|omega|exact ⟨k+1,by exact Qw,by omega,Eq.mpr hQ hs,by omega⟩|skip):p:=h
structure KcM:Prop
theorem KcM.k (_:KcM) (h:p:=by
 repeat' first|exact Z8|with_reducible apply Zb|intro _
 all_goals first|with_reducible exact Jd|omega|assumption|skip
 refine Zm [4,85,86,87,88,89,90,91,92,93,94,95,96,97,98,99,100,101,102,103,104,105] (fun j:Nat=>[(10,.d (.int .i64 j))]) (fun j:Nat=>[]) (fun j:Nat=>j≤k∧∀ m,m<j→(!true&&((J4 t l m).label==x.label))=false) (fun j:Nat=>k-j) 0 ?_ ?_ ?_
 ·simp
 ·exact Qw
 rintro j ⟨hj,hnj⟩;rcases Zo j k with ⟨hjl,Zy⟩|⟨hjl,Zy⟩
 ·have hsj:(!true&&((J4 t l j).label==x.label))=false→∀ m,m<j+1→(!true&&((J4 t l m).label==x.label))=false:=fun h=>K6 hnj h;have hbj:(!true&&((J4 t l j).label==x.label))=true→R=false:=fun h=>hbad (by rw [List.any_eq_true];exact ⟨j,List.mem_range.2 hjl,h⟩)
  have hjlt:j<l.length:=by omega
  have hji:=hin (l.getD j 0) (by simp [hjlt])
  have hjt:(l.getD j 0).toNat<t.length:=by omega
  have Qd:=Zr (0:Int) hjlt;have Z1:=Zr e0 hjt
  change el _ _=enc (J4 t l j) at Z1
  obtain ⟨u,hu⟩:=exq (l.getD j 0);rw [hu] at Qd Z1 hji hjt;obtain ⟨u,rfl⟩:∃ n:Nat,u=n:=⟨u.toNat,by omega⟩
  rw [Zj] at Z1 hjt;obtain ⟨y,hy⟩:=exq (J4 t l j);rw [hy] at Z1 hsj hbj;obtain ⟨ee,Z0⟩:=exq ((y.label==x.label));rw [Z0] at hsj hbj;have Kq:KcN:=⟨⟩;exact Y6
 ·have hs:=hyes (C9 fun m hm=>hnj m (by have:=List.mem_range.1 hm;omega))
  have Kq:KcO:=⟨⟩;exact Y6):p:=h
structure KcQ:Prop
theorem KcQ.k (_:KcQ) (h:p:=by
 repeat' first|exact Z8|with_reducible apply Zb|intro _
 all_goals first|with_reducible exact Jd|omega|exact ⟨j+1,by exact Qw,by omega,fun m hm=>by simpa using h2 m hm,by omega⟩|skip):p:=h
structure KcR:Prop
theorem KcR.k (_:KcR) (h:p:=by
 repeat' first|exact Z8|with_reducible apply Zb|intro _
 all_goals first|with_reducible exact Jd|omega|exact ⟨k+1,by exact Qw,by omega,Eq.mpr hQ hs,by omega⟩|skip):p:=h
structure KcP:Prop
theorem KcP.k (_:KcP) (h:p:=by
 repeat' first|exact Z8|with_reducible apply Zb|intro _
 all_goals first|with_reducible exact Jd|omega|assumption|skip
 refine Zm [4,85,86,87,88,89,90,91,92,93,94,95,96,97,98,99,100,101,102,103,104,105] (fun j:Nat=>[(10,.d (.int .i64 j))]) (fun j:Nat=>[]) (fun j:Nat=>j≤k∧∀ m,m<j→(!false&&((J4 t l m).label==x.label))=false) (fun j:Nat=>k-j) 0 ?_ ?_ ?_
 ·simp
 ·exact Qw
 rintro j ⟨hj,hnj⟩;rcases Zo j k with ⟨hjl,Zy⟩|⟨hjl,Zy⟩
 ·have hsj:(!false&&((J4 t l j).label==x.label))=false→∀ m,m<j+1→(!false&&((J4 t l m).label==x.label))=false:=fun h=>K6 hnj h;have hbj:(!false&&((J4 t l j).label==x.label))=true→R=false:=fun h=>hbad (by rw [List.any_eq_true];exact ⟨j,List.mem_range.2 hjl,h⟩)
  have hjlt:j<l.length:=by omega
  have hji:=hin (l.getD j 0) (by simp [hjlt])
  have hjt:(l.getD j 0).toNat<t.length:=by omega
  have Qd:=Zr (0:Int) hjlt;have Z1:=Zr e0 hjt
  change el _ _=enc (J4 t l j) at Z1
  obtain ⟨u,hu⟩:=exq (l.getD j 0);rw [hu] at Qd Z1 hji hjt;obtain ⟨u,rfl⟩:∃ n:Nat,u=n:=⟨u.toNat,by omega⟩
  rw [Zj] at Z1 hjt;obtain ⟨y,hy⟩:=exq (J4 t l j);rw [hy] at Z1 hsj hbj;obtain ⟨ee,Z0⟩:=exq ((y.label==x.label));rw [Z0] at hsj hbj;cases ee with
  | true =>
   have hr:=hbj rfl;subst hr;exact N9
  | false =>
   have h2:=hsj rfl;have Kq:KcQ:=⟨⟩;exact Y6
 ·have hs:=hyes (C9 fun m hm=>hnj m (by have:=List.mem_range.1 hm;omega))
  have Kq:KcR:=⟨⟩;exact Y6):p:=h
structure KcT:Prop
theorem KcT.k (_:KcT) (h:p:=by
 repeat' first|exact Z8|with_reducible apply Zb|intro _
 all_goals first|with_reducible exact Jd|omega|exact ⟨j+1,by exact Qw,by omega,by omega⟩|skip):p:=h
structure KcU:Prop
theorem KcU.k (_:KcU) (h:p:=by
 repeat' first|exact Z8|with_reducible apply Zb|intro _
 all_goals first|with_reducible exact Jd|omega|exact ⟨k+1,by exact Qw,by omega,Eq.mpr hQ hs,by omega⟩|skip):p:=h
structure KcS:Prop
theorem KcS.k (_:KcS) (h:p:=by
 repeat' first|exact Z8|with_reducible apply Zb|intro _
 all_goals first|with_reducible exact Jd|omega|assumption|skip
 refine Zm [4,85,86,87,88,89,90,91,92,93,94,95,96,97,98,99,100,101,102,103,104,105] (fun j:Nat=>[(10,.d (.int .i64 j))]) (fun j:Nat=>[]) (fun j:Nat=>j≤k∧∀ m,m<j→(!true&&((J4 t l m).label==x.label))=false) (fun j:Nat=>k-j) 0 ?_ ?_ ?_
 ·simp
 ·exact Qw
 rintro j ⟨hj,hnj⟩;rcases Zo j k with ⟨hjl,Zy⟩|⟨hjl,Zy⟩
 ·have hsj:(!true&&((J4 t l j).label==x.label))=false→∀ m,m<j+1→(!true&&((J4 t l m).label==x.label))=false:=fun h=>K6 hnj h;have hbj:(!true&&((J4 t l j).label==x.label))=true→R=false:=fun h=>hbad (by rw [List.any_eq_true];exact ⟨j,List.mem_range.2 hjl,h⟩)
  have hjlt:j<l.length:=by omega
  have hji:=hin (l.getD j 0) (by simp [hjlt])
  have hjt:(l.getD j 0).toNat<t.length:=by omega
  have Qd:=Zr (0:Int) hjlt;have Z1:=Zr e0 hjt
  change el _ _=enc (J4 t l j) at Z1
  obtain ⟨u,hu⟩:=exq (l.getD j 0);rw [hu] at Qd Z1 hji hjt;obtain ⟨u,rfl⟩:∃ n:Nat,u=n:=⟨u.toNat,by omega⟩
  rw [Zj] at Z1 hjt;obtain ⟨y,hy⟩:=exq (J4 t l j);rw [hy] at Z1 hsj hbj;obtain ⟨ee,Z0⟩:=exq ((y.label==x.label));rw [Z0] at hsj hbj;have Kq:KcT:=⟨⟩;exact Y6
 ·have hs:=hyes (C9 fun m hm=>hnj m (by have:=List.mem_range.1 hm;omega))
  have Kq:KcU:=⟨⟩;exact Y6):p:=h
structure KcW:Prop
theorem KcW.k (_:KcW) (h:p:=by
 repeat' first|exact Z8|with_reducible apply Zb|intro _
 all_goals first|with_reducible exact Jd|omega|exact ⟨j+1,by exact Qw,by omega,by omega⟩|skip):p:=h
structure KcX:Prop
theorem KcX.k (_:KcX) (h:p:=by
 repeat' first|exact Z8|with_reducible apply Zb|intro _
 all_goals first|with_reducible exact Jd|omega|exact ⟨k+1,by exact Qw,by omega,Eq.mpr hQ hs,by omega⟩|skip):p:=h
structure KcV:Prop
theorem KcV.k (_:KcV) (h:p:=by
 repeat' first|exact Z8|with_reducible apply Zb|intro _
 all_goals first|with_reducible exact Jd|omega|assumption|skip
 refine Zm [4,85,86,87,88,89,90,91,92,93,94,95,96,97,98,99,100,101,102,103,104,105] (fun j:Nat=>[(10,.d (.int .i64 j))]) (fun j:Nat=>[]) (fun j:Nat=>j≤k∧∀ m,m<j→(!true&&((J4 t l m).label==x.label))=false) (fun j:Nat=>k-j) 0 ?_ ?_ ?_
 ·simp
 ·exact Qw
 rintro j ⟨hj,hnj⟩;rcases Zo j k with ⟨hjl,Zy⟩|⟨hjl,Zy⟩
 ·have hsj:(!true&&((J4 t l j).label==x.label))=false→∀ m,m<j+1→(!true&&((J4 t l m).label==x.label))=false:=fun h=>K6 hnj h;have hbj:(!true&&((J4 t l j).label==x.label))=true→R=false:=fun h=>hbad (by rw [List.any_eq_true];exact ⟨j,List.mem_range.2 hjl,h⟩)
  have hjlt:j<l.length:=by omega
  have hji:=hin (l.getD j 0) (by simp [hjlt])
  have hjt:(l.getD j 0).toNat<t.length:=by omega
  have Qd:=Zr (0:Int) hjlt;have Z1:=Zr e0 hjt
  change el _ _=enc (J4 t l j) at Z1
  obtain ⟨u,hu⟩:=exq (l.getD j 0);rw [hu] at Qd Z1 hji hjt;obtain ⟨u,rfl⟩:∃ n:Nat,u=n:=⟨u.toNat,by omega⟩
  rw [Zj] at Z1 hjt;obtain ⟨y,hy⟩:=exq (J4 t l j);rw [hy] at Z1 hsj hbj;obtain ⟨ee,Z0⟩:=exq ((y.label==x.label));rw [Z0] at hsj hbj;have Kq:KcW:=⟨⟩;exact Y6
 ·have hs:=hyes (C9 fun m hm=>hnj m (by have:=List.mem_range.1 hm;omega))
  have Kq:KcX:=⟨⟩;exact Y6):p:=h
structure KcE:Prop
theorem KcE.k (_:KcE) (h:p:=by
 repeat' first|exact Z8|with_reducible apply Zb|intro _
 all_goals try assumption
 refine Zm [4,7,8,9,10,22,23,24,25,26,27,28,29,30,31,32,33,34,35,36,37,38,39,40,41,42,43,44,45,46,47,48,49,50,51,52,53,54,55,56,57,58,59,60,61,62,63,64,65,66,67,68,69,70,71,72,73,74,75,76,77,78,79,80,81,82,83,84,85,86,87,88,89,90,91,92,93,94,95,96,97,98,99,100,101,102,103,104,105] (fun k:Nat=>[(6,.d (.int .i64 k))]) (fun k:Nat=>[]) (fun k:Nat=>k≤l.length∧∀ j,j<k→eT t p l j=true) (fun k:Nat=>l.length-k) 0 ?_ ?_ ?_
 ·simp
 ·exact Qw
 rintro k ⟨hk,hno⟩;rcases Zo k l.length with ⟨hlt,Qc⟩|⟨hlt,Qc⟩
 ·have hki:=hin (l.getD k 0) (by simp [hlt])
  have hkt:(l.getD k 0).toNat<t.length:=by omega
  have hkn:(J4 t l k).label.length≤9223372036854775807:=hN (J4 t l k) (by
   show t.getD _ e0∈t;rw [Zd,Zh hkt];exact List.getElem_mem hkt)
  have hyes:eT t p l k=true→∀ j,j<k+1→eT t p l j=true:=fun h=>K6 hno h;have hbad:eT t p l k=false→R=false:=by
   intro h;rw [←hR2,Bool.eq_false_iff];intro hc;rw [List.all_eq_true] at hc;have:=hc k (List.mem_range.2 hlt);rw [h] at this;cases this
  obtain ⟨Q,hQ⟩:=exq ((∀ j,j<k+1→eT t p l j=true));rw [hQ] at hyes;unfold eT at hyes hbad;have Qh:=Zr (0:Int) hlt;have Qn:=Zr e0 hkt
  change el _ _=enc (J4 t l k) at Qn
  obtain ⟨v,hv⟩:=exq (l.getD k 0);rw [hv] at Qh Qn hki hkt;obtain ⟨v,rfl⟩:∃ n:Nat,v=n:=⟨v.toNat,by omega⟩
  rw [Zj] at Qn hkt;obtain ⟨x,hx⟩:=exq (J4 t l k);rw [hx] at hkn hyes hbad Qn;unfold Qcq at hyes hbad;obtain ⟨kb,Q6⟩:=exq (X4 0 (k:Int));rw [Q6] at hyes hbad;obtain ⟨a7,Je⟩:=exq ((p.kind==7));obtain ⟨a10,Q4⟩:=exq ((p.kind==10));obtain ⟨a8,Zu⟩:=exq ((x.kind==8));obtain ⟨tg,Zx⟩:=exq (N8 x.label);obtain ⟨w,Zw⟩:=exq (Wg x.label);obtain ⟨le,Zz⟩:=exq ((x.label==[]));rw [Je,Q4,Zu,Zx,Zw,Zz] at hyes hbad;have hE:a7=true→a10=false:=fun e=>by rw [←Je,Zk] at e;rw [←Q4,e];rfl
  cases hA:((a8==(a7&&kb))&&!(((a7&&kb)&&!tg)||((a10&&!w)||((!(a7&&kb)&&!a10)&&!le)))) with
  | false =>
   have hr:=hbad (by rw [hA,Bool.false_and])
   subst hr;clear hbad hyes;have Kq:KcF:=⟨⟩;exact Y6
  | true =>
   rw [hA,Bool.true_and,Bool.not_eq_true'] at hyes;rw [hA,Bool.true_and,Bool.not_eq_false'] at hbad;unfold Zzk at hyes hbad;rw [Zz] at hyes hbad;have hpath:(a7=true∧kb=true∧a10=false∧a8=true∧tg=true)∨(a7=false∧a10=true∧a8=false∧w=true)∨(a7=false∧a10=false∧a8=false∧le=true)∨(a7=true∧kb=false∧a10=false∧a8=false∧le=true):=by
    clear hbad hyes hno Qe hR2 hin hT hN Qf Qh Qn Je Q4 Zu Zx Zw Zz Q6;revert hA hE;cases a7<;>cases kb<;>cases a10<;>cases a8<;>cases tg<;>cases w<;>cases le<;>simp
   clear hA hE;rcases hpath with ⟨rfl,rfl,rfl,rfl,rfl⟩|⟨rfl,rfl,rfl,rfl⟩|⟨rfl,rfl,rfl,rfl⟩|⟨rfl,rfl,rfl,rfl,rfl⟩
   ·cases le with
    | true =>
     have Kq:KcG:=⟨⟩;exact Y6
    | false =>
     have Kq:KcJ:=⟨⟩;exact Y6
   ·cases le with
    | true =>
     have Kq:KcM:=⟨⟩;exact Y6
    | false =>
     have Kq:KcP:=⟨⟩;exact Y6
   ·have Kq:KcS:=⟨⟩;exact Y6
   ·have Kq:KcV:=⟨⟩;exact Y6
 ·have hr:R=true:=by
   rw [←hR2,List.all_eq_true];intro j hj;exact hno j (by have:=List.mem_range.1 hj;omega)
  subst hr;exact Zp6):p:=h
theorem good_labelled5:Qa Tryz.prog (152,Sn):=by
 obtain ⟨Kx,Kt,Kc,Kd,Kb,Ku,Kw,K,X9,Uv,Po,Cx,_⟩:=Xe Zv Zn [] false (Q0 good_Kids5 Rp.eq_def (Q0 good_Many5 Sd.eq_def (Q0 good_IsTag1 pO (Q0 good_IsWord1 Eg Xd))));have Ko:=Sn.eq_def;refine Xj K Tryz.func152 [.tmp 4] rfl 106 rfl (fun c hc cvs hpre=>?_);unfold Sn at hpre;obtain ⟨⟨t⟩,i,rfl,hT,hN,hi0,hi1⟩:=Ql hpre;simp only at hT hN hi0 hi1;clear hpre;obtain ⟨i,rfl⟩:∃ n:Nat,i=n:=⟨i.toNat,by omega⟩
 have hil:i<t.length:=by omega
 have hlen:=hT.1;obtain ⟨R,Qe⟩:=exq (Znp t i);have hR2:=Qe;unfold Znp at hR2;obtain ⟨l,Qb⟩:=exq (S5 t i);have hin:∀ x∈l,(i:Int)<x∧x<t.length:=by rw [←Qb];exact Zy1
 have Qf:=Zr e0 hil;have hpi:=hT.2 (t.getD i e0) (by simp [hil])
 have hll:l.length≤100000:=by
  rw [←Qb];unfold S5;split
  ·simp
  ·have h1:=dM t (Vo (t.getD (Int.toNat i) e0)).toNat ((Int.toNat i)+1);have h2:=hpi.2.1;simp only [Zj] at h1 ⊢;omega
 rw [Qb] at hR2;obtain ⟨p,hp⟩:=exq (t.getD i e0);rw [hp] at hR2 Qf hpi;have hpm:=hpi.2.2;cases hmm:((l.length:Int)==Vo p) with
 | false =>
  rw [hmm,Bool.false_and] at hR2;subst hR2;have Z9:((l.length:Int) != Vo p)=true:=by rw [bne,hmm];rfl
  cases hc;refine Y4 6 ?_;exact N9
 | true =>
 rw [hmm,Bool.true_and] at hR2;have Z9:((l.length:Int) != Vo p)=false:=by rw [bne,hmm];rfl
 cases hc;refine Y4 6 ?_;have Kq:KcE:=⟨⟩;exact Y6
theorem Zps {p:Part} {w tg b t u li na op:Bool} (h:Xh p w tg b t u li na op=true):p.many≤50∧(p.kind=7→1≤p.many)∧(p.kind=10→0≤p.many):=by
 unfold Xh at h;by_cases h0:p.kind≠0∧p.kind≠14∧p.num≠0
 ·rw [if_pos h0] at h;cases h
 rw [if_neg h0] at h;by_cases h1:p.kind=0
 ·rw [if_pos h1] at h;simp only [Zg,Zk] at h;omega
 rw [if_neg h1] at h;by_cases h2:p.kind=1
 ·rw [if_pos h2] at h;simp only [Zg,Zk] at h;omega
 rw [if_neg h2] at h;by_cases h3:p.kind=2∨p.kind=4
 ·rw [if_pos h3] at h;simp only [Zg,Zk] at h;omega
 rw [if_neg h3] at h;by_cases h4:p.kind=3∨p.kind=6
 ·rw [if_pos h4] at h;simp only [Zg,Zk] at h;omega
 rw [if_neg h4] at h;by_cases h5:p.kind=5
 ·rw [if_pos h5] at h;simp only [Zg,Zk] at h;omega
 rw [if_neg h5] at h;by_cases h6:p.kind=7
 ·rw [if_pos h6] at h;simp only [Zg,Zk,Qx] at h;omega
 rw [if_neg h6] at h;by_cases h7:p.kind=8
 ·rw [if_pos h7] at h;simp only [Zg,Zk] at h;omega
 rw [if_neg h7] at h;by_cases h8:p.kind=9
 ·rw [if_pos h8] at h;simp only [Zg,Zk] at h;omega
 rw [if_neg h8] at h;by_cases h9:p.kind=10
 ·rw [if_pos h9] at h;simp only [Zg,Zk,Qx] at h;omega
 rw [if_neg h9] at h;by_cases ha:p.kind=11
 ·rw [if_pos ha] at h;simp only [Zg,Zk] at h;omega
 rw [if_neg ha] at h;by_cases hb:p.kind=12
 ·rw [if_pos hb] at h;simp only [Zg,Zk] at h;omega
 rw [if_neg hb] at h;by_cases hc:p.kind=13
 ·rw [if_pos hc] at h;simp only [Zg,Zk] at h;omega
 rw [if_neg hc] at h;by_cases hd:p.kind=14
 ·rw [if_pos hd] at h;simp only [Zg,Zk] at h;omega
 rw [if_neg hd] at h;cases h
theorem Zud {n:Part} (h:Eh n=true):n.many≤50∧(n.kind=7→1≤n.many)∧(n.kind=10→0≤n.many):=by
 unfold Eh at h;exact Zps h
theorem wD {n:Part} (h:Eh n=true):0≤Vo n∧Vo n≤60∧n.many≤1000000:=by
 obtain ⟨h1,h2,h3⟩:=Zud h;have hm:Znd n.many 0=if n.many<0 then 0 else n.many:=rfl
 unfold Vo;rw [hm];refine ⟨?_,?_,by omega⟩
 ·repeat' (split;first|omega|skip)
  all_goals omega
 ·repeat' (split;first|omega|skip)
  all_goals omega
def Mg (t:List Part):Bool:=t.length==0||X4 10000 t.length||!((t.getD 0 e0).label==[])||(t.getD 0 e0).kind==8
def Uw (t:List Part):Bool:=!Mg t&&(t.all Eh&&((jX t 0==(t.length:Int)&&fR t)&&(List.range t.length).all fun i=>Znp t i))
def Qd0 (p:Part):Prop:=Qd1 p∧p.name.length≤9223372036854775806
def Ii:Con:=J7 (fun (t:Sl Part)=>t.l.length≤9223372036854775807∧∀ p∈t.l,Qd0 p) (fun t=>Uw t.l)
structure KcY:Prop
theorem KcY.k (_:KcY) (h:p:=by
 unfold Uw Mg;simp [h0]):p:=h
structure Kda:Prop
theorem Kda.k (_:Kda) (h:p:=by
 repeat' first|exact Z8|with_reducible apply Zb|intro _
 ·rename_i hb;rw [hr,Cw (p:=Eh) e0 k hlt hb];rfl
 ·rename_i hb;refine ⟨k+1,by exact Qw,by omega,fun j hj=>?_,by omega⟩
  by_cases hjk:j=k
  ·subst hjk;exact hb
  ·exact hno j (by omega)):p:=h
structure Kdc:Prop
theorem Kdc.k (_:Kdc) (h:p:=by
 repeat' first|exact Z8|with_reducible apply Zb|intro _
 ·rename_i hb;rw [hr2,Gi k hlt2 hb]
 ·rename_i hb;refine ⟨k+1,by exact Qw,by omega,fun j hj=>?_,by omega⟩
  by_cases hjk:j=k
  ·subst hjk;exact hb
  ·exact hno2 j (by omega)):p:=h
structure Kdd:Prop
theorem Kdd.k (_:Kdd) (h:p:=by
 rw [hr2,Uo fun j hj=>hno2 j (by omega)]):p:=h
structure Kdb:Prop
theorem Kdb.k (_:Kdb) (h:p:=by
 repeat' first|exact Z8|with_reducible apply Zb|intro _
 ·rename_i he hs;rw [hr,hs];simp
 ·rename_i he hs;have hr2:Uw t=(List.range t.length).all fun i=>Znp t i:=by
   rw [hr,hs,show (jX t 0==(t.length:Int))=true by simpa using he]
   rfl
  refine Zm [2,49,50,51,52,53,54,55,56,57,58] (fun k:Nat=>[(4,.d (.int .i64 k))]) (fun k:Nat=>[]) (fun k:Nat=>k≤t.length∧∀ j,j<k→Znp t j=true) (fun k:Nat=>t.length-k) 0 ?_ ?_ ?_
  ·simp
  ·exact Qw
  rintro k ⟨hk2,hno2⟩;rcases Zo k t.length with ⟨hlt2,Qc⟩|⟨hlt2,Qc⟩
  ·have Kq:Kdc:=⟨⟩;exact Y6
  ·have Kq:Kdd:=⟨⟩;exact Y6
 ·rename_i he;rw [hr,show (jX t 0==(t.length:Int))=false by simpa using he]
  rfl):p:=h
structure KcZ:Prop
theorem KcZ.k (_:KcZ) (h:p:=by
 repeat' first|exact Z8|with_reducible apply Zb|intro _
 ·rename_i h1 h2 h9;exact heb (by unfold Mg;rw [show ((t.getD 0 e0).kind==8)=true by rw [Zk];exact h9];simp only [Bool.or_true])
 ·rename_i h1 h3 h9;have hle:t.length≤10000:=by omega
  have hnb:Mg t=false:=by
   unfold Mg;simp only [Bool.or_eq_false_iff,Qv,Za];refine ⟨⟨⟨by omega,by omega⟩,?_⟩,h9⟩
   simpa using h3
  have hr:Uw t=(t.all Eh&&((jX t 0==(t.length:Int)&&fR t)&&(List.range t.length).all fun i=>Znp t i)):=by
   unfold Uw;rw [hnb];rfl
  refine Zm [2,27,28,29,30,31,32,33,34,35,36,37,38] (fun k:Nat=>[(3,.d (.int .i64 k))]) (fun k:Nat=>[]) (fun k:Nat=>k≤t.length∧∀ j,j<k→Eh (t.getD j e0)=true) (fun k:Nat=>t.length-k) 0 ?_ ?_ ?_
  ·simp
  ·exact Qw
  rintro k ⟨hk,hno⟩;rcases Zo k t.length with ⟨hlt,Z9⟩|⟨hlt,Z9⟩
  ·obtain ⟨hf1,hf2⟩:=hN (t.getD k e0) (by simp [hlt])
   have Qe:=Zr e0 hlt;have Kq:Kda:=⟨⟩;exact Y6
  ·have hall:t.all Eh=true:=N6 (p:=Eh) e0 fun j hj=>hno j (by omega)
   have hT:oK t:=⟨by omega,fun n hn=>wD (List.all_eq_true.1 hall n hn)⟩
   have hL:Qgm t:=fun n hn=>(hN n hn).1.2.2.1;rw [hall,Bool.true_and] at hr;have Kq:Kdb:=⟨⟩;exact Y6
 ·rename_i h1 h3;exact heb (by unfold Mg;rw [show ((t.getD 0 e0).label==[])=false by rw [Za];exact h3];simp only [Bool.not_false,Bool.or_true,Bool.true_or])
 ·rename_i h1;exact heb (by unfold Mg;rw [show X4 10000 (t.length:Int)=true by rw [Jf];exact h1];simp only [Bool.or_true,Bool.true_or])):p:=h
theorem good_Right5:Qa Tryz.prog (105,Ii):=by
 obtain ⟨Kx,Kt,Kc,Kd,Kb,Ku,Kw,K,X9,Uv,Po,Cx,_⟩:=Xe Zv Zn [] false (Q0 good_End5 aG.eq_def (Q0 good_uses5 bT.eq_def (Q0 good_shallow5 Cb.eq_def (Q0 good_labelled5 Sn.eq_def Xd))));have Ko:=Ii.eq_def;refine Xj K Tryz.func105 [.tmp 2] rfl 59 rfl (fun c hc cvs hpre=>?_);unfold Ii at hpre;obtain ⟨⟨t⟩,rfl,ht,hN⟩:=Q2 hpre;simp only at ht hN;cases hc;refine Y4 3 ?_;by_cases h0:t.length=0
 ·have Qb:((t.length:Int)==0)=true:=by simp [h0]
  have Kq:KcY:=⟨⟩;exact Y6
 have Qb:((t.length:Int)==0)=false:=by rw [Za];omega
 have hlt0:0<t.length:=by omega
 have heb:Mg t=true→false=Uw t:=by
  intro h;unfold Uw;rw [h];rfl
 have Qf:=Zr e0 hlt0;have Kq:KcZ:=⟨⟩;exact Y6
def rK (n:Part):Part:=⟨n.kind,n.label,n.name,n.bind,n.many,n.num,n.t.map lA,n.u.map lA⟩
def Zzd (x y:Part):Bool:=(x.kind==y.kind)&&((x.label==y.label)&&((x.name==y.name)&&((x.bind==y.bind)&&((x.many==y.many)&&(x.num==y.num)))))
def Lm (x y:Part):Bool:=Zzd x y&&(fS x.t y.t&&fS x.u y.u)
theorem qD {x y:Part}:Lm x y=true↔rK x=rK y:=by
 cases x;cases y;unfold Lm Zzd rK fS;simp [and_assoc]
def qE (a b:List Part):Bool:=a.map rK==b.map rK
def Qac (n:Part):Prop:=n.t.length≤9223372036854775807∧n.u.length≤9223372036854775807
def Qcd (a:List Part):Prop:=a.length≤9223372036854775807∧∀ n∈a,Qac n
theorem wE {p:Nat→Prop} {k:Nat} (h:∀ j,j<k→p j) (hk:p k):∀ j,j<k+1→p j:=fun j hj=>by
 rcases Nat.lt_or_ge j k with h1|h1
 ·exact h j h1
 ·have:j=k:=by omega
  exact this▸hk
structure Ch where
 site:Int
 t:List Node
 deriving DecidableEq
instance encCh:Enc Ch:=⟨fun a=>.agg [.int .i64 a.site,.list 3 (a.t.map enc)],fun x=>match x with
 | .agg [a,b]=>⟨a.i,b.l.map dec⟩
 | _=>⟨0,[]⟩,fun a=>by
  have h:∀ l:List Node,(l.map (enc:Node→D)).map dec=l:=fun l=>Jq;cases a;simp [D.l,D.i,h]⟩
instance szCh:Sz Ch:=⟨2⟩
theorem eC:Sz.sz Ch=2:=rfl
theorem Kf {n:Ch}:(enc n:D)=.agg [.int .i64 n.site,.list 3 (n.t.map enc)]:=rfl
def c0:Ch:=⟨0,[]⟩
abbrev ty (l:List Ch) (k:Nat):List Node:=(l.getD k c0).t
abbrev si (l:List Ch) (k:Nat):Int:=(l.getD k c0).site
def Zpn (l:List Ch):Prop:=l.length≤9223372036854775807∧∀ c∈l,c.t.length≤9223372036854775807∧Wu c.t
def Vq (t:List Node):Bool:=t.all fun n=>n.kind != 0
def Tf:Con:=J7 (fun (t:Sl Node)=>t.l.length≤9223372036854775807) (fun t=>Vq t.l)
structure Kdf:Prop
theorem Kdf.k (_:Kdf) (h:p:=by
 repeat' first|exact Z8|with_reducible apply Zb|intro _
 exact ⟨k+1,by exact Qw,by omega,hs,by omega⟩):p:=h
structure Kde:Prop
theorem Kde.k (_:Kde) (h:p:=by
 refine Zm [2,4,5,6,7,8,9,10,11,12,13,14,15] (fun k:Nat=>[(3,.d (.int .i64 k))]) (fun k:Nat=>[]) (fun k:Nat=>k≤t.length∧∀ j,j<k→((t.getD j n0).kind != 0)=true) (fun k:Nat=>t.length-k) 0 ?_ ?_ ?_
 ·simp
 ·exact Qw
 rintro k ⟨hk,hno⟩;rcases Zo k t.length with ⟨hlt,Qb⟩|⟨hlt,Qb⟩
 ·have Qf:=Zr n0 hlt;have hst:((t.getD k n0).kind != 0)=true→∀ j,j<k+1→((t.getD j n0).kind != 0)=true:=fun h=>wE hno h;have hbad:((t.getD k n0).kind != 0)=false→false=Vq t:=fun h=>by
   unfold Vq;rw [Cw (p:=fun n:Node=>n.kind != 0) n0 k hlt h]
  obtain ⟨x,hx⟩:=exq (t.getD k n0);rw [hx] at Qf hst hbad;cases Z9:(x.kind==0) with
  | true =>
   have Qe:=hbad (by rw [bne,Z9];rfl)
   rw [eq_comm] at Qe;exact N9
  | false =>
   have hs:=hst (by rw [bne,Z9];rfl)
   simp only [bne_iff_ne,ne_eq] at hs;have Kq:Kdf:=⟨⟩;exact Y6
 ·have Qe:Vq t=true:=by
   unfold Vq;rw [N6 (p:=fun n:Node=>n.kind != 0) n0 fun j hj=>hno j (by omega)]
  exact Zp6):p:=h
theorem good_Static3:Qa Tryz.prog (39,Tf):=by
 obtain ⟨Kx,Kt,Kc,Kd,Kb,Ku,Kw,K,_⟩:=Xe Zv Zn [] false Xd;have Ko:=Tf.eq_def;refine Xj K Tryz.func39 [.tmp 2] rfl 16 rfl (fun c hc cvs hpre=>?_);unfold Tf at hpre;obtain ⟨⟨t⟩,rfl,ht⟩:=Q2 hpre;simp only at ht;cases hc;have Kq:Kde:=⟨⟩;exact Y6
theorem Zl8 (t:List Node):(!t.any (Ls [0]))=Vq t:=by
 unfold Vq;rw [List.not_any_eq_all_not]
 congr 1
 funext n
 simp [Ls,Qal,bne]
def E9:Con:=J7 (fun (t:Sl Node)=>t.l.length≤9223372036854775807) (fun t=>Vq t.l)
theorem Za5:Qa Tryz.prog (118,E9):=by
 obtain ⟨Kx,Kt,Kc,Kd,Kb,Ku,Kw,K,X9,_⟩:=Xe Zv Zn [] false (Q0 sH Ro.eq_def Xd);have Ko:=E9.eq_def;refine Xj K Tryz.func118 [.tmp 2] rfl 6 rfl (fun c hc cvs hpre=>?_);unfold E9 at hpre;obtain ⟨⟨t⟩,rfl,ht⟩:=Q2 hpre;simp only at ht;have Qb:=Zl8 t;cases hc;exact N9
def yF (t:List Node):Bool:=Xz t&&(Ux t&&Vq t)
def Zqo (l:List Ch) (k:Nat):Bool:=!(X4 (si l k) 1||(X4 0 (k:Int)&&Xf (si l k) (si l (k-1))))&&yF (ty l k)
def right11 (l:List Ch):Bool:=(List.range l.length).all (Zqo l)
def Fc:Con:=J7 (fun (l:Sl Ch)=>Zpn l.l) (fun l=>right11 l.l)
structure Kdh:Prop
theorem Kdh.k (_:Kdh) (h:p:=by
 repeat' first|exact Z8|with_reducible apply Zb|intro _
 all_goals first|with_reducible exact Jd|omega|assumption|(have:=hk0 ‹_›;omega)|(rw [Xr];omega)|(symm;apply hbad;clear hbad hst hno;simp_all;done)|(refine ⟨k+1,by exact Qw,by omega,hst ?_,by omega⟩;clear hbad hst hno;simp_all;done)|skip):p:=h
structure Kdg:Prop
theorem Kdg.k (_:Kdg) (h:p:=by
 repeat' first|exact Z8|with_reducible apply Zb|intro _
 refine Zm [2,4,5,6,7,8,9,10,11,12,13,14,15,16,17,18,19,20,21,22,23,24,25,26,27,28,29,30,31,32,33,34,35,36,37,38,39,40,41,42,43,44,45,46,47,48,49,50,51,52,53,54,55,56,57,58] (fun k:Nat=>[(3,.d (.int .i64 k))]) (fun k:Nat=>[]) (fun k:Nat=>k≤l.length∧∀ j,j<k→Zqo l j=true) (fun k:Nat=>l.length-k) 0 ?_ ?_ ?_
 ·simp
 ·exact Qw
 rintro k ⟨hk,hno⟩;rcases Zo k l.length with ⟨hlt,Qb⟩|⟨hlt,Qb⟩
 ·have Qf:=Zr c0 hlt;have hst:Zqo l k=true→∀ j,j<k+1→Zqo l j=true:=fun h=>wE hno h;have hbad:Zqo l k=false→R=false:=fun h=>by rw [←hR2];exact Gi k hlt h
  obtain ⟨hf1,hf2⟩:=hC (l.getD k c0) (by simp [hlt])
  unfold Zqo si ty yF at hst hbad;have Z9:=Zr c0 (show k-1<l.length by omega)
  have Qe:((k:Int)-1).toNat=k-1:=by omega
  obtain ⟨y,hy⟩:=exq (l.getD (k-1) c0);obtain ⟨x,hx⟩:=exq (l.getD k c0);rw [hx] at Qf hst hbad hf1 hf2;rw [hy] at Z9 hst hbad;obtain ⟨b1,Qc⟩:=exq (X4 x.site 1);obtain ⟨b2,Qh⟩:=exq (X4 0 (k:Int));obtain ⟨b3,Qn⟩:=exq (Xf x.site y.site);obtain ⟨b4,Q6⟩:=exq (Xz x.t);obtain ⟨b5,Je⟩:=exq (Ux x.t);obtain ⟨b6,Q4⟩:=exq (Vq x.t);rw [Qc,Qh,Qn,Q6,Je,Q4] at hst hbad;have hk0:b2=true→0≤(k:Int)-1∧(k:Int)-1<l.length:=fun e=>by rw [e,Jf] at Qh;omega
  have Zx:=@Kf;have Zw:=@eC;have Kq:Kdh:=⟨⟩;exact Y6
 ·have hr:R=true:=by
   rw [←hR2];exact Uo fun j hj=>hno j (by omega)
  subst hr;have Zx:=@eC;exact Zp6):p:=h
theorem good_Right11:Qa Tryz.prog (61,Fc):=by
 obtain ⟨Kx,Kt,Kc,Kd,Kb,Ku,Kw,K,X9,Uv,Po,_⟩:=Xe Zv Zn [] false (Q0 good_Static3 Tf.eq_def (Q0 good_Right3 M9.eq_def (Q0 good_Plain3 Sc.eq_def Xd)));have Ko:=Fc.eq_def;refine Xj K Tryz.func61 [.tmp 2] rfl 59 rfl (fun c hc cvs hpre=>?_);unfold Fc at hpre;obtain ⟨⟨l⟩,rfl,hF⟩:=Q2 hpre;obtain ⟨hl,hC⟩:Zpn l:=hF;clear hpre;obtain ⟨R,Zu⟩:=exq (right11 l);have hR2:=Zu;unfold right11 at hR2;cases hc;refine Y4 3 ?_;have Zx:=@eC;have Kq:Kdg:=⟨⟩;exact Y6
def xO (l:List Ch):Nat→Int
 | 0=>0
 | k+1=>si l k
def Qa4 (l:List Ch) (k:Nat):Bool:=!(Xf (si l k) (xO l k))&&yF (ty l k)
def Zp9 (l:List Ch):Bool:=(List.range l.length).all (Qa4 l)
theorem Qav (l:List Ch):Zp9 l=right11 l:=by
 have h:∀ n,(∀ j,j<n→Qa4 l j=true)↔∀ j,j<n→Zqo l j=true:=by
  intro n
  induction n with
  | zero=>exact ⟨fun _ j hj=>by omega,fun _ j hj=>by omega⟩
  | succ n ih =>
   have hstep:(∀ j,j<n→Zqo l j=true)→Qa4 l n=Zqo l n:=by
    intro hno;unfold Qa4 Zqo
    congr 2
    cases n with
    | zero =>
     show Xf (si l 0) 0=_;rw [show X4 0 ((0:Nat):Int)=false from rfl,Bool.false_and,Bool.or_false,Bool.eq_iff_iff,Qx,Jf];omega
    | succ m =>
     show Xf (si l (m+1)) (si l m)=_;rw [show X4 0 ((m+1:Nat):Int)=true by rw [Jf];omega,Bool.true_and,Nat.add_sub_cancel]
     have h1:=hno m (by omega)
     unfold Zqo at h1;simp only [Zg,Bool.not_eq_true',Bool.or_eq_false_iff] at h1;have h2:=h1.1.1;rw [Qv] at h2;rw [Bool.eq_iff_iff,Bool.or_eq_true,Qx,Jf];omega
   constructor
   ·intro hA;have hC:=ih.1 fun j hj=>hA j (by omega)
    exact wE hC (by rw [←hstep hC];exact hA n (by omega))
   ·intro hC;have hC2:∀ j,j<n→Zqo l j=true:=fun j hj=>hC j (by omega)
    exact wE (ih.2 hC2) (by rw [hstep hC2];exact hC n (by omega))
 unfold Zp9 right11;rw [Bool.eq_iff_iff,List.all_eq_true,List.all_eq_true];constructor
 ·intro hA j hj;exact (h l.length).1 (fun j hj=>hA j (List.mem_range.2 hj)) j (List.mem_range.1 hj)
 ·intro hC j hj;exact (h l.length).2 (fun j hj=>hC j (List.mem_range.2 hj)) j (List.mem_range.1 hj)
def Zbu (l:List Ch):Prop:=l.length≤1000000∧∀ c∈l,c.t.length≤1000000∧Wu c.t
def Ih:Con:=J7 (fun (l:Sl Ch)=>Zbu l.l) (fun l=>right11 l.l)
structure Kdj:Prop
theorem Kdj.k (_:Kdj) (h:p:=by
 repeat' first|exact Z8|with_reducible apply Zb|intro _
 all_goals first|with_reducible exact Jd|omega|assumption|(symm;apply hbad;clear hbad hst hno;simp_all;done)|(refine ⟨k+1,by rw [hlast];exact Qw,by omega,hst ?_,by omega⟩;clear hbad hst hno;simp_all;done)|skip):p:=h
structure Kdi:Prop
theorem Kdi.k (_:Kdi) (h:p:=by
 repeat' first|exact Z8|with_reducible apply Zb|intro _
 refine Zm [2,5,9,10,11,12,13,14,15,16,17,18,19,20,21,22,23,24,25,26,27,28,29,30,31,32,33,34,35,36] (fun k:Nat=>[(3,.d (.int .i64 (xO l k))),(8,.d (.int .i64 k))]) (fun k:Nat=>[]) (fun k:Nat=>k≤l.length∧∀ j,j<k→Qa4 l j=true) (fun k:Nat=>l.length-k) 0 ?_ ?_ ?_
 ·simp
 ·have Km:=@xO.eq_1;have Fg:=@xO.eq_2;exact Qw
 rintro k ⟨hk,hno⟩;rcases Zo k l.length with ⟨hlt,Qb⟩|⟨hlt,Qb⟩
 ·have Qf:=Zr c0 hlt;have hst:Qa4 l k=true→∀ j,j<k+1→Qa4 l j=true:=fun h=>wE hno h;have hbad:Qa4 l k=false→R=false:=fun h=>by rw [←hRA];exact Gi k hlt h
  obtain ⟨hf1,hf2⟩:=hC (l.getD k c0) (by simp [hlt])
  have Qe:=Zp8 (l.getD k c0).t;have hlast:xO l (k+1)=(l.getD k c0).site:=rfl;unfold Qa4 si ty yF at hst hbad;obtain ⟨la,hla⟩:=exq (xO l k);obtain ⟨x,hx⟩:=exq (l.getD k c0);rw [hx] at Qf hst hbad hf1 hf2 Qe hlast;rw [hla] at hst hbad;rw [hla];obtain ⟨b1,Z9⟩:=exq (Xf x.site la);obtain ⟨b4,h4⟩:=exq (Xz x.t);obtain ⟨b5,Qc⟩:=exq (Ux x.t);obtain ⟨b6,Qh⟩:=exq (Vq x.t);rw [h4] at Qe;rw [Z9,h4,Qc,Qh] at hst hbad;have Q6:=@Kf;have Je:=@eC;have Kq:Kdj:=⟨⟩;exact Y6
 ·have hr:R=true:=by
   rw [←hRA];exact Uo fun j hj=>hno j (by omega)
  subst hr;have Q6:=@eC;exact Zp6):p:=h
theorem good_RightA:Qa Tryz.prog (64,Ih):=by
 obtain ⟨Kx,Kt,Kc,Kd,Kb,Ku,Kw,K,X9,Uv,Po,_⟩:=Xe Zv Zn [] false (Q0 good_RightT Ig.eq_def (Q0 Zn5 Ik.eq_def (Q0 Za5 E9.eq_def Xd)));have Ko:=Ih.eq_def;refine Xj K Tryz.func64 [.tmp 2] rfl 37 rfl (fun c hc cvs hpre=>?_);unfold Ih at hpre;obtain ⟨⟨l⟩,rfl,hF⟩:=Q2 hpre;obtain ⟨hl,hC⟩:Zbu l:=hF;clear hpre;have hRA:=Qav l;obtain ⟨R,Qn⟩:=exq (right11 l);rw [Qn] at hRA;unfold Zp9 at hRA;cases hc;refine Y4 2 ?_;have Q6:=@eC;have Kq:Kdi:=⟨⟩;exact Y6
def tY (l:List Ch) (most:Int):Bool:=!X4 most (l.length:Int)&&(l.all (fun c=>Lq c.t 30)&&right11 l)
def Rr:Con:=Xc (fun (l:Sl Ch) (_:Int)=>Zpn l.l) (fun l m=>tY l.l m)
structure Kdl:Prop
theorem Kdl.k (_:Kdl) (h:p:=by
 repeat' first|exact Z8|with_reducible apply Zb|intro _
 all_goals first|with_reducible exact Jd|omega|assumption|exact ⟨k+1,by exact Qw,by omega,hs,by omega⟩|skip):p:=h
structure Kdk:Prop
theorem Kdk.k (_:Kdk) (h:p:=by
 repeat' first|exact Z8|with_reducible apply Zb|intro _
 refine Zm [4,10,11,12,13,14,15,16,17,18,19,20,21,22] (fun k:Nat=>[(5,.d (.int .i64 k))]) (fun k:Nat=>[]) (fun k:Nat=>k≤l.length∧∀ j,j<k→Lq (ty l j) 30=true) (fun k:Nat=>l.length-k) 0 ?_ ?_ ?_
 ·simp
 ·exact Qw
 rintro k ⟨hk,hno⟩;rcases Zo k l.length with ⟨hlt,Z9⟩|⟨hlt,Z9⟩
 ·have Qe:=Zr c0 hlt;have hst:Lq (ty l k) 30=true→∀ j,j<k+1→Lq (ty l j) 30=true:=fun h=>wE hno h;have hbad:Lq (ty l k) 30=false→R=false:=fun h=>by rw [←Qh,Cw (p:=fun c:Ch=>Lq c.t 30) c0 k hlt h,Bool.false_and]
  obtain ⟨hf1,hf2⟩:=hC (l.getD k c0) (by simp [hlt])
  unfold ty at hst hbad;obtain ⟨x,hx⟩:=exq (l.getD k c0);rw [hx] at Qe hst hbad hf1 hf2;cases Qc:Lq x.t 30 with
  | true =>
   have hs:=hst Qc;have Qn:=@Kf;have Q6:=@eC;have Kq:Kdl:=⟨⟩;exact Y6
  | false =>
   have hr:=hbad Qc;subst hr;have Qn:=@Kf;have Q6:=@eC;exact N9
 ·rw [N6 (p:=fun c:Ch=>Lq c.t 30) c0 fun j hj=>hno j (by omega),Bool.true_and] at Qh
  have hF2:Zpn l:=⟨hl,hC⟩;have Qn:=@eC;exact N9):p:=h
theorem good_Few11:Qa Tryz.prog (29,Rr):=by
 obtain ⟨Kx,Kt,Kc,Kd,Kb,Ku,Kw,K,X9,Uv,_⟩:=Xe Zv Zn [] false (Q0 good_Plain7 Il.eq_def (Q0 good_Right11 Fc.eq_def Xd));have Ko:=Rr.eq_def;refine Xj K Tryz.func29 [.tmp 4] rfl 25 rfl (fun c hc cvs hpre=>?_);unfold Rr at hpre;obtain ⟨⟨l⟩,m,rfl,hF⟩:=Ql hpre;obtain ⟨hl,hC⟩:Zpn l:=hF;clear hpre;obtain ⟨R,Qf⟩:=exq (tY l m);have Qh:=Qf;unfold tY at Qh;cases Qb:X4 m (l.length:Int) with
 | true =>
  rw [Qb,Bool.not_true,Bool.false_and] at Qh;subst Qh;cases hc;have Qn:=@eC;exact Zp6
 | false =>
 rw [Qb,Bool.not_false,Bool.true_and] at Qh;cases hc;have Qn:=@eC;have Kq:Kdk:=⟨⟩;exact Y6
section
variable {α β:Type} [BEq α]
def U1 (x:α):List α→Bool
 | []=>false
 | y::l=>(x==y)||U1 x l
def Oh (x:α) (z:β):List α→List β→β
 | y::ks,v::vs=>cond (x==y) v (Oh x z ks vs)
 | _,_=>z
def K9 (x:α) (ks:List α):List α:=cond (U1 x ks) ks (ks++[x])
def S8 (x:α) (v:β):List α→List β→List β
 | y::ks,u::vs=>cond (x==y) (v::vs) (u::S8 x v ks vs)
 | _,_=>[v]
theorem yW {x y:α}:∀ {l:List α},U1 x (l++[y])=(U1 x l||(x==y))
 | []=>by simp [U1]
 | z::l=>by simp only [List.cons_append,U1,yW (l:=l),Bool.or_assoc]
theorem lU {x:α} {v:β}:∀ {ks:List α} {vs:List β},ks.length=vs.length→(S8 x v ks vs).length=(K9 x ks).length
 | [],[],_=>rfl
 | [],_::_,h=>by simp at h
 | _::_,[],h=>by simp at h
 | k::ks,u::vs,h=>by
  have h':ks.length=vs.length:=by simpa using h
  have ih:=lU (x:=x) (v:=v) h';unfold K9 at ih ⊢;simp only [S8,U1];cases hx:(x==k) with
  | true=>simp only [cond_true,Bool.true_or,Zi,h']
  | false =>
   simp only [cond_false,Bool.false_or,Zi,ih];cases U1 x ks<;>simp
variable [LawfulBEq α]
theorem Zn8 {x y:α} {ks:List α}:U1 x (K9 y ks)=(U1 x ks||(x==y)):=by
 unfold K9;cases h:U1 y ks with
 | false=>rw [cond_false,yW]
 | true =>
  rw [cond_true];cases hxy:(x==y) with
  | false=>rw [Bool.or_false]
  | true=>rw [eq_of_beq hxy,h];rfl
theorem sM {x y:α} {z v:β}:∀ {ks:List α} {vs:List β},ks.length=vs.length→Oh x z (K9 y ks) (S8 y v ks vs)=cond (x==y) v (Oh x z ks vs)
 | [],[],_=>by
  show Oh x z [y] [v]=_;cases h:x==y<;>simp [Oh,h]
 | [],_::_,h=>by simp at h
 | _::_,[],h=>by simp at h
 | k::ks,u::vs,h=>by
  have h':ks.length=vs.length:=by simpa using h
  have ih:=sM (x:=x) (y:=y) (z:=z) (v:=v) h';unfold K9 at ih ⊢;simp only [S8,U1];cases hk:(y==k) with
  | true =>
   have e:=eq_of_beq hk;subst e;simp only [cond_true,Bool.true_or,Oh];cases x==y<;>rfl
  | false =>
   simp only [cond_false,Bool.false_or];cases hh:U1 y ks with
   | true =>
    rw [hh] at ih;simp only [cond_true] at ih ⊢;simp only [Oh,ih];cases hxk:(x==k) with
    | true =>
     have e:=eq_of_beq hxk;subst e;have:(x==y)=false:=by rw [Za] at hk ⊢;exact fun e=>hk e.symm
     rw [this];rfl
    | false=>rfl
   | false =>
    rw [hh] at ih;simp only [cond_false] at ih ⊢;simp only [List.cons_append,Oh,ih];cases hxk:(x==k) with
    | true =>
     have e:=eq_of_beq hxk;subst e;have:(x==y)=false:=by rw [Za] at hk ⊢;exact fun e=>hk e.symm
     rw [this];rfl
    | false=>rfl
end
theorem Ztp {x y:Int}:D.eqb (.int .i64 x) (.int .i64 y)=(x==y):=by
 show ((IntKind.i64==IntKind.i64)&&(x==y))=_;rfl
theorem Xt:∀ {ks:List Int},Kr (.int .i64) (ks.map enc)=True
 | []=>rfl
 | k::ks=>by
  show ((IntKind.i64=IntKind.i64)∧Kr (.int .i64) (ks.map enc))=True;rw [Xt];simp
theorem Uz {x:Int}:∀ {ks:List Int},F6 (.int .i64 x) (ks.map enc)=U1 x ks
 | []=>rfl
 | k::ks=>by
  show (D.eqb (.int .i64 x) (.int .i64 k)||F6 (.int .i64 x) (ks.map enc))=_;rw [Uz,Ztp,U1]
abbrev P5 (t:List Node):D:=.list 3 (t.map enc)
theorem Zs6 {x:Int} {z:List Node}:∀ {ks:List Int} {vs:List (List Node)},oI (.int .i64 x) (P5 z) (ks.map enc) (vs.map P5)=P5 (Oh x z ks vs)
 | [],vs=>by cases vs<;>rfl
 | k::ks,[]=>rfl
 | k::ks,v::vs=>by
  show cond (D.eqb (.int .i64 x) (.int .i64 k)) (P5 v) (oI (.int .i64 x) (P5 z) (ks.map enc) (vs.map P5))=_;rw [Zs6,Ztp,Oh];cases x==k<;>rfl
theorem rS {x:Int} {ks:List Int} {vs:List (List Node)}:oI (.int .i64 x) (.list 3 []) (ks.map enc) (vs.map P5)=P5 (Oh x [] ks vs):=Zs6 (z:=[])
theorem Zs5 {x:Int} {ks:List Int}:nA (.int .i64 x) (ks.map enc)=(K9 x ks).map enc:=by
 unfold nA K9;rw [Uz];cases U1 x ks
 ·simp only [cond_false,List.map_append,List.map_cons,List.map_nil];rfl
 ·rfl
theorem Znh {x:Int} {v:List Node}:∀ {ks:List Int} {vs:List (List Node)},Dp (.int .i64 x) (P5 v) (ks.map enc) (vs.map P5)=(S8 x v ks vs).map P5
 | [],vs=>by cases vs<;>rfl
 | k::ks,[]=>rfl
 | k::ks,u::vs=>by
  show cond (D.eqb (.int .i64 x) (.int .i64 k)) (P5 v::vs.map P5) (P5 u::Dp (.int .i64 x) (P5 v) (ks.map enc) (vs.map P5))=_;rw [Znh,Ztp,S8];cases x==k<;>rfl
theorem Zvt {x:Int} {v:List Node} {ks:List Int} {vs:List (List Node)}:Dp (.int .i64 x) (.list 3 (v.map enc)) (ks.map enc) (vs.map P5)=(S8 x v ks vs).map P5:=Znh
structure MT where
 ks:List Int
 vs:List (List Node)
def Wi (l:List Ch):Nat→MT
 | 0=>⟨[],[]⟩
 | k+1=>⟨K9 (si l k) (Wi l k).ks,S8 (si l k) (ty l k) (Wi l k).ks (Wi l k).vs⟩
structure Fil where
 m:MT
theorem Zop {l:List (List Node)}:(l.map P5).map (fun x:D=>(x.l.map dec:List Node))=l:=by
 rw [List.map_map];have:((fun x:D=>(x.l.map dec:List Node))∘P5)=id:=by
  funext t
  show (t.map (enc:Node→D)).map dec=t;exact Jq
 rw [this,List.map_id]
instance encFil:Enc Fil:=⟨fun a=>.clo 120 [.ptr 1 (.map (a.m.ks.map enc) (a.m.vs.map P5))],fun x=>match x with
 | .clo _ [.ptr _ (.map a b)]=>⟨⟨a.map dec,b.map fun x=>x.l.map dec⟩⟩
 | _=>⟨⟨[],[]⟩⟩,fun a=>by
  obtain ⟨k,v⟩:=a;have h1:(k.map (enc:Int→D)).map dec=k:=Jq;simp only [h1,Zop]⟩
theorem Vi {a:Fil}:(enc a:D)=.clo 120 [.ptr 1 (.map (a.m.ks.map enc) (a.m.vs.map P5))]:=rfl
theorem Kv {ks:List Int} {vs:List (List Node)}:V9 Fil (.clo 120 [.ptr 1 (.map (ks.map enc) (vs.map P5))])=True:=eq_true (Xq (⟨⟨ks,vs⟩⟩:Fil))
theorem K0 {ks:List Int} {vs:List (List Node)}:(dec (.clo 120 [.ptr 1 (.map (ks.map enc) (vs.map P5))]):Fil)=⟨⟨ks,vs⟩⟩:=Enc.dec_enc (⟨⟨ks,vs⟩⟩:Fil)
def D8:Con:=J7 (fun (l:Sl Ch)=>l.l.length≤1000000) (fun l=>Fil.mk (Wi l.l l.l.length))
structure Kdn:Prop
theorem Kdn.k (_:Kdn) (h:p:=by
 repeat' first|exact Z8|with_reducible apply Zb|intro _
 all_goals first|with_reducible exact Jd|omega|exact ⟨k+1,by rw [hS1,hS2];exact Qw,by omega,by omega⟩|skip):p:=h
structure Kdm:Prop
theorem Kdm.k (_:Kdm) (h:p:=by
 repeat' first|exact Z8|with_reducible apply Zb|intro _
 refine Zm [5,10,11,12,13,14,15,16,17,18] (fun k:Nat=>[(9,.d (.int .i64 k))]) (fun k:Nat=>[(6,.mp ((Wi l k).ks.map enc) ((Wi l k).vs.map P5) false)]) (fun k:Nat=>k≤l.length) (fun k:Nat=>l.length-k) 0 ?_ ?_ ?_
 ·omega
 ·have Km:=@Wi.eq_1;have Fg:=@Wi.eq_2;exact Qw
 rintro k hk;rcases Zo k l.length with ⟨hlt,Qb⟩|⟨hlt,Qb⟩
 ·have Qf:=Zr c0 hlt;have hS1:(Wi l (k+1)).ks=K9 (si l k) (Wi l k).ks:=rfl;have hS2:(Wi l (k+1)).vs=S8 (si l k) (ty l k) (Wi l k).ks (Wi l k).vs:=rfl;unfold si at hS1 hS2;unfold ty at hS2;obtain ⟨x,hx⟩:=exq (l.getD k c0);rw [hx] at Qf hS1 hS2;obtain ⟨⟨ks,vs⟩,Z9⟩:=exq (Wi l k);rw [Z9] at hS1 hS2;rw [Z9];simp only at hS1 hS2;have Qe:=@Xt;have Qc:=@Uz;have Qh:=@Zs5;have Qn:=@Zvt;have Q6:=@Kf;have Je:=@eC;have Kq:Kdn:=⟨⟩;exact Y6
 ·have hke:k=l.length:=by omega
  rw [hke];rw [hke] at Qb;obtain ⟨⟨ks,vs⟩,Z9⟩:=exq (Wi l l.length);rw [Z9];have Qe:=@Vi;have Qc:=@eC;exact N9):p:=h
theorem good_filler:Qa Tryz.prog (66,D8):=by
 obtain ⟨Kx,Kt,Kc,Kd,Kb,Ku,Kw,K,_⟩:=Xe Zv Zn [] false Xd;have Ko:=D8.eq_def;refine Xj K Tryz.func66 [.tmp 2] rfl 20 rfl (fun c hc cvs hpre=>?_);unfold D8 at hpre;obtain ⟨⟨l⟩,rfl,hl⟩:=Q2 hpre;simp only at hl;clear hpre;cases hc;have Qe:=@eC;have Kq:Kdm:=⟨⟩;exact Y6
def named (s:List UInt8):List Node→List Node
 | []=>[]
 | n::r=>⟨n.kind,s,n.n⟩::r
theorem C2 {s:List UInt8} {l:List Node}:(named s l).length=l.length:=by cases l<;>rfl
def nR (m:MT) (n:Node):List Node:=cond (n.kind==0&&U1 n.n m.ks) (named n.name (Oh n.n [] m.ks m.vs)) [n]
def Xs (m:MT) (t:List Node):List Node:=t.flatMap (nR m)
def I8 (m:MT):Prop:=∀ s,U1 s m.ks=true→Oh s [] m.ks m.vs≠[]∧(Oh s [] m.ks m.vs).length≤1000
theorem Zrn {m:MT} {t:List Node} {k:Nat} (h:k<t.length):Xs m (t.take (k+1))=Xs m (t.take k)++nR m (t.getD k n0):=by
 unfold Xs;rw [Vd n0 h,List.flatMap_append];simp
theorem Zwc {m:MT} (hm:I8 m) (n:Node):(nR m n).length≤1000:=by
 unfold nR;cases hc:n.kind==0&&U1 n.n m.ks with
 | false=>exact Nat.le_succ_of_le (by show 1≤999;omega)
 | true =>
  rw [cond_true,C2];rw [Zg] at hc;exact (hm _ hc.2).2
theorem yI {m:MT} (hm:I8 m):∀ t:List Node,(Xs m t).length≤1000*t.length
 | []=>Zq _
 | n::t=>by
  have ih:=yI hm t;have h1:=Zwc hm n;unfold Xs at ih ⊢;rw [List.flatMap_cons,Zf,Zi];omega
theorem kP {P:List Node} {n:Node} {r:List Node} {s:List UInt8}:((P++n::r).map (enc:Node→D)).set P.length (.agg [.int .i64 n.kind,.str s,.int .i64 n.n])=(P++named s (n::r)).map enc:=by
 rw [List.map_append,List.map_append,List.set_append];simp [named,Z2]
theorem tK {P:List Node} {n:Node} {r:List Node}:el ((P++n::r).map (enc:Node→D)) P.length=enc n:=by
 unfold el;simp
structure PtrT where
 m:MT
instance encPtrT:Enc PtrT:=⟨fun a=>.ptr 1 (.map (a.m.ks.map enc) (a.m.vs.map P5)),fun x=>match x with
 | .ptr _ (.map a b)=>⟨⟨a.map dec,b.map fun x=>x.l.map dec⟩⟩
 | _=>⟨⟨[],[]⟩⟩,fun a=>by
  obtain ⟨k,v⟩:=a;have h1:(k.map (enc:Int→D)).map dec=k:=Jq;simp only [h1,Zop]⟩
theorem Yc {a:PtrT}:(enc a:D)=.ptr 1 (.map (a.m.ks.map enc) (a.m.vs.map P5)):=rfl
theorem Yr {ks:List Int} {vs:List (List Node)}:V9 PtrT (.ptr 1 (.map (ks.map enc) (vs.map P5)))=True:=eq_true (Xq (⟨⟨ks,vs⟩⟩:PtrT))
theorem Yt {ks:List Int} {vs:List (List Node)}:(dec (.ptr 1 (.map (ks.map enc) (vs.map P5))):PtrT)=⟨⟨ks,vs⟩⟩:=Enc.dec_enc (⟨⟨ks,vs⟩⟩:PtrT)
def N0:Con:=Xc (fun (t:Sl Node) (p:PtrT)=>t.l.length≤200000∧I8 p.m) (fun t p=>Sl.mk (Xs p.m t.l))
structure Kdp:Prop
theorem Kdp.k (_:Kdp) (h:p:=by
 repeat' first|exact Z8|with_reducible apply Zb|intro _
 all_goals first|with_reducible exact Jd|omega|exact ⟨k+1,by rw [hP2,Zu];(have Km:=hS3;exact Qw),by omega,by omega⟩|skip):p:=h
structure Kdq:Prop
theorem Kdq.k (_:Kdq) (h:p:=by
 repeat' first|exact Z8|with_reducible apply Zb|intro _
 all_goals first|with_reducible exact Jd|omega|exact ⟨k+1,by rw [hP2,Zu];(have Km:=hS3;exact Qw),by omega,by omega⟩|skip):p:=h
structure Kdr:Prop
theorem Kdr.k (_:Kdr) (h:p:=by
 repeat' first|exact Z8|with_reducible apply Zb|intro _
 all_goals first|with_reducible exact Jd|omega|exact ⟨k+1,by rw [hP2];(have Km:=hlen;have Fg:=hP3;exact Qw),by omega,by omega⟩|skip):p:=h
structure Kdo:Prop
theorem Kdo.k (_:Kdo) (h:p:=by
 repeat' first|exact Z8|with_reducible apply Zb|intro _
 refine Zm [6,7,8,9,13,14,15,16,17,18,19,20,21,22,23,24,25,26,27,28,29,30,31,32,33,34,35,36,37,38,39,40,41,42,43,44,45] (fun k:Nat=>[(4,.sl 33 ((Xs ⟨ks,vs⟩ (t.take k)).map (enc:Node→D)).length),(12,.d (.int .i64 k))]) (fun k:Nat=>[(33,.row 3 ((Xs ⟨ks,vs⟩ (t.take k)).map enc) 0)]) (fun k:Nat=>k≤t.length) (fun k:Nat=>t.length-k) 0 ?_ ?_ ?_
 ·omega
 ·have Km:=@Xs.eq_1;exact Qw
 rintro k hk;have hb:=hbound k hk;rcases Zo k t.length with ⟨hlt,Qb⟩|⟨hlt,Qb⟩
 ·have hS:=Zrn (m:=⟨ks,vs⟩) hlt;have hb2:=hbound (k+1) (by omega)
  have Qf:=Zr n0 hlt;obtain ⟨x,hx⟩:=exq (t.getD k n0);rw [hx] at Qf hS;have hfull:=hm x.n;unfold nR at hS;simp only at hS hfull;obtain ⟨P,Zx⟩:=exq (Xs ⟨ks,vs⟩ (t.take k));obtain ⟨P2,hP2⟩:=exq (Xs ⟨ks,vs⟩ (t.take (k+1)));rw [Zx] at hS hb;rw [hP2] at hS hb2;rw [Zx];have Q6:(P.map (enc:Node→D)).length=P.length:=Zl ..;cases h0:(x.kind==0) with
  | false =>
   rw [h0,Bool.false_and,cond_false] at hS;have Zu:P2.map (enc:Node→D)=P.map enc++[.agg [.int .i64 x.kind,.str x.name,.int .i64 x.n]]:=by rw [hS];simp [Z2]
   have hS3:P2.length=P.length+1:=by rw [hS];simp
   have Z9:(x.kind != 0)=true:=by rw [bne,h0];rfl
   have Zw:=@Xt;have Zz:=@Uz;have Zy:=@rS;have Kq:Kdp:=⟨⟩;exact Y6
  | true =>
   have Z9:(x.kind != 0)=false:=by rw [bne,h0];rfl
   cases Qe:U1 x.n ks with
   | false =>
    rw [h0,Qe,Bool.and_false,cond_false] at hS;have Zu:P2.map (enc:Node→D)=P.map enc++[.agg [.int .i64 x.kind,.str x.name,.int .i64 x.n]]:=by rw [hS];simp [Z2]
    have hS3:P2.length=P.length+1:=by rw [hS];simp
    have Zw:=@Xt;have Zz:=@Uz;have Zy:=@rS;have Kq:Kdq:=⟨⟩;exact Y6
   | true =>
    rw [h0,Qe,Bool.and_self,cond_true] at hS;obtain ⟨hne,hsh⟩:=hfull Qe;obtain ⟨u,Qc⟩:=exq (Oh x.n [] ks vs);rw [Qc] at hS hne hsh;cases u with
    | nil=>exact absurd rfl hne
    | cons y r =>
     have Zu:=kP (P:=P) (n:=y) (r:=r) (s:=x.name);rw [←hS] at Zu;have Qn:=tK (P:=P) (n:=y) (r:=r);have Qh:P.map (enc:Node→D)++(y::r).map enc=(P++y::r).map enc:=by simp
     have hlen:(P++y::r).length=P.length+r.length+1:=by simp [Nat.add_assoc]
     have Je:((P++y::r).map (enc:Node→D)).length=P.length+r.length+1:=by rw [Zl,hlen]
     have hP3:P2.length=P.length+r.length+1:=by rw [hS,Zf,C2,Zi];omega
     have hP2l:(P2.map (enc:Node→D)).length=P.length+r.length+1:=by rw [Zl,hS,Zf,C2,Zi];omega
     simp only [Zi] at hsh;obtain ⟨Q,hQ⟩:=exq (P++y::r);rw [hQ] at Zu Qn Qh hlen Je;obtain ⟨yr,hyr⟩:=exq (y::r);rw [hyr] at Qc Qh;have hyl:yr.length=r.length+1:=by rw [←hyr];rfl
     have Q4:(yr.map (enc:Node→D)).length=r.length+1:=by rw [Zl,hyl]
     have Zw:=@Xt;have Zz:=@Uz;have Zy:=@rS;have Kq:Kdr:=⟨⟩;exact Y6
 ·have hke:k=t.length:=by omega
  rw [hke,List.take_length] at hb;rw [hke,List.take_length];rw [hke] at Qb;obtain ⟨P,Zx⟩:=exq (Xs ⟨ks,vs⟩ t);rw [Zx];have Zw:=@Yt;have Zz:=@Yr;have Zy:=@Yc;exact N9):p:=h
theorem good_filler_1:Qa Tryz.prog (120,N0):=by
 obtain ⟨Kx,Kt,Kc,Kd,Kb,Ku,Kw,K,_⟩:=Xe Zv Zn [] false Xd;have Ko:=N0.eq_def;refine Xj K Tryz.func120 [.tmp 3] rfl 47 rfl (fun c hc cvs hpre=>?_);unfold N0 at hpre;obtain ⟨⟨t⟩,⟨m⟩,rfl,ht,hm⟩:=Ql hpre;simp only at ht hm;clear hpre;obtain ⟨R,hR⟩:=exq (Xs m t);have hbound:∀ k,k≤t.length→(Xs m (t.take k)).length≤400000000:=fun k hk=>by
  have:=yI hm (t.take k);rw [List.length_take] at this;omega
 obtain ⟨ks,vs⟩:=m;cases hc;refine Y4 2 ?_;have Zw:=@Yc;have Kq:Kdo:=⟨⟩;exact Y6
def Xa (l:List Ch):MT:=Wi l l.length
def cD:Con:=Xc (fun (t:Sl Node) (l:Sl Ch)=>t.l.length≤200000∧l.l.length≤1000000∧I8 (Xa l.l)) (fun t l=>Sl.mk (Xs (Xa l.l) t.l))
theorem Zrc:Qa Tryz.prog (63,cD):=by
 obtain ⟨Kx,Kt,Kc,Kd,Kb,Ku,Kw,K,X9,Uv,_⟩:=Xe Zv Zn [] false (Q0 good_filler D8.eq_def (Q0 good_filler_1 N0.eq_def Xd));have Ko:=cD.eq_def;refine Xj K Tryz.func63 [.tmp 4] rfl 9 rfl (fun c hc cvs hpre=>?_);unfold cD at hpre;obtain ⟨⟨t⟩,⟨l⟩,rfl,ht,hl,hm⟩:=Ql hpre;simp only at ht hl hm;clear hpre;unfold Xa at hm;have Qf:Xa l=Wi l l.length:=rfl;obtain ⟨⟨ks,vs⟩,Qb⟩:=exq (Wi l l.length);rw [Qb] at hm Qf;cases hc;have Z9:=@Vi;have Qe:=@Yt;have Qc:=@Yr;have Qh:=@Yc;have Qn:=@eC;exact N9
def U0 (m:MT) (p:Part):Part:=⟨p.kind,p.label,p.name,p.bind,p.many,p.num,Xs m p.t,Xs m p.u⟩
def O4 (f:Part→Part) (e:List Part) (k:Nat):List Part:=(e.take k).map f++e.drop k
theorem Znc {f:Part→Part} {e:List Part} {k:Nat} (h:k≤e.length):(O4 f e k).length=e.length:=by
 unfold O4;rw [Zf,Zl,List.length_take,List.length_drop];omega
theorem Zvn {f:Part→Part} {e:List Part}:O4 f e 0=e:=by simp [O4]
theorem Zyu {f:Part→Part} {e:List Part}:O4 f e e.length=e.map f:=by simp [O4]
theorem rH {f:Part→Part} {e:List Part} {k:Nat} (h:k<e.length):O4 f e k=(e.take k).map f++e.getD k e0::e.drop (k+1):=by
 unfold O4;rw [List.drop_eq_getElem_cons h];simp [h]
theorem Qbb {f:Part→Part} {e:List Part} {k:Nat} (h:k<e.length):el ((O4 f e k).map (enc:Part→D)) k=enc (e.getD k e0):=by
 rw [rH h];have hl:((e.take k).map f).length=k:=by rw [Zl,List.length_take];omega
 obtain ⟨P,hP⟩:=exq ((e.take k).map f);rw [hP] at hl ⊢;rw [←hl];unfold el;simp
def lD (f:Part→Part) (e:List Part) (k:Nat) (q:Part):List Part:=(e.take k).map f++q::e.drop (k+1)
theorem Zys {f:Part→Part} {e:List Part} {k:Nat} {q:Part} (h:k<e.length):(lD f e k q).length=e.length:=by
 unfold lD;rw [Zf,Zl,List.length_take,Zi,List.length_drop];omega
theorem Zyt {f:Part→Part} {e:List Part} {k:Nat} (h:k<e.length) (q:Part):((O4 f e k).map (enc:Part→D)).set k (enc q)=(lD f e k q).map enc:=by
 rw [rH h];unfold lD;have hl:((e.take k).map f).length=k:=by rw [Zl,List.length_take];omega
 obtain ⟨P,hP⟩:=exq ((e.take k).map f);rw [hP] at hl ⊢;rw [←hl,List.map_append,List.map_append,List.set_append];simp
theorem Zyr {f:Part→Part} {e:List Part} {k:Nat} (h:k<e.length) (p q:Part):((lD f e k p).map (enc:Part→D)).set k (enc q)=(lD f e k q).map enc:=by
 unfold lD;have hl:((e.take k).map f).length=k:=by rw [Zl,List.length_take];omega
 obtain ⟨P,hP⟩:=exq ((e.take k).map f);rw [hP] at hl ⊢;rw [←hl,List.map_append,List.map_append,List.set_append];simp
theorem Qba {f:Part→Part} {e:List Part} {k:Nat} (h:k<e.length) (q:Part):el ((lD f e k q).map (enc:Part→D)) k=enc q:=by
 unfold lD;have hl:((e.take k).map f).length=k:=by rw [Zl,List.length_take];omega
 obtain ⟨P,hP⟩:=exq ((e.take k).map f);rw [hP] at hl ⊢;rw [←hl];unfold el;simp
theorem Zvm {f:Part→Part} {e:List Part} {k:Nat} (h:k<e.length):lD f e k (f (e.getD k e0))=O4 f e (k+1):=by
 unfold lD O4;rw [Vd e0 h,List.map_append,List.append_assoc];rfl
def Nq:Con:=Kg (fun (t:Sl Part)=>t.l≠[]∧t.l.length≤1000000000) (fun t=>t.l)
theorem mE:Nq=Kg (fun (t:Sl Part)=>t.l≠[]∧t.l.length≤1000000000) (fun t=>t.l):=rfl
structure Kds:Prop
theorem Kds.k (_:Kds) (h:p:=by
 repeat' first|exact Z8|with_reducible apply Zb|intro _
 all_goals simp_all):p:=h
theorem good_cloneParts:Qa Tryz.prog (46,Nq):=by
 obtain ⟨Kx,Kt,Kc,Kd,Kb,Ku,Kw,K,_⟩:=Xe Zv Zn [] false Xd;have Ko:=Nq.eq_def;refine Xj K Tryz.func46 [.tmp 2] rfl 8 rfl (fun c hc cvs hpre=>?_);unfold Nq at hpre;obtain ⟨⟨t⟩,rfl,hn,ht⟩:=cO hpre;simp only at hn ht;cases hc;have Qb:t.map (enc:Part→D)≠[]:=by simpa using hn
 have Kq:Kds:=⟨⟩;exact Y6
def Zse (e:List Part):Prop:=e≠[]∧e.length≤1000000∧∀ p∈e,p.t.length≤200000∧p.u.length≤200000
def cW:Con:=Xc (fun (e:Sl Part) (f:Fil)=>Zse e.l∧I8 f.m) (fun e f=>Sl.mk (e.l.map (U0 f.m)))
structure Kdu:Prop
theorem Kdu.k (_:Kdu) (h:p:=by
 repeat' first|exact Z8|with_reducible apply Zb|intro _
 all_goals first|with_reducible exact Jd|omega|assumption|exact Qn|exact ⟨k+1,by rw [hM2];(have Km:=hML;have Fg:=hMS;have Zsi:=Qn;exact Qw),by omega,by omega⟩|skip):p:=h
structure Kdv:Prop
theorem Kdv.k (_:Kdv) (h:p:=by
 repeat' first|exact Z8|with_reducible apply Zb|intro _
 all_goals first|trivial|exact congrArg (fun f:Fil=>List.map (enc:Part→D) (List.map (U0 f.m) e)) hd.symm|skip):p:=h
structure Kdt:Prop
theorem Kdt.k (_:Kdt) (h:p:=by
 repeat' first|exact Z8|with_reducible apply Zb|intro _
 all_goals try assumption
 refine Zm [6,7,13,14,15,16,17,18,19,20,21,22,23,24,25,26,27,28,29,30,31,32,33] (fun k:Nat=>[(5,.sl 9 ((O4 (U0 ⟨ks,vs⟩) e k).map (enc:Part→D)).length),(10,.sl 9 ((O4 (U0 ⟨ks,vs⟩) e k).map (enc:Part→D)).length),(12,.d (.int .i64 k))]) (fun k:Nat=>[(9,.row 8 ((O4 (U0 ⟨ks,vs⟩) e k).map enc) 0)]) (fun k:Nat=>k≤e.length) (fun k:Nat=>e.length-k) 0 ?_ ?_ ?_
 ·omega
 ·have Km:=@Zvn;exact Qw
 rintro k hk;have hML:=Znc (f:=U0 ⟨ks,vs⟩) hk;rcases Zo k e.length with ⟨hlt,Qb⟩|⟨hlt,Qb⟩
 ·have Qe:=Qbb (f:=U0 ⟨ks,vs⟩) hlt;have q2:=Zyt (f:=U0 ⟨ks,vs⟩) hlt;have q3:=Zyr (f:=U0 ⟨ks,vs⟩) hlt;have q4:=Qba (f:=U0 ⟨ks,vs⟩) hlt;have q5:=Zvm (f:=U0 ⟨ks,vs⟩) hlt;have q6:=fun q=>Zys (f:=U0 ⟨ks,vs⟩) (q:=q) hlt;have hMS:=Znc (f:=U0 ⟨ks,vs⟩) (show k+1≤e.length by omega)
  obtain ⟨s1,s2⟩:=heP (e.getD k e0) (by simp [hlt])
  obtain ⟨x,hx⟩:=exq (e.getD k e0);rw [hx] at Qe q5 s1 s2;obtain ⟨M,hM⟩:=exq (O4 (U0 ⟨ks,vs⟩) e k);rw [hM] at Qe q2 hML;rw [hM];have Qf:(M.map (enc:Part→D)).length=e.length:=by rw [Zl,hML]
  have q10:=q6 ⟨x.kind,x.label,x.name,x.bind,x.many,x.num,Xs ⟨ks,vs⟩ x.t,x.u⟩;have Qh:el ((lD (U0 ⟨ks,vs⟩) e k ⟨x.kind,x.label,x.name,x.bind,x.many,x.num,Xs ⟨ks,vs⟩ x.t,x.u⟩).map (enc:Part→D)) k=.agg [.int .i64 x.kind,.str x.label,.str x.name,.str x.bind,.int .i64 x.many,.int .i64 x.num,enc (Sl.mk (Xs ⟨ks,vs⟩ x.t)),.list 3 (x.u.map enc)]:=q4 _;obtain ⟨M1,hM1⟩:=exq (lD (U0 ⟨ks,vs⟩) e k ⟨x.kind,x.label,x.name,x.bind,x.many,x.num,Xs ⟨ks,vs⟩ x.t,x.u⟩);obtain ⟨M2,hM2⟩:=exq (O4 (U0 ⟨ks,vs⟩) e (k+1));have Qc:(M.map (enc:Part→D)).set k (.agg [.int .i64 x.kind,.str x.label,.str x.name,.str x.bind,.int .i64 x.many,.int .i64 x.num,enc (Sl.mk (Xs ⟨ks,vs⟩ x.t)),.list 3 (x.u.map enc)])=M1.map enc:=by
   rw [←hM1];exact q2 ⟨x.kind,x.label,x.name,x.bind,x.many,x.num,Xs ⟨ks,vs⟩ x.t,x.u⟩
  have Qn:(M1.map (enc:Part→D)).set k (.agg [.int .i64 x.kind,.str x.label,.str x.name,.str x.bind,.int .i64 x.many,.int .i64 x.num,enc (Sl.mk (Xs ⟨ks,vs⟩ x.t)),enc (Sl.mk (Xs ⟨ks,vs⟩ x.u))])=M2.map enc:=by
   rw [←hM1,←hM2,←q5];exact q3 _ (U0 ⟨ks,vs⟩ x)
  rw [hM1] at Qh q10;rw [hM2] at hMS;have Z9:(M1.map (enc:Part→D)).length=e.length:=by rw [Zl,q10]
  clear q2 q3 q4 q5 q6;have Je:=@Yt;have Q4:=@Yr;have Zu:=@Yc;have Zx:=@Vi;have Kq:Kdu:=⟨⟩;exact Y6
 ·have hke:k=e.length:=by omega
  rw [hke,hall];rw [hke] at Qb;have Q6:(e.map (U0 ⟨ks,vs⟩)).length=e.length:=Zl ..;have hd:(dec (enc (Fil.mk ⟨ks,vs⟩)):Fil)=⟨⟨ks,vs⟩⟩:=Enc.dec_enc _;have Je:=@Vi;have Kq:Kdv:=⟨⟩;exact Y6):p:=h
theorem good_exprA:Qa Tryz.prog (119,cW):=by
 obtain ⟨Kx,Kt,Kc,Kd,Kb,Ku,Kw,K,X9,Uv,_⟩:=Xe Zv Zn [] false (Q0 good_cloneParts Nq.eq_def (Q0 good_filler_1 N0.eq_def Xd));have Ko:=cW.eq_def;refine Xj K Tryz.func119 [.tmp 4] rfl 35 rfl (fun c hc cvs hpre=>?_);unfold cW at hpre;obtain ⟨⟨e⟩,⟨m⟩,rfl,hE,hm⟩:=Ql hpre;obtain ⟨he0,hel,heP⟩:Zse e:=hE;simp only at hm;clear hpre;obtain ⟨ks,vs⟩:=m;have hall:=Zyu (f:=U0 ⟨ks,vs⟩) (e:=e);have hpos:0<e.length:=List.length_pos_iff.2 he0;cases hc;refine Y4 2 ?_;have Je:=@mE;have Q4:=@Vi;have Kq:Kdt:=⟨⟩;exact Y6
def Qaf (e:List Part):Prop:=e.length≤1000000∧∀ p∈e,p.t.length≤200000∧p.u.length≤200000
def Xl:List Ch→Int→Option (List Node)
 | [],_=>none
 | c::l,s=>if c.site=s then some c.t else Xl l s
theorem rT (s:Int) (c:Ch):∀ l:List Ch,Xl (l++[c]) s=match Xl l s with
  | some u=>some u
  | none=>if c.site=s then some c.t else none
 | []=>by simp [Xl]
 | b::l=>by
  simp only [List.cons_append,Xl,rT s c l];split<;>rfl
theorem eR {s:Int}:∀ {l:List Ch},(∀ c∈l,c.site≠s)→Xl l s=none
 | [],_=>rfl
 | c::l,h=>by
  rw [Xl,if_neg (h c (by simp)),eR fun b hb=>h b (List.mem_cons_of_mem _ hb)]
theorem Lv {s:Int} {u:List Node}:∀ {l:List Ch},Xl l s=some u→∃ c∈l,c.site=s∧c.t=u
 | [],h=>by cases h
 | c::l,h=>by
  unfold Xl at h;split at h
  ·exact ⟨c,by simp,‹_›,Option.some.inj h⟩
  ·obtain ⟨b,hb,h1⟩:=Lv h;exact ⟨b,List.mem_cons_of_mem _ hb,h1⟩
def Zsf (l:List Ch):Prop:=∀ i j,i<j→j<l.length→si l i<si l j
theorem Fx {l:List Ch} (h:right11 l=true):Zsf l:=by
 unfold right11 at h;rw [List.all_eq_true] at h;have step:∀ j,j+1<l.length→si l j<si l (j+1):=by
  intro j hj;have:=h (j+1) (List.mem_range.2 hj);unfold Zqo at this;simp only [Zg,Bool.not_eq_true',Bool.or_eq_false_iff,Bool.and_eq_false_iff,Qv] at this;have h2:=this.1.2;simp only [Nat.add_sub_cancel] at h2;rcases h2 with h2|h2
  ·omega
  ·rw [←Bool.not_eq_true,Qx] at h2;omega
 intro i j hij
 induction j with
 | zero=>omega
 | succ j ih =>
  intro hj;have:=step j hj;rcases Nat.lt_or_ge i j with h1|h1
  ·have:=ih h1 (by omega)
   omega
  ·have:i=j:=by omega
   subst this;exact step i hj
theorem bL {l:List Ch} (h:right11 l=true):∀ c∈l,1≤c.site∧Xz c.t=true∧Ux c.t=true∧Vq c.t=true:=by
 unfold right11 at h;rw [List.all_eq_true] at h;intro c hc;obtain ⟨k,hk,rfl⟩:=List.mem_iff_getElem.1 hc;have:=h k (List.mem_range.2 hk);unfold Zqo yF si ty at this;have hg:l.getD k c0=l[k]:=by simp [hk]
 rw [hg] at this;simp only [Zg,Bool.not_eq_true',Bool.or_eq_false_iff,Qv] at this;exact ⟨this.1.1,this.2.1,this.2.2.1,this.2.2.2⟩
theorem qM {t:List Node} (h:Xz t=true):0<t.length:=by
 unfold Xz X8 at h;cases t with
 | nil=>simp at h
 | cons n t=>simp
theorem aL {l:List Ch} (hr:Zsf l):∀ k,k≤l.length→(Wi l k).ks.length=(Wi l k).vs.length∧∀ s,U1 s (Wi l k).ks=(Xl (l.take k) s).isSome∧Oh s [] (Wi l k).ks (Wi l k).vs=(Xl (l.take k) s).getD []
 | 0,_=>⟨rfl,fun s=>⟨rfl,rfl⟩⟩
 | k+1,hk=>by
  obtain ⟨ih1,ih2⟩:=aL hr k (by omega)
  have hnot:Xl (l.take k) (si l k)=none:=eR fun c hc=>by
   obtain ⟨j,hj,rfl⟩:=List.mem_iff_getElem.1 hc;rw [List.length_take] at hj;have:=hr j k (by omega) (by omega)
   unfold si at this;rw [List.getElem_take];have hg:l.getD j c0=l[j]'(by omega):=by simp [show j<l.length by omega]
   rw [hg] at this;exact Int.ne_of_lt this
  refine ⟨?_,fun s=>?_⟩
  ·show (K9 (si l k) (Wi l k).ks).length=(S8 (si l k) (ty l k) (Wi l k).ks (Wi l k).vs).length;rw [lU ih1]
  ·show U1 s (K9 (si l k) (Wi l k).ks)=_∧Oh s [] (K9 (si l k) (Wi l k).ks) (S8 (si l k) (ty l k) (Wi l k).ks (Wi l k).vs)=_;rw [Zn8,sM ih1,(ih2 s).1,(ih2 s).2,Vd c0 (show k<l.length by omega),rT]
   show ((Xl (l.take k) s).isSome||(s==si l k))=_∧cond (s==si l k) (ty l k) ((Xl (l.take k) s).getD [])=_;cases hs:(s==si l k) with
   | true =>
    rw [eq_of_beq hs,hnot];have:(l.getD k c0).site=si l k:=rfl;rw [if_pos this];exact ⟨rfl,rfl⟩
   | false =>
    rw [Za] at hs;have:¬ (l.getD k c0).site=s:=fun e=>hs e.symm;rw [if_neg this];cases Xl (l.take k) s<;>exact ⟨rfl,rfl⟩
def fillN (l:List Ch) (n:Node):List Node:=if n.kind=0 then (match Xl l n.n with
 | some u=>named n.name u
 | none=>[n]) else [n]
theorem tJ {l:List Ch} (hr:Zsf l) (n:Node):nR (Xa l) n=fillN l n:=by
 have h:=(aL hr l.length (Zq _)).2 n.n;rw [List.take_length] at h;unfold nR Xa fillN;rw [h.1,h.2];by_cases h0:n.kind=0
 ·rw [if_pos h0,Zk.2 h0,Bool.true_and];cases Xl l n.n<;>rfl
 ·rw [if_neg h0,Za.2 h0];rfl
theorem Zol {l:List Ch} {m:Int} (h:tY l m=true):(l.length:Int)≤m∧(∀ c∈l,c.t.length≤30)∧right11 l=true:=by
 unfold tY at h;simp only [Zg,Bool.not_eq_true',Qv,List.all_eq_true] at h;refine ⟨h.1,fun c hc=>?_,h.2.2⟩;have:=h.2.1 c hc;unfold Lq at this;simp only [Zg,Bool.not_eq_true',Qv] at this;omega
theorem iH {l:List Ch} (h:right11 l=true) (hs:∀ c∈l,c.t.length≤1000):I8 (Xa l):=by
 intro s hh;have hl:=(aL (Fx h) l.length (Zq _)).2 s;rw [List.take_length] at hl;unfold Xa at hh ⊢;rw [hl.1] at hh;rw [hl.2];cases hq:Xl l s with
 | none=>rw [hq] at hh;cases hh
 | some u =>
  obtain ⟨c,hc,-,rfl⟩:=Lv hq;have:=qM (bL h c hc).2.1;refine ⟨fun e=>?_,hs c hc⟩;simp only [Option.getD_some] at e;rw [e] at this;simp at this
theorem Qbz {a:Int} {m:Nat} {l:List D}:(dec (.agg [.int .i64 a,.list m l]):Ch)=⟨a,l.map dec⟩:=rfl
theorem Qbm {a x y:Int} {s:List UInt8}:V9 Ch (.agg [.int .i64 a,.list 3 [.agg [.int .i64 x,.str s,.int .i64 y]]])=True:=eq_true (Xq (Ch.mk a [⟨x,s,y⟩]))
def Te:Con:=Hr true
theorem iD:Qa Tryz.prog (30,Te):=by
 obtain ⟨Kx,Kt,Kc,Kd,Kb,Ku,Kw,K,X9,Uv,Po,_⟩:=Xe Zv Zn [] false (Q0 Zrc cD.eq_def (Q0 Zn4 Ij.eq_def (Q0 good_RightA Ih.eq_def Xd)));have Ko:=Te.eq_def;refine Xj K Tryz.func30 [.tmp 0] rfl 28 rfl (fun c hc cvs hpre=>?_);unfold Te at hpre;obtain rfl:=uJ hpre;have Qb:right11 [⟨2,[⟨1,[],0⟩]⟩]=true:=by decide
 have Qf:right11 [⟨1,[⟨0,[],0⟩]⟩]=false:=by decide
 have Z9:Xs (Xa [⟨2,[⟨1,[],0⟩]⟩]) [⟨5,[],0⟩,⟨0,[],1⟩,⟨0,[],2⟩]=[⟨5,[],0⟩,⟨0,[],1⟩,⟨1,[],0⟩]:=by rfl
 have m1:I8 (Xa [⟨2,[⟨1,[],0⟩]⟩]):=iH Qb (by intro c hc;simp at hc;subst hc;simp)
 have hA:pM [⟨5,[],0⟩,⟨0,[],1⟩,⟨1,[],0⟩]:=⟨_,_,_,rfl,rfl,⟨by simp,by simp⟩,⟨by simp,by simp⟩⟩
 have Qe:Zbl ⟨0,[],1⟩ ⟨1,[],0⟩=[63,32,45,62,32,105,110,116]:=rfl;have s1:Zbu [⟨2,[⟨1,[],0⟩]⟩]:=⟨by simp,by intro c hc;simp at hc;subst hc;exact ⟨by simp,by intro n hn;simp at hn;subst hn;simp⟩⟩
 have s2:Zbu [⟨1,[⟨0,[],0⟩]⟩]:=⟨by simp,by intro c hc;simp at hc;subst hc;exact ⟨by simp,by intro n hn;simp at hn;subst hn;simp⟩⟩
 cases hc;have Qc:=@Qbz;have Qh:=@Qbm;have Qn:=@eC;exact N9
theorem Zoi {l:List Ch} (hl:∀ c∈l,c.t.length≤30) (hr:right11 l=true) (t:List Node):(Xs (Xa l) t).length≤30*t.length:=by
 have h1:∀ n,(nR (Xa l) n).length≤30:=by
  intro n;rw [tJ (Fx hr)];unfold fillN;split
  ·cases hq:Xl l n.n with
   | none=>exact (by show 1≤30;omega)
   | some u =>
    obtain ⟨c,hc,-,rfl⟩:=Lv hq;show (named n.name c.t).length≤30;rw [C2];exact hl c hc
  ·exact (by show 1≤30;omega)
 induction t with
 | nil=>exact Zq _
 | cons n t ih =>
  have:=h1 n;unfold Xs at ih ⊢;rw [List.flatMap_cons,Zf,Zi];omega
abbrev Qb8 (l:List Ch):Prop:=l.Pairwise fun a b=>a.site<b.site
theorem Qcz {l:List Ch} (h:right11 l=true):Qb8 l:=by
 have hr:=Fx h;rw [Qb8,List.pairwise_iff_getElem];intro i j hi hj hij;have:=hr i j hij hj;unfold si at this;have e1:l.getD i c0=l[i]:=by simp [hi]
 have e2:l.getD j c0=l[j]:=by simp [hj]
 rwa [e1,e2] at this
theorem qN {l:List Ch} (hu:Qb8 l) (hf:∀ c∈l,1≤c.site∧Xz c.t=true∧Ux c.t=true∧Vq c.t=true):right11 l=true:=by
 unfold right11;rw [List.all_eq_true];intro k hk;have hk:=List.mem_range.1 hk;have e1:l.getD k c0=l[k]:=by simp [hk]
 obtain ⟨h1,h2,h3,h4⟩:=hf l[k] (List.getElem_mem hk);unfold Zqo si ty yF;rw [e1,h2,h3,h4,Bool.and_true,Bool.and_true,Bool.and_true,Bool.not_eq_true',Bool.or_eq_false_iff,Qv];refine ⟨h1,?_⟩;cases k with
 | zero=>rfl
 | succ k =>
  have e2:l.getD (k+1-1) c0=l[k]:=by simp [show k<l.length by omega]
  rw [e2,Bool.and_eq_false_iff];right;rw [←Bool.not_eq_true,Qx];have:=(List.pairwise_iff_getElem.1 hu) k (k+1) (by omega) hk (by omega)
  omega
theorem xI {c:Ch}:∀ {l:List Ch},Qb8 l→c∈l→Xl l c.site=some c.t
 | [],_,h=>by cases h
 | b::l,hu,h=>by
  rw [Qb8,List.pairwise_cons] at hu;unfold Xl;rcases Zs.1 h with rfl|h
  ·rw [if_pos rfl]
  ·have:=hu.1 c h;rw [if_neg (by omega)]
   exact xI hu.2 h
theorem Kz {l:List Ch} (h:right11 l=true) (t:List Node):Xs (Xa l) t=t.flatMap (fillN l):=by
 unfold Xs
 congr 1
 funext n
 exact tJ (Fx h) n
theorem C5 (t:List Node):Xs (Xa []) t=t:=by
 rw [Kz (by rfl)]
 have:∀ n,fillN [] n=[n]:=by
  intro n;unfold fillN Xl;split<;>rfl
 induction t with
 | nil=>rfl
 | cons n t ih=>rw [List.flatMap_cons,this,ih];rfl
structure Mrg (l0 l1:List Ch) (i k:Nat) (B:List Ch):Prop where
 li:i≤l0.length
 lk:k≤l1.length
 len:B.length=i+k
 mem:∀ c,c∈B↔c∈l0.take i∨c∈l1.take k
 ups:Qb8 B
 lo0:∀ c∈B,i<l0.length→c.site<si l0 i
 lo1:∀ c∈B,k<l1.length→c.site<si l1 k
theorem Mrg.nil {l0 l1:List Ch}:Mrg l0 l1 0 0 []:=⟨by omega,by omega,rfl,by simp,List.Pairwise.nil,by simp,by simp⟩
theorem Zsp {l:List Ch} (h:right11 l=true) {i:Nat} (hi:i+1<l.length):si l i<si l (i+1):=Fx h i (i+1) (by omega) hi
theorem dH {l:List Ch} {i:Nat} (h:i<l.length) (c:Ch):c∈l.take (i+1)↔c∈l.take i∨c=l.getD i c0:=by
 rw [Vd c0 h,List.mem_append,Zp]
theorem Zlt {B:List Ch} {c:Ch} (hB:Qb8 B) (h:∀ b∈B,b.site<c.site):Qb8 (B++[c]):=by
 rw [Qb8,List.pairwise_append];exact ⟨hB,List.pairwise_singleton _ _,fun a ha b hb=>by rw [Zp] at hb;subst hb;exact h a ha⟩
theorem Mrg.left {l0 l1:List Ch} (h0:right11 l0=true) {i k:Nat} {B:List Ch} (h:Mrg l0 l1 i k B) (hi:i<l0.length) (hlt:k<l1.length→si l0 i<si l1 k):Mrg l0 l1 (i+1) k (B++[l0.getD i c0]):=by
 refine ⟨hi,h.lk,by simp [h.len];omega,fun c=>?_,Zlt h.ups fun b hb=>h.lo0 b hb hi,fun c hc hi2=>?_,fun c hc hk=>?_⟩
 ·rw [List.mem_append,Zp,h.mem,dH hi];constructor
  ·rintro ((h|h)|h)
   ·exact .inl (.inl h)
   ·exact .inr h
   ·exact .inl (.inr h)
  ·rintro ((h|h)|h)
   ·exact .inl (.inl h)
   ·exact .inr h
   ·exact .inl (.inr h)
 ·have hn:=Zsp h0 hi2;rcases List.mem_append.1 hc with hc|hc
  ·have:=h.lo0 c hc hi;omega
  ·rw [Zp] at hc;subst hc;exact hn
 ·rcases List.mem_append.1 hc with hc|hc
  ·exact h.lo1 c hc hk
  ·rw [Zp] at hc;subst hc;exact hlt hk
theorem Mrg.right {l0 l1:List Ch} (h1:right11 l1=true) {i k:Nat} {B:List Ch} (h:Mrg l0 l1 i k B) (hk:k<l1.length) (hlt:i<l0.length→si l1 k<si l0 i):Mrg l0 l1 i (k+1) (B++[l1.getD k c0]):=by
 refine ⟨h.li,hk,by simp [h.len];omega,fun c=>?_,Zlt h.ups fun b hb=>h.lo1 b hb hk,fun c hc hi=>?_,fun c hc hk2=>?_⟩
 ·rw [List.mem_append,Zp,h.mem,dH hk,or_assoc]
 ·rcases List.mem_append.1 hc with hc|hc
  ·exact h.lo0 c hc hi
  ·rw [Zp] at hc;subst hc;exact hlt hi
 ·have hn:=Zsp h1 hk2;rcases List.mem_append.1 hc with hc|hc
  ·have:=h.lo1 c hc hk;omega
  ·rw [Zp] at hc;subst hc;exact hn
theorem Mrg.whole {l0 l1 B:List Ch} (h:Mrg l0 l1 l0.length l1.length B) (c:Ch):c∈B↔c∈l0∨c∈l1:=by
 have:=h.mem c;rwa [List.take_length,List.take_length] at this
theorem Mrg.right11 {l0 l1 B:List Ch} (h0:right11 l0=true) (h1:Ty.right11 l1=true) (h:Mrg l0 l1 l0.length l1.length B):Ty.right11 B=true :=
 qN h.ups fun c hc=>by
  rcases (h.whole c).1 hc with hc|hc
  ·exact bL h0 c hc
  ·exact bL h1 c hc
theorem map_snoc {B:List Ch} {x:Ch}:(B++[x]).map (enc:Ch→D)=B.map enc++[.agg [.int .i64 x.site,.list 3 (x.t.map enc)]]:=by rw [List.map_append];rfl
open Go.Proofs Go.Rose Go.Rose.Rose
theorem rW {s:List UInt8} {t:List Node} (h:Mh t):Mh (named s t):=by
 cases t with
 | nil=>exact h
 | cons a t =>
  intro n hn;rcases Zs.1 hn with rfl|hn
  ·exact h a (by simp)
  ·exact h n (by simp [hn])
theorem Zqp {l:List Ch} (hr:right11 l=true) {n:Node} (h:Uq n=true):Mh (fillN l n):=by
 have h1:Mh [n]:=fun m hm=>by rw [Zp] at hm;subst hm;exact h
 unfold fillN;split
 ·cases hq:Xl l n.n with
  | none=>exact h1
  | some u =>
   obtain ⟨c,hc,-,rfl⟩:=Lv hq;obtain ⟨x,hx,hR⟩:=T4 (bL hr c hc).2.1;exact rW (by rw [hx];exact hR.numb)
 ·exact h1
theorem Zvb {l:List Ch} (hr:right11 l=true) {t:List Node} (h:Mh t):Mh (Xs (Xa l) t):=by
 rw [Kz hr];intro m hm;obtain ⟨n,hn,hmn⟩:=List.mem_flatMap.1 hm;exact Zqp hr (h n hn) m hmn
def vK {A B C E R:Type} [Enc A] [Enc B] [Enc C] [Enc E] [Enc R] (p:A→B→C→E→Prop) (f:A→B→C→E→R):Con:=⟨[false,false,false,false],[false],fun c=>match c with
 | [.d x,.d y,.d z,.d w]=>V9 A x∧V9 B y∧V9 C z∧V9 E w∧p (dec x) (dec y) (dec z) (dec w)
 | _=>False,fun c=>match c with
 | [.d x,.d y,.d z,.d w]=>.d (enc (f (dec x) (dec y) (dec z) (dec w)))
 | _=>.d .nilp⟩
theorem Zw7:type_of% @vK.eq_def:=@vK.eq_def
theorem Zbi {A B C E R:Type} [Enc A] [Enc B] [Enc C] [Enc E] [Enc R] {p:A→B→C→E→Prop} {f:A→B→C→E→R} {c:List CV} (h:(vK p f).pre c):∃ a b d e,c=[.d (enc a),.d (enc b),.d (enc d),.d (enc e)]∧p a b d e:=by
 unfold vK at h;simp only at h;split at h
 ·next x y z w=>exact ⟨dec x,dec y,dec z,dec w,by rw [←h.1,←h.2.1,←h.2.2.1,←h.2.2.2.1],h.2.2.2.2⟩
 ·exact h.elim
def Lg (s:List UInt8) (i:Int) (a b:UInt8):Bool:=X4 i s.length&&Xx (s.getD i.toNat 0) a b
def cB:Con:=vK (fun (s:List UInt8) (i:Int) (_ _:UInt8)=>s.length≤1000000∧0≤i∧i≤2000000) (fun s i a b=>Lg s i a b)
theorem Zrb:Qa Tryz.prog (246,cB):=by
 obtain ⟨Kx,Kt,Kc,Kd,Kb,Ku,Kw,K,X9,_⟩:=Xe Zv Zn [] false (Q0 good_within pN Xd);have Ko:=cB.eq_def;refine Xj K Tryz.func246 [.tmp 8] rfl 21 rfl (fun c hc cvs hpre=>?_);unfold cB at hpre;obtain ⟨s,i,a,b,rfl,hs,hi0,hi1⟩:=Zbi hpre;obtain ⟨i,rfl⟩:∃ n:Nat,i=n:=⟨i.toNat,by omega⟩
 obtain ⟨R,Z9⟩:=exq (Lg s i a b);have Qf:=Z9;unfold Lg at Qf;rw [Zj] at Qf;rcases Zo i s.length with ⟨hlt,Qb⟩|⟨hlt,Qb⟩
 ·rw [Qb,Bool.true_and] at Qf;cases hc;have Qe:=@vK.eq_def;exact N9
 ·rw [Qb,Bool.false_and] at Qf;subst Qf;cases hc;have Qe:=@vK.eq_def;exact Zp6
def Zqv (s:List UInt8) (i:Nat) (c:UInt8):Nat :=
 if c<128 then 1
 else if (Xx c 194 223&&Lg s (i+1) 128 191)=true then 2
 else if (Xx c 224 239&&(Lg s (i+1) (if c=224 then 160 else 128) (if c=237 then 159 else 191)&&Lg s (i+2) 128 191))=true then 3
 else if (Xx c 240 244&&(Lg s (i+1) (if c=240 then 144 else 128) (if c=244 then 143 else 191)&&(Lg s (i+2) 128 191&&Lg s (i+3) 128 191)))=true then 4
 else 0
def gN (s:List UInt8) (i:Nat):Nat:=Zqv s i (s.getD i 0)
theorem tL {s:List UInt8} {i:Int} {a b:UInt8} (h:Lg s i a b=true):i<s.length:=by
 unfold Lg at h;rw [Zg,Jf] at h;exact h.1
theorem Znj {s:List UInt8} {i:Nat} (hi:i<s.length):i+gN s i≤s.length:=by
 unfold gN Zqv;obtain ⟨a,ha⟩:=exq ((if s.getD i 0=224 then (160:UInt8) else 128))
 obtain ⟨b,hb⟩:=exq ((if s.getD i 0=237 then (159:UInt8) else 191))
 obtain ⟨c,hc⟩:=exq ((if s.getD i 0=240 then (144:UInt8) else 128))
 obtain ⟨d,hd⟩:=exq ((if s.getD i 0=244 then (143:UInt8) else 191))
 rw [ha,hb,hc,hd];split
 ·omega
 split
 ·rename_i h;rw [Zg] at h;have:=tL h.2;omega
 split
 ·rename_i h;simp only [Zg] at h;have:=tL h.2.2;omega
 split
 ·rename_i h;simp only [Zg] at h;have:=tL h.2.2.2;omega
 ·omega
def oE (c:UInt8):Int:=if Xx c 48 57=true then (c.toNat:Int)-48 else if Xx c 97 102=true then (c.toNat:Int)-97+10 else -1
theorem Zso {c:UInt8}:-1≤oE c∧oE c≤15:=by
 unfold oE Xx;split
 ·rename_i h;simp only [Zg,decide_eq_true_eq,UInt8.le_iff_toNat_le] at h;have h1:(48:UInt8).toNat=48:=rfl;have h2:(57:UInt8).toNat=57:=rfl;omega
 split
 ·rename_i h;simp only [Zg,decide_eq_true_eq,UInt8.le_iff_toNat_le] at h;have h1:(97:UInt8).toNat=97:=rfl;have h2:(102:UInt8).toNat=102:=rfl;omega
 ·omega
def Qdg (s:List UInt8) (i:Nat) (c:UInt8):List UInt8×Int :=
 if c=92∨c=34 then ((s.take (i+2)).drop (i+1),2)
 else if c=110 then ([10],2)
 else if c=116 then ([9],2)
 else if c=120∧i+3<s.length∧0≤oE (s.getD (i+2) 0)∧0≤oE (s.getD (i+3) 0) then ([UInt8.ofNat (16*oE (s.getD (i+2) 0)+oE (s.getD (i+3) 0)).toNat],4)
 else ([],0)
def oO (s:List UInt8) (i:Nat):List UInt8×Int:=if s.length≤i+1 then ([],0) else Qdg s i (s.getD (i+1) 0)
theorem Zto {s:List UInt8} {i:Nat} (hi:i<s.length):0≤(oO s i).2∧i+(oO s i).2.toNat≤s.length∧(oO s i).1.length≤(oO s i).2.toNat:=by
 unfold oO;split
 ·exact ⟨by simp,by simp;omega,by simp⟩
 unfold Qdg;split
 ·exact ⟨by simp,by simp;omega,by simp;omega⟩
 split
 ·exact ⟨by simp,by simp;omega,by simp⟩
 split
 ·exact ⟨by simp,by simp;omega,by simp⟩
 split
 ·rename_i h;exact ⟨by simp,by simp;omega,by simp⟩
 ·exact ⟨by simp,by simp;omega,by simp⟩
def eK:Nat→List UInt8→Nat→List UInt8→List UInt8×Int×Int
 | 0,_,_,_=>([],0,2)
 | f+1,s,i,out =>
  if s.length≤i then ([],0,2)
  else if s.getD i 0=34 then (out,(i:Int)+1,0)
  else if gN s i=0∨s.getD i 0<32∨s.getD i 0=127 then ([],0,2)
  else if s.getD i 0=92 then (if (oO s i).2=0 then ([],0,2) else eK f s (i+(oO s i).2.toNat) (out++(oO s i).1))
  else eK f s (i+gN s i) (out++(s.take (i+gN s i)).drop i)
def I9 (s:List UInt8):List UInt8×Int×Int:=if s.length=0∨s.getD 0 0≠34 then ([],0,2) else eK s.length s 1 []
theorem Zab {s:List UInt8}:∀ {f i:Nat} {out:List UInt8},1≤i→i≤s.length→out.length≤i→(eK f s i out).2.2=0→1≤(eK f s i out).2.1∧(eK f s i out).2.1≤s.length∧(eK f s i out).1.length≤s.length
 | 0,i,out,_,_,_,h=>by simp [eK] at h
 | f+1,i,out,h1,h2,h3,h=>by
  unfold eK at h ⊢;split at h
  ·simp at h
  rename_i hi;rw [if_neg hi];split at h
  ·rename_i h4;rw [if_pos h4];exact ⟨by simp only;omega,by simp only;omega,by simp only;omega⟩
  rename_i h4;rw [if_neg h4];split at h
  ·simp at h
  rename_i h5;rw [if_neg h5];split at h
  ·rename_i h6;rw [if_pos h6];split at h
   ·simp at h
   rename_i h7;rw [if_neg h7];have hE:=Zto (s:=s) (i:=i) (by omega)
   exact Zab (by omega) hE.2.1 (by rw [Zf];omega) h
  ·rename_i h6;rw [if_neg h6];have hE:=Znj (s:=s) (i:=i) (by omega)
   exact Zab (by omega) hE (by simp only [Zf,List.length_drop,List.length_take];omega) h
theorem Zac {s:List UInt8} (h:(I9 s).2.2=0):1≤(I9 s).2.1∧(I9 s).2.1≤s.length∧(I9 s).1.length≤s.length:=by
 unfold I9 at h ⊢;split at h
 ·simp at h
 rename_i h1;rw [if_neg h1];exact Zab (by omega) (by omega) (by simp) h
structure Tok where
 kind:Int
 text:List UInt8
 frm:Int
 to:Int
 deriving DecidableEq
instance encTok:Enc Tok:=⟨fun a=>.agg [.int .i64 a.kind,.str a.text,.int .i64 a.frm,.int .i64 a.to],fun x=>match x with
 | .agg [a,b,c,d]=>⟨a.i,b.s,c.i,d.i⟩
 | _=>⟨0,[],0,0⟩,fun a=>rfl⟩
instance szTok:Sz Tok:=⟨4⟩
theorem Pv:Sz.sz Tok=4:=rfl
theorem Jo {n:Tok}:(enc n:D)=.agg [.int .i64 n.kind,.str n.text,.int .i64 n.frm,.int .i64 n.to]:=rfl
theorem Yf {a c d:Int} {b:List UInt8}:(dec (.agg [.int .i64 a,.str b,.int .i64 c,.int .i64 d]):Tok)=⟨a,b,c,d⟩:=rfl
theorem Ya {a c d:Int} {b:List UInt8}:V9 Tok (.agg [.int .i64 a,.str b,.int .i64 c,.int .i64 d])=True:=eq_true rfl
theorem W5 {n:Tok}:Tok.mk n.kind n.text n.frm n.to=n:=rfl
def Ue:Tok:=⟨0,[],0,0⟩
def Ztb:List (List UInt8):=[[105,109,112,111,114,116],[100,101,102],[102,117,110],[108,101,116],[114,101,99],[105,110],[105,102],[116,104,101,110],[101,108,115,101],[99,97,115,101],[111,102],[101,110,100],[116,114,117,101],[102,97,108,115,101],[117,110,105,116],[105,110,116],[98,111,111,108],[115,116,114,105,110,103]]
def eF:List (List UInt8):=[[45,62],[61,61],[38,38],[124,124],[43,43],[40],[41],[123],[125],[91],[93],[44],[59],[58],[46],[61],[124],[43],[45],[42],[47],[60],[63],[33]]
def lN (s:List UInt8):Bool:=Ztb.any fun o=>o==s
def yY (c:UInt8):Bool:=Xx c 97 122||(Xx c 65 90||(Xx c 48 57||c==95))
def Wm (c:UInt8):Bool:=Xx c 48 57
def Rj:Bool→List UInt8→Nat
 | _,[]=>0
 | true,c::r=>if c=10 then 1+Rj false r else 1+Rj true r
 | false,c::r=>if c=32∨c=9∨c=10 then 1+Rj false r else if c=35 then 1+Rj true r else 0
def I6 (s:List UInt8) (i:Nat):Nat:=i+Rj false (s.drop i)
theorem iG:∀ (b:Bool) (s:List UInt8),Rj b s≤s.length
 | _,[]=>by simp [Rj]
 | true,c::r=>by
  have h1:=iG true r;have h2:=iG false r;unfold Rj;split<;>simp only [Zi]<;>omega
 | false,c::r=>by
  have h1:=iG true r;have h2:=iG false r;unfold Rj;split
  ·simp only [Zi];omega
  split<;>simp only [Zi]<;>omega
theorem aM {s:List UInt8} {i:Nat} (h:i≤s.length):i≤I6 s i∧I6 s i≤s.length:=by
 unfold I6;have:=iG false (s.drop i);rw [List.length_drop] at this;omega
def kO (s:List UInt8) (i:Nat) (x:List UInt8):Bool:=Xf ((i+x.length:Nat):Int) s.length&&((s.take (i+x.length)).drop i==x)
def To (s:List UInt8) (i:Nat):List (List UInt8)→List UInt8
 | []=>[]
 | x::l=>cond (kO s i x) x (To s i l)
def Tv (s:List UInt8) (i:Nat):List UInt8:=To s i eF
def U4:List UInt8→Nat
 | []=>0
 | c::r=>cond (yY c) (1+U4 r) 0
theorem fI:∀ s:List UInt8,U4 s≤s.length
 | []=>by simp [U4]
 | c::r=>by
  have:=fI r;unfold U4;cases yY c
  ·exact Nat.zero_le _
  ·rw [cond_true,Zi];omega
def U8 (s:List UInt8) (i:Nat):List UInt8:=(s.take (i+U4 (s.drop i))).drop i
def gB (s:List UInt8) (i:Nat):Tok×Bool :=
 if s.getD i 0=34 then (⟨4,(I9 (s.drop i)).1,i,i+(I9 (s.drop i)).2.1⟩,(I9 (s.drop i)).2.2==0)
 else if N8 (U8 s i)=true then (⟨2,U8 s i,i,i+U4 (s.drop i)⟩,true)
 else if lN (U8 s i)=true then (⟨6,U8 s i,i,i+U4 (s.drop i)⟩,true)
 else if Wg (U8 s i)=true then (⟨1,U8 s i,i,i+U4 (s.drop i)⟩,true)
 else if 0<U4 (s.drop i) then
  (if (U8 s i).all Wm=true then (⟨3,U8 s i,i,i+U4 (s.drop i)⟩,Xf ((U4 (s.drop i):Nat):Int) 18) else (⟨1,U8 s i,i,i+U4 (s.drop i)⟩,false))
 else (⟨5,Tv s i,i,i+(Tv s i).length⟩,!(Tv s i==[]))
def Fh:Nat→List UInt8→Nat→List Tok→List Tok×Int×Int
 | 0,_,_,_=>([],0,2)
 | f+1,s,i,out =>
  if s.length≤i then (out++[⟨0,[],s.length,s.length⟩],0,0)
  else if (gB s i).2=false then ([],i,2)
  else Fh f s (I6 s (gB s i).1.to.toNat) (out++[(gB s i).1])
def Pr (s:List UInt8):List Tok×Int×Int:=if 100000<s.length then ([],0,3) else Fh (s.length+1) s (I6 s 0) []
structure Site where
 frm:Int
 to:Int
 miss:Bool
 deriving DecidableEq
instance encSite:Enc Site:=⟨fun a=>.agg [.int .i64 a.frm,.int .i64 a.to,.bool a.miss],fun x=>match x with
 | .agg [a,b,c]=>⟨a.i,b.i,c.b⟩
 | _=>⟨0,0,false⟩,fun a=>rfl⟩
instance szSite:Sz Site:=⟨3⟩
theorem qJ:Sz.sz Site=3:=rfl
structure St4 where
 at_:Int
 site:Int
 sites:List Site
 e:Int
 deriving DecidableEq
instance encSt4:Enc St4:=⟨fun a=>.agg [.int .i64 a.at_,.int .i64 a.site,.list 3 (a.sites.map enc),.int .i64 a.e],fun x=>match x with
 | .agg [a,b,c,d]=>⟨a.i,b.i,c.l.map dec,d.i⟩
 | _=>⟨0,0,[],0⟩,fun a=>by
  have h:∀ l:List Site,(l.map (enc:Site→D)).map dec=l:=fun l=>Jq;cases a;simp [D.l,D.i,h]⟩
theorem Ez {n:St4}:(enc n:D)=.agg [.int .i64 n.at_,.int .i64 n.site,.list 3 (n.sites.map enc),.int .i64 n.e]:=rfl
theorem Wo {a b d:Int} {c:List Site}:(dec (.agg [.int .i64 a,.int .i64 b,.list 3 (c.map enc),.int .i64 d]):St4)=⟨a,b,c,d⟩:=Enc.dec_enc (St4.mk a b c d)
theorem Wl {a b d:Int} {c:List Site}:V9 St4 (.agg [.int .i64 a,.int .i64 b,.list 3 (c.map enc),.int .i64 d])=True:=eq_true (Xq (St4.mk a b c d))
theorem Ei {n:St4}:St4.mk n.at_ n.site n.sites n.e=n:=rfl
def tk (l:List Tok) (i:Int):Tok:=l.getD i.toNat Ue
def Tx (l:List Tok) (i:Int) (x:List UInt8):Bool:=X4 i l.length&&((tk l i).kind==5&&(tk l i).text==x)
def Uc (s:St4) (i e:Int):St4:=⟨i,s.site,s.sites,e⟩
def eY (t:Tok):Int:=if t.kind≠6 then -1 else if t.text=[105,110,116] then 1 else if t.text=[98,111,111,108] then 2 else if t.text=[115,116,114,105,110,103] then 3 else if t.text=[117,110,105,116] then 4 else -1
def Yo (s:St4):St4:=⟨s.at_+1,s.site,s.sites,s.e⟩
def Vr (l:List Tok) (s:St4) (x:List UInt8):St4:=if s.e≠0 then s else if Tx l s.at_ x=false then Uc s s.at_ 2 else Yo s
def Vk (labels:List (List UInt8)) (done:List UInt8):Nat→Int
 | 0=>-1
 | k+1=>cond (Op.bytesLess done (labels.getD k [])&&(X4 (Vk labels done k) 0||Op.bytesLess (labels.getD k []) (labels.getD (Vk labels done k).toNat []))) (k:Int) (Vk labels done k)
def fT (labels:List (List UInt8)) (types:List (List Node)):Nat→List UInt8→List Node→List Node×Int
 | 0,_,out=>(out,0)
 | k+1,done,out =>
  if Vk labels done types.length<0 then ([],7)
  else fT labels types k (labels.getD (Vk labels done types.length).toNat []) (out++named (labels.getD (Vk labels done types.length).toNat []) (types.getD (Vk labels done types.length).toNat []))
def V6 (kind:Int) (s:List UInt8):Bool:=if kind=7 then N8 s else Wg s
def dJ (kind:Int) (labels:List (List UInt8)) (types:List (List Node)):List Node×Int :=
 if ((kind≠6∧kind≠7)∨labels.length≠types.length)∨(50<types.length∨kind=7∧types.length=0) then ([],1)
 else if ((List.range types.length).all fun k=>V6 kind (labels.getD k []))=false then ([],1)
 else fT labels types types.length [] [⟨kind,[],types.length⟩]
def wC (kind:Int):Int:=if kind=7 then 2 else 1
def oY (l:List Tok) (kind:Int) (s:St4):Bool:=Xf l.length s.at_||(!((tk l s.at_).kind==wC kind)||((wC kind==1&&!Wg (tk l s.at_).text)||(wC kind==2&&!N8 (tk l s.at_).text)))
section
variable (w:List Tok→St4→List Node×St4)
def Tp (l:List Tok) (kind:Int) (between fin:List UInt8):Nat→St4→List (List UInt8)→List (List Node)→List Node×St4
 | 0,s,_,_=>([],s)
 | f+1,s,labels,types =>
  if oY l kind s=true then ([],Uc s s.at_ 2)
  else if (labels.any fun x=>x==(tk l s.at_).text)=true then ([],Uc s s.at_ 7)
  else if labels.length=50 then ([],Uc s s.at_ 3)
  else if (w l (Vr l (Yo s) [58])).2.e≠0 then ([],(w l (Vr l (Yo s) [58])).2)
  else if Tx l (w l (Vr l (Yo s) [58])).2.at_ between=false then ((dJ kind (labels++[(tk l s.at_).text]) (types++[(w l (Vr l (Yo s) [58])).1])).1,Vr l (w l (Vr l (Yo s) [58])).2 fin)
  else Tp l kind between fin f (Yo (w l (Vr l (Yo s) [58])).2) (labels++[(tk l s.at_).text]) (types++[(w l (Vr l (Yo s) [58])).1])
def mT (l:List Tok) (s:St4) (kind:Int) (between fin:List UInt8):List Node×St4:=Tp w l kind between fin 51 s [] []
def Pk (d:Nat) (l:List Tok) (s:St4):List Node×St4 :=
 if s.e≠0 then ([],s)
 else if (l.length:Int)≤s.at_ then ([],Uc s l.length 2)
 else if Tx l s.at_ [63]=true then ([⟨0,[],s.site⟩],⟨s.at_+1,s.site+1,s.sites++[⟨(tk l s.at_).frm,(tk l s.at_).to,false⟩],0⟩)
 else if 0≤eY (tk l s.at_) then ([⟨eY (tk l s.at_),[],0⟩],Yo s)
 else if Tx l s.at_ [40]=false∧Tx l s.at_ [123]=false∧Tx l s.at_ [91]=false then ([],Uc s s.at_ 2)
 else if d=0 then ([],Uc s s.at_ 4)
 else if (tk l s.at_).text=[123]∧Tx l (s.at_+1) [125]=true then ([⟨6,[],0⟩],Yo (Yo s))
 else if (tk l s.at_).text=[123] then mT w l (Yo s) 6 [44] [125]
 else if (tk l s.at_).text=[91] then mT w l (Yo s) 7 [124] [93]
 else ((w l (Yo s)).1,Vr l (w l (Yo s)).2 [41])
end
def Xg:Nat→List Tok→St4→List Node×St4
 | 0,_,s=>([],s)
 | d+1,l,s =>
  if (Pk (Xg d) d l s).2.e≠0∨Tx l (Pk (Xg d) d l s).2.at_ [45,62]=false then Pk (Xg d) d l s
  else if d=0 then ([],Uc (Pk (Xg d) d l s).2 (Pk (Xg d) d l s).2.at_ 4)
  else (Ft (Pk (Xg d) d l s).1 (Xg d l (Yo (Pk (Xg d) d l s).2)).1,(Xg d l (Yo (Pk (Xg d) d l s).2)).2)
def Vu (l:List Tok) (i site level:Int):List Node×Int×List Site×Int×Int :=
 if i<0∨site<1∨level<1 then ([],0,[],0,1)
 else
  let at_:=if (l.length:Int)<i then (l.length:Int) else i
  let r:=Xg (101-level).toNat l ⟨at_,site,[],0⟩
  if r.2.e≠0 then ([],0,[],r.2.at_,r.2.e)
  else if 10000<r.1.length then ([],0,[],at_,3)
  else if Xz r.1=false then ([],0,[],at_,4)
  else (r.1,r.2.at_,r.2.sites,0,0)
theorem Qbc {x y:List UInt8}:Op.bytesLess x y=true↔x<y:=by rw [bytesLess_eq,decide_eq_true_eq]
theorem F7 {a b c:List UInt8} (h1:Op.bytesLess a b=true) (h2:Op.bytesLess b c=true):Op.bytesLess a c=true:=by
 rw [Qbc] at *;exact List.lt_trans h1 h2
theorem Dq (a:List UInt8):Op.bytesLess a a=false:=by
 rw [bytesLess_eq,decide_eq_false_iff_not];exact List.lt_irrefl a
theorem lE {a b:List UInt8} (h1:a≠b) (h2:Op.bytesLess b a=false):Op.bytesLess a b=true:=by
 have h:=less_not a b;rw [h2] at h;cases hb:Op.bytesLess a b with
 | true=>rfl
 | false=>rw [hb,Za.2 h1] at h;cases h
theorem Qa7 {s:List UInt8} (h:s≠[]):Op.bytesLess [] s=true:=lE (Ne.symm h) (Znl s)
def Zpr (labels:List (List UInt8)) (done:List UInt8) (f:Nat→Nat):Nat→Nat
 | 0=>0
 | k+1=>Zpr labels done f k+cond (Op.bytesLess done (labels.getD k [])) (f k) 0
theorem Ed (labels:List (List UInt8)) (done:List UInt8):∀ k,(Vk labels done k=-1∧∀ j,j<k→Op.bytesLess done (labels.getD j [])=false) ∨
  ∃ b,b<k∧Vk labels done k=(b:Int)∧Op.bytesLess done (labels.getD b [])=true∧∀ j,j<k→Op.bytesLess done (labels.getD j [])=true→Op.bytesLess (labels.getD j []) (labels.getD b [])=false
 | 0=>.inl ⟨rfl,by omega⟩
 | k+1=>by
  rw [Vk];cases hd:Op.bytesLess done (labels.getD k []) with
  | false =>
   rw [Bool.false_and,cond_false];rcases Ed labels done k with ⟨h1,h2⟩|⟨b,h1,h2,h3,h4⟩
   ·exact .inl ⟨h1,K6 h2 hd⟩
   ·refine .inr ⟨b,by omega,h2,h3,fun j hj hq=>?_⟩
    rcases Nat.lt_or_ge j k with h|h
    ·exact h4 j h hq
    ·have:j=k:=by omega
     subst this;rw [hd] at hq;cases hq
  | true =>
   rw [Bool.true_and];rcases Ed labels done k with ⟨h1,h2⟩|⟨b,h1,h2,h3,h4⟩
   ·rw [h1];refine .inr ⟨k,by omega,rfl,hd,fun j hj hq=>?_⟩
    rcases Nat.lt_or_ge j k with h|h
    ·rw [h2 j h] at hq;cases hq
    ·have:j=k:=by omega
     subst this;exact Dq _
   ·rw [h2,Zj];have hb0:X4 (b:Int) 0=false:=by rw [Qv];omega
    rw [hb0,Bool.false_or];cases hl:Op.bytesLess (labels.getD k []) (labels.getD b []) with
    | false =>
     refine .inr ⟨b,by omega,rfl,h3,fun j hj hq=>?_⟩
     rcases Nat.lt_or_ge j k with h|h
     ·exact h4 j h hq
     ·have:j=k:=by omega
      subst this;exact hl
    | true =>
     refine .inr ⟨k,by omega,rfl,hd,fun j hj hq=>?_⟩
     rcases Nat.lt_or_ge j k with h|h
     ·cases hz:Op.bytesLess (labels.getD j []) (labels.getD k []) with
      | false=>rfl
      | true =>
       have:=F7 hz hl;rw [h4 j h hq] at this;cases this
     ·have:j=k:=by omega
      subst this;exact Dq _
def vJ (labels:List (List UInt8)) (n:Nat):Prop:=∀ i j,i<n→j<n→labels.getD i []=labels.getD j []→i=j
theorem pS {labels:List (List UInt8)} {done:List UInt8} {b:Nat} (h3:Op.bytesLess done (labels.getD b [])=true) (f:Nat→Nat):∀ k,vJ labels (max k (b+1))→(∀ j,j<k→Op.bytesLess done (labels.getD j [])=true→Op.bytesLess (labels.getD j []) (labels.getD b [])=false) →
  Zpr labels done f k=Zpr labels (labels.getD b []) f k+(if b<k then f b else 0)
 | 0,_,_=>rfl
 | k+1,hA,h4=>by
  have ih:=pS h3 f k (fun i j hi hj=>hA i j (by omega) (by omega)) fun j hj=>h4 j (by omega)
  rw [Zpr,Zpr,ih];by_cases hkb:k=b
  ·subst hkb;rw [h3,Dq,if_neg (by omega),if_pos (by omega)]
   simp
  ·have e:Op.bytesLess done (labels.getD k [])=Op.bytesLess (labels.getD b []) (labels.getD k []):=by
    cases hd:Op.bytesLess done (labels.getD k []) with
    | true =>
     have h5:=h4 k (by omega) hd
     symm;refine lE (fun e=>?_) h5;have:=hA b k (by omega) (by omega) e
     omega
    | false =>
     cases hz:Op.bytesLess (labels.getD b []) (labels.getD k []) with
     | false=>rfl
     | true=>rw [F7 h3 hz] at hd;cases hd
   rw [e];by_cases hb:b<k
   ·rw [if_pos hb,if_pos (by omega)];omega
   ·rw [if_neg hb,if_neg (by omega)];omega
theorem Zaa {labels:List (List UInt8)} (f:Nat→Nat):∀ k,(∀ j,j<k→labels.getD j []≠[])→Zpr labels [] f k=((List.range k).map f).sum
 | 0,_=>rfl
 | k+1,h=>by
  rw [Zpr,Zaa f k fun j hj=>h j (by omega),Qa7 (h k (by omega)),List.range_succ,List.map_append,List.sum_append]
  simp
def Jw (g:Node→Nat) (t:List Node):Nat:=(t.map g).sum
def mM (g:Node→Nat):Prop:=∀ n s,g ⟨n.kind,s,n.n⟩=g n
theorem Zav (g:Node→Nat) (a b:List Node):Jw g (a++b)=Jw g a+Jw g b:=by unfold Jw;rw [List.map_append,List.sum_append]
theorem Zm3 {g:Node→Nat} (hg:mM g) (s:List UInt8) (t:List Node):Jw g (named s t)=Jw g t:=by
 cases t with
 | nil=>rfl
 | cons n t=>unfold Jw named;rw [List.map_cons,List.map_cons,hg]
theorem Zmf {labels:List (List UInt8)} {types:List (List Node)} {n:Nat} (hn:types.length=n) (hA:vJ labels n) {g:Node→Nat} (hg:mM g):∀ (k:Nat) (done:List UInt8) (out:List Node),Zpr labels done (fun _=>1) n=k →
  (fT labels types k done out).2=0∧Jw g (fT labels types k done out).1=Jw g out+Zpr labels done (fun j=>Jw g (types.getD j [])) n∧(out≠[]→(fT labels types k done out).1≠[])
 | 0,done,out,hk=>by
  refine ⟨rfl,?_,fun h=>h⟩;have:∀ (f:Nat→Nat) m,Zpr labels done (fun _=>1) m=0→Zpr labels done f m=0:=by
   intro f m
   induction m with
   | zero=>intro _;rfl
   | succ m ih =>
    intro h;rw [Zpr] at h ⊢;cases hb:Op.bytesLess done (labels.getD m []) with
    | true=>rw [hb,cond_true] at h;omega
    | false=>rw [cond_false,ih (by omega)]
  show Jw g out=_;rw [this _ n hk];rfl
 | k+1,done,out,hk=>by
  rw [fT,hn];rcases Ed labels done n with ⟨h1,h2⟩|⟨b,h1,h2,h3,h4⟩
  ·exfalso;have:∀ m,m≤n→Zpr labels done (fun _=>1) m=0:=by
    intro m
    induction m with
    | zero=>intro _;rfl
    | succ m ih=>intro hm;rw [Zpr,ih (by omega),h2 m (by omega)];rfl
   rw [this n (Zq _)] at hk;omega
  ·have hA':vJ labels (max n (b+1)):=fun i j hi hj=>hA i j (by omega) (by omega)
   have p1:=pS h3 (fun _=>1) n hA' h4;have p2:=pS h3 (fun j=>Jw g (types.getD j [])) n hA' h4;rw [if_pos h1] at p1 p2;rw [h2,Zj,if_neg (by omega)]
   obtain ⟨r1,r2,r3⟩:=Zmf hn hA hg k (labels.getD b []) (out++named (labels.getD b []) (types.getD b [])) (by omega)
   refine ⟨r1,?_,fun ho=>r3 (by simp [ho])⟩
   rw [r2,Zav,Zm3 hg];omega
theorem xT {s:List UInt8} (h:Wg s=true):s≠[]:=by rintro rfl;cases h
theorem Znt {s:List UInt8} (h:N8 s=true):s≠[]:=by rintro rfl;cases h
theorem Zui {f:List Node→Nat}:∀ (types:List (List Node)),((List.range types.length).map fun j=>f (types.getD j [])).sum=(types.map f).sum:=by
 intro types
 congr 1
 refine List.ext_getElem (by simp) fun j h1 h2=>?_
 simp at h1 h2;simp [h1]
theorem Zx8 {kind:Int} {labels:List (List UInt8)} {types:List (List Node)} (hk:kind=6∨kind=7) (hl:labels.length=types.length) (h50:types.length≤50) (h1:1≤types.length) (hA:vJ labels types.length)
  (hv:∀ j,j<types.length→V6 kind (labels.getD j [])=true) {g:Node→Nat} (hg:mM g) :
  (dJ kind labels types).2=0∧Jw g (dJ kind labels types).1=g ⟨kind,[],types.length⟩+(types.map (Jw g)).sum∧(dJ kind labels types).1≠[]:=by
 unfold dJ;rw [if_neg (by omega),if_neg (by rw [Uo hv];simp)]
 have hne:∀ j,j<types.length→labels.getD j []≠[]:=fun j hj=>by
  have:=hv j hj;unfold V6 at this;split at this
  ·exact Znt this
  ·exact xT this
 have hw:Zpr labels [] (fun _=>1) types.length=types.length:=by
  rw [Zaa _ _ hne];have:∀ n:Nat,((List.range n).map fun _=>1).sum=n:=by
   intro n
   induction n with
   | zero=>rfl
   | succ n ih=>rw [List.range_succ,List.map_append,List.sum_append,ih];rfl
  exact this _
 obtain ⟨r1,r2,r3⟩:=Zmf rfl hA hg types.length [] [⟨kind,[],types.length⟩] hw;refine ⟨r1,?_,r3 (by simp)⟩
 rw [r2,Zaa _ _ hne,Zui (f:=Jw g)];rfl
def Yh (z:Int) (n:Node):Nat:=if n.kind=0∧n.n=z then 1 else 0
theorem Zqq (z:Int):mM (Yh z):=fun _ _=>rfl
theorem rB:mM fun _=>1:=fun _ _=>rfl
theorem xY (t:List Node):Jw (fun _=>1) t=t.length:=by
 unfold Jw
 induction t with
 | nil=>rfl
 | cons n t ih=>rw [List.map_cons,List.sum_cons,ih,Zi];omega
structure Eats (l:List Tok) (s:St4) (r:List Node×St4):Prop where
 lo:0≤r.2.at_
 hi:r.2.at_≤l.length
 err:s.e≠0→r.2.e≠0
 len:(r.1.length:Int)≤l.length-s.at_
 ok:r.2.e=0→(r.1.length:Int)≤r.2.at_-s.at_∧r.2.at_≤l.length∧r.1≠[]
 sites:r.2.e=0→s.sites.length≤r.2.sites.length∧(r.2.sites.length:Int)≤s.sites.length+(r.2.at_-s.at_)∧r.2.site=s.site+(r.2.sites.length-s.sites.length)
 cnt:r.2.e=0→∀ z,Jw (Yh z) r.1=if s.site≤z∧z<r.2.site then 1 else 0
theorem Eats.bad {l:List Tok} {s:St4} {i e:Int} (h1:s.at_≤l.length) (h2:0≤i) (h3:e≠0) {q:St4} (hq:q.at_=i) (hq2:q.e=e) (h4:i≤l.length:=by omega):Eats l s ([],q) :=
 ⟨by rw [hq];exact h2,by rw [hq];exact h4,fun _=>by rw [hq2];exact h3,by show (0:Int)≤_;omega,fun h=>absurd h (by rw [hq2];exact h3),fun h=>absurd h (by rw [hq2];exact h3),fun h=>absurd h (by rw [hq2];exact h3)⟩
theorem Dv {l:List Tok} {i:Int} {x:List UInt8} (h:Tx l i x=true):i<l.length:=by
 unfold Tx at h;rw [Zg,Jf] at h;exact h.1
theorem Nx (l:List Tok) (s:St4) (x:List UInt8):(s.e≠0∧Vr l s x=s)∨(s.e=0∧Vr l s x=Uc s s.at_ 2)∨(s.e=0∧Tx l s.at_ x=true∧Vr l s x=Yo s):=by
 unfold Vr;by_cases h:s.e=0
 ·rw [if_neg (by simpa using h)]
  cases hi:Tx l s.at_ x with
  | false=>exact .inr (.inl ⟨h,if_pos rfl⟩)
  | true=>exact .inr (.inr ⟨h,rfl,if_neg (by simp)⟩)
 ·exact .inl ⟨h,if_pos h⟩
structure Had4 (l:List Tok) (kind:Int) (a s:St4) (labels:List (List UInt8)) (types:List (List Node)):Prop where
 e:s.e=0
 hi:s.at_≤l.length
 lo:0≤a.at_
 len:1+((types.map List.length).sum:Int)≤s.at_-a.at_
 s1:a.sites.length≤s.sites.length
 s2:(s.sites.length:Int)≤a.sites.length+(s.at_-a.at_)
 s3:s.site=a.site+(s.sites.length-a.sites.length)
 cnt:∀ z,(types.map (Jw (Yh z))).sum=if a.site≤z∧z<s.site then 1 else 0
 ll:labels.length=types.length
 apart:vJ labels labels.length
 ok:∀ j,j<labels.length→V6 kind (labels.getD j [])=true
theorem Qas (types:List (List Node)):(types.map (Jw fun _=>1)).sum=(types.map List.length).sum:=by
 congr 1
 exact List.map_congr_left fun t _=>xY t
theorem aI {a b c z:Int} (h1:a≤b) (h2:b≤c):((if a≤z∧z<b then 1 else 0)+(if b≤z∧z<c then 1 else 0):Nat)=if a≤z∧z<c then 1 else 0:=by
 by_cases h3:a≤z∧z<b
 ·rw [if_pos h3,if_neg (by omega),if_pos (by omega)]
 ·rw [if_neg h3];by_cases h4:b≤z∧z<c
  ·rw [if_pos h4,if_pos (by omega)]
  ·rw [if_neg h4,if_neg (by omega)]
theorem Zsa {labels:List (List UInt8)} {x:List UInt8} (h:vJ labels labels.length) (hx:(labels.any fun y=>y==x)=false):vJ (labels++[x]) (labels++[x]).length:=by
 rw [List.any_eq_false] at hx;have hno:∀ i,i<labels.length→labels.getD i []≠x:=fun i hi e=>by
  have:=hx (labels.getD i []) (by simp [hi])
  rw [e,beq_self_eq_true] at this;exact this rfl
 have g1:∀ i,i<labels.length→(labels++[x]).getD i []=labels.getD i []:=fun i hi=>by simp [Zd,List.getElem?_append_left hi]
 have g2:(labels++[x]).getD labels.length []=x:=by simp
 intro i j hi hj hij;rw [Zf,List.length_singleton] at hi hj;rcases Nat.lt_or_ge i labels.length with h1|h1
 ·rcases Nat.lt_or_ge j labels.length with h2|h2
  ·rw [g1 i h1,g1 j h2] at hij;exact h i j h1 h2 hij
  ·have:j=labels.length:=by omega
   subst this;rw [g1 i h1,g2] at hij;exact absurd hij (hno i h1)
 ·have e1:i=labels.length:=by omega
  subst e1;rcases Nat.lt_or_ge j labels.length with h2|h2
  ·rw [g1 j h2,g2] at hij;exact absurd hij.symm (hno j h2)
  ·omega
theorem Zzq {l:List Tok} {kind:Int} (hk:kind=6∨kind=7) {s:St4} (h:oY l kind s=false):s.at_<l.length∧V6 kind (tk l s.at_).text=true:=by
 unfold oY at h;have h1:Xf l.length s.at_=false:=by
  cases hb:Xf l.length s.at_ with
  | false=>rfl
  | true=>rw [hb,Bool.true_or] at h;cases h
 rw [h1,Bool.false_or,Bool.or_eq_false_iff,Bool.or_eq_false_iff] at h;refine ⟨by rw [←Bool.not_eq_true,Qx] at h1;omega,?_⟩
 unfold V6 wC at *;rcases hk with rfl|rfl
 ·rw [if_neg (by decide)] at h ⊢
  have:=h.2.1;simpa using this
 ·rw [if_pos rfl] at h ⊢;have:=h.2.2;simpa using this
section
variable {w:List Tok→St4→List Node×St4} {l:List Tok}
theorem mJ (hw:∀ s:St4,0≤s.at_→s.at_≤l.length→Eats l s (w l s)) {kind:Int} (hk:kind=6∨kind=7) {between fin:List UInt8} {a:St4} (ha:a.e=0):∀ (f:Nat) (s:St4) (labels:List (List UInt8)) (types:List (List Node)),
  Had4 l kind a s labels types→labels.length≤50→f+labels.length=51→Eats l a (Tp w l kind between fin f s labels types)
 | 0,s,labels,types,h,h51,hf=>by omega
 | f+1,s,labels,types,h,h51,hf=>by
  have hlo:=h.lo;have hhi:=h.hi;have hsum:=h.len;have hs1:a.at_≤l.length:=by omega
  have h0:0≤s.at_:=by omega
  rw [Tp];cases hb:oY l kind s with
  | true=>rw [if_pos rfl];exact Eats.bad (e:=2) hs1 h0 (by decide) rfl rfl
  | false =>
  rw [if_neg (by simp)]
  obtain ⟨hlt,hlab⟩:=Zzq hk hb;cases hany:labels.any fun x=>x==(tk l s.at_).text with
  | true=>rw [if_pos rfl];exact Eats.bad (e:=7) hs1 h0 (by decide) rfl rfl
  | false =>
  rw [if_neg (by simp)]
  by_cases h50:labels.length=50
  ·rw [if_pos h50];exact Eats.bad (e:=3) hs1 h0 (by decide) rfl rfl
  rw [if_neg h50];have hA:(Yo s).at_=s.at_+1:=rfl;have hAe:(Yo s).e=0:=h.e;have hAs:(Yo s).sites=s.sites:=rfl;have hAi:(Yo s).site=s.site:=rfl;obtain ⟨N,hN⟩:=exq (Vr l (Yo s) [58]);have hc:=Nx l (Yo s) [58];rw [hN] at hc ⊢;have hNat:0≤N.at_∧N.at_≤l.length:=by
   rcases hc with ⟨h1,_⟩|⟨_,h2⟩|⟨_,h2,h3⟩
   ·exact absurd hAe h1
   ·rw [h2];exact ⟨by show 0≤(Yo s).at_;omega,by show (Yo s).at_≤_;omega⟩
   ·have:=Dv h2;rw [h3];exact ⟨by show 0≤(Yo s).at_+1;omega,by show (Yo s).at_+1≤_;omega⟩
  have hE:=hw N hNat.1 hNat.2;obtain ⟨r,hr⟩:=exq (w l N);rw [hr] at hE ⊢;by_cases hre:r.2.e=0
  case neg=>rw [if_pos hre];exact Eats.bad hs1 hE.lo hre rfl rfl hE.hi
  rw [if_neg (by simpa using hre)]
  have hNe:N.e=0:=Classical.byContradiction fun e=>hE.err e hre;have hN3:Tx l (Yo s).at_ [58]=true∧N=Yo (Yo s):=by
   rcases hc with ⟨h1,_⟩|⟨_,h2⟩|⟨_,h2,h3⟩
   ·exact absurd hAe h1
   ·rw [h2] at hNe;exact absurd hNe (by show (2:Int)≠0;decide)
   ·exact ⟨h2,h3⟩
  have e1:N.at_=s.at_+2:=by rw [hN3.2];show s.at_+1+1=_;omega
  have e2:N.sites=s.sites:=by rw [hN3.2];rfl
  have e3:N.site=s.site:=by rw [hN3.2];rfl
  obtain ⟨k1,k2,k3⟩:=hE.ok hre;obtain ⟨g1,g2,g3⟩:=hE.sites hre;have g4:=hE.cnt hre;rw [e1] at k1;rw [e2] at g1 g2 g3;rw [e1] at g2;rw [e3] at g3 g4;have m1:=h.s1;have m2:=h.s2;have m3:=h.s3;have hsl:((types++[r.1]).map List.length).sum=(types.map List.length).sum+r.1.length:=by simp
  have hH:Had4 l kind a r.2 (labels++[(tk l s.at_).text]) (types++[r.1]):=by
   refine ⟨hre,k2,hlo,?_,by omega,by omega,by omega,fun z=>?_,by simp [h.ll],Zsa h.apart hany,fun j hj=>?_⟩
   ·rw [hsl];omega
   ·rw [List.map_append,List.sum_append,h.cnt,List.map_singleton,List.sum_singleton,g4];exact aI (by omega) (by omega)
   ·rw [Zf,List.length_singleton] at hj;rcases Nat.lt_or_ge j labels.length with h1|h1
    ·have:(labels++[(tk l s.at_).text]).getD j []=labels.getD j []:=by simp [Zd,List.getElem?_append_left h1]
     rw [this];exact h.ok j h1
    ·have:j=labels.length:=by omega
     subst this;have:(labels++[(tk l s.at_).text]).getD labels.length []=(tk l s.at_).text:=by simp
     rw [this];exact hlab
  have hll:(labels++[(tk l s.at_).text]).length=(types++[r.1]).length:=hH.ll;have hllen:(labels++[(tk l s.at_).text]).length=labels.length+1:=by simp
  cases hbt:Tx l r.2.at_ between with
  | false =>
   rw [if_pos rfl];have hR:=fun {g:Node→Nat} (hg:mM g)=>Zx8 (labels:=labels++[(tk l s.at_).text]) (types:=types++[r.1]) hk hll (by omega) (by omega) (by rw [←hll];exact hH.apart) (by rw [←hll];exact hH.ok) hg
   have hone:=(hR rB).2.1;rw [xY,Qas,hsl] at hone;obtain ⟨row,hrow⟩:=exq (dJ kind (labels++[(tk l s.at_).text]) (types++[r.1]));rw [hrow] at hone ⊢;have hz:=fun z=>(hR (Zqq z)).2.1;rw [hrow] at hz;have hne:=(hR rB).2.2;rw [hrow] at hne;have hdk:∀ z,Yh z ⟨kind,[],(types++[r.1]).length⟩=0:=by
    intro z;unfold Yh;rw [if_neg (by intro hh;simp only at hh;omega)]
   have hcz:=fun z=>hH.cnt z;rcases Nx l r.2 fin with ⟨q1,q2⟩|⟨q1,q2⟩|⟨q1,q2,q3⟩
   ·exact absurd hre q1
   ·rw [q2];refine ⟨hE.lo,hE.hi,fun _=>by show (2:Int)≠0;decide,by show (row.1.length:Int)≤_;omega,fun h=>absurd h (by show (2:Int)≠0;decide),fun h=>absurd h (by show (2:Int)≠0;decide),fun h=>absurd h (by show (2:Int)≠0;decide)⟩
   ·have q4:=Dv q2;rw [q3];refine ⟨by show 0≤r.2.at_+1;have:=hE.lo;omega,by show r.2.at_+1≤_;omega,fun h=>absurd ha h,by show (row.1.length:Int)≤_;omega,fun _=>⟨by show (row.1.length:Int)≤r.2.at_+1-a.at_;omega,by show r.2.at_+1≤_;omega,hne⟩,fun _=>⟨hH.s1,by show (r.2.sites.length:Int)≤_+(r.2.at_+1-a.at_);have:=hH.s2;omega,hH.s3⟩,fun _ z=>?_⟩
    show Jw (Yh z) row.1=_;rw [hz z,hdk,Nat.zero_add];exact hcz z
  | true =>
   rw [if_neg (by simp)]
   have q4:=Dv hbt;refine mJ hw hk ha f (Yo r.2) _ _ ?_ (by rw [hllen];omega) (by rw [hllen];omega)
   exact ⟨hre,by show r.2.at_+1≤_;omega,hlo,by show _≤r.2.at_+1-a.at_;have:=hH.len;omega,hH.s1,by show (r.2.sites.length:Int)≤_+(r.2.at_+1-a.at_);have:=hH.s2;omega,hH.s3,hH.cnt,hH.ll,hH.apart,hH.ok⟩
theorem yN {d:Nat} (hw:d≠0→∀ s:St4,0≤s.at_→s.at_≤l.length→Eats l s (w l s)) {s:St4} (h0:0≤s.at_) (hL:s.at_≤l.length):Eats l s (Pk w d l s):=by
 unfold Pk;by_cases he:s.e=0
 case neg=>rw [if_pos he];exact Eats.bad hL h0 he rfl rfl
 rw [if_neg (by simpa using he)]
 by_cases hlt:(l.length:Int)≤s.at_
 ·rw [if_pos hlt];exact Eats.bad (e:=2) hL (show (0:Int)≤l.length by omega) (by decide) rfl rfl (Int.le_refl _)
 rw [if_neg hlt];have hz:∀ (k:Int) z,k≠0→Jw (Yh z) [⟨k,[],0⟩]=0:=by
  intro k z hk;unfold Jw Yh;simp [hk]
 cases h1:Tx l s.at_ [63] with
 | true =>
  rw [if_pos rfl];refine ⟨by show 0≤s.at_+1;omega,by show s.at_+1≤(l.length:Int);omega,fun h=>absurd he h,by show (1:Int)≤_;omega,fun _=>⟨by show (1:Int)≤s.at_+1-s.at_;omega,by show s.at_+1≤_;omega,by simp⟩,fun _=>⟨by show _≤(s.sites++_).length;simp,by show ((s.sites++_).length:Int)≤_+(s.at_+1-s.at_);simp;omega,by show s.site+1=s.site+(((s.sites++_).length:Int)-_);simp;omega⟩,fun _ z=>?_⟩
  show Jw (Yh z) [⟨0,[],s.site⟩]=if s.site≤z∧z<s.site+1 then 1 else 0
  unfold Jw Yh;simp only [List.map_cons,List.map_nil,List.sum_cons,List.sum_nil,true_and,Nat.add_zero];by_cases hq:s.site=z
  ·rw [if_pos hq,if_pos (by omega)]
  ·rw [if_neg hq,if_neg (by omega)]
 | false =>
 rw [if_neg (by simp)]
 have hone:∀ (k n:Int) (q:St4),k≠0→q.e=0→s.at_<q.at_→q.at_≤l.length→q.sites=s.sites→q.site=s.site→Eats l s ([⟨k,[],n⟩],q):=by
  intro k n q hk hq1 hq2 hq3 hq4 hq5;refine ⟨by show 0≤q.at_;omega,hq3,fun h=>absurd he h,by show (1:Int)≤_;omega,fun _=>⟨by show (1:Int)≤q.at_-s.at_;omega,hq3,by simp⟩,fun _=>⟨by show _≤q.sites.length;rw [hq4];omega,by show (q.sites.length:Int)≤_+(q.at_-s.at_);rw [hq4];omega,by show q.site=s.site+((q.sites.length:Int)-_);rw [hq4,hq5];omega⟩,fun _ z=>?_⟩
  show Jw (Yh z) [⟨k,[],n⟩]=if s.site≤z∧z<q.site then 1 else 0
  rw [if_neg (by omega)]
  unfold Jw Yh;simp [hk]
 by_cases hb:0≤eY (tk l s.at_)
 ·rw [if_pos hb];refine hone _ _ _ ?_ he (by show s.at_<s.at_+1;omega) (by show s.at_+1≤_;omega) rfl rfl
  unfold eY at hb ⊢;repeat' split
  all_goals first|decide|(exfalso;simp_all;done)
 rw [if_neg hb];by_cases ho:Tx l s.at_ [40]=false∧Tx l s.at_ [123]=false∧Tx l s.at_ [91]=false
 ·rw [if_pos ho];exact Eats.bad (e:=2) hL h0 (by decide) rfl rfl
 rw [if_neg ho];by_cases hd:d=0
 ·rw [if_pos hd];exact Eats.bad (e:=4) hL h0 (by decide) rfl rfl
 rw [if_neg hd];have hw':=hw hd;by_cases hr:(tk l s.at_).text=[123]∧Tx l (s.at_+1) [125]=true
 ·rw [if_pos hr];have:=Dv hr.2;exact hone _ _ _ (by decide) he (by show s.at_<s.at_+1+1;omega) (by show s.at_+1+1≤_;omega) rfl rfl
 rw [if_neg hr];have hH:∀ kind,Had4 l kind s (Yo s) [] []:=fun kind=>⟨he,by show s.at_+1≤_;omega,h0,by show (1:Int)+0≤s.at_+1-s.at_;omega,Zq _,by show (s.sites.length:Int)≤_+(s.at_+1-s.at_);omega,by show s.site=s.site+((s.sites.length:Int)-_);omega,
  fun z=>by show 0=if s.site≤z∧z<s.site then 1 else 0;rw [if_neg (by omega)],rfl,fun i j hi=>absurd hi (by simp),fun j hj=>absurd hj (by simp)⟩
 by_cases h123:(tk l s.at_).text=[123]
 ·rw [if_pos h123];exact mJ hw' (.inl rfl) he 51 (Yo s) [] [] (hH 6) (by simp) rfl
 rw [if_neg h123];by_cases h91:(tk l s.at_).text=[91]
 ·rw [if_pos h91];exact mJ hw' (.inr rfl) he 51 (Yo s) [] [] (hH 7) (by simp) rfl
 rw [if_neg h91];have hE:=hw' (Yo s) (by show 0≤s.at_+1;omega) (by show s.at_+1≤_;omega)
 obtain ⟨r,hrr⟩:=exq (w l (Yo s));rw [hrr] at hE ⊢;have e1:(Yo s).at_=s.at_+1:=rfl;have e2:(Yo s).sites=s.sites:=rfl;have e3:(Yo s).site=s.site:=rfl;have hlen:=hE.len;rw [e1] at hlen;rcases Nx l r.2 [41] with ⟨q1,q2⟩|⟨q1,q2⟩|⟨q1,q2,q3⟩
 ·rw [q2];exact ⟨hE.lo,hE.hi,fun h=>absurd he h,by show (r.1.length:Int)≤_;omega,fun h=>absurd h q1,fun h=>absurd h q1,fun h=>absurd h q1⟩
 ·rw [q2];exact ⟨hE.lo,hE.hi,fun h=>absurd he h,by show (r.1.length:Int)≤_;omega,fun h=>absurd h (by show (2:Int)≠0;decide),fun h=>absurd h (by show (2:Int)≠0;decide),fun h=>absurd h (by show (2:Int)≠0;decide)⟩
 ·rw [q3];have q4:=Dv q2;obtain ⟨k1,k2,k3⟩:=hE.ok q1;obtain ⟨g1,g2,g3⟩:=hE.sites q1;have g4:=hE.cnt q1;rw [e1] at k1 g2;rw [e2] at g1 g2 g3;rw [e3] at g3 g4;exact ⟨by show 0≤r.2.at_+1;have:=hE.lo;omega,by show r.2.at_+1≤(l.length:Int);omega,fun h=>absurd he h,by show (r.1.length:Int)≤_;omega,fun _=>⟨by show (r.1.length:Int)≤r.2.at_+1-s.at_;omega,by show r.2.at_+1≤_;omega,k3⟩,fun _=>⟨g1,by show (r.2.sites.length:Int)≤_+(r.2.at_+1-s.at_);omega,g3⟩,fun _=>g4⟩
end
theorem Zz4 (g:Node→Nat) (a b:List Node):Jw g (Ft a b)=g ⟨5,[],0⟩+Jw g a+Jw g b:=by
 unfold Ft Jw;rw [List.map_cons,List.sum_cons,List.map_append,List.sum_append];omega
theorem Nl {l:List Tok}:∀ (d:Nat) (s:St4),d≠0→0≤s.at_→s.at_≤l.length→Eats l s (Xg d l s)
 | 0,s,h,_,_=>absurd rfl h
 | d+1,s,_,h0,hL=>by
  have hA:=yN (w:=Xg d) (d:=d) (fun hd s' h1 h2=>Nl d s' hd h1 h2) h0 hL;rw [Xg];obtain ⟨r,hr⟩:=exq (Pk (Xg d) d l s);rw [hr] at hA ⊢;by_cases h1:r.2.e≠0∨Tx l r.2.at_ [45,62]=false
  ·rw [if_pos h1];exact hA
  rw [if_neg h1];have hre:r.2.e=0:=Classical.byContradiction fun e=>h1 (.inl e);have his:Tx l r.2.at_ [45,62]=true:=by
   cases hb:Tx l r.2.at_ [45,62] with
   | true=>rfl
   | false=>exact absurd (.inr hb) h1
  have hlt:=Dv his;obtain ⟨k1,k2,k3⟩:=hA.ok hre;obtain ⟨g1,g2,g3⟩:=hA.sites hre;have g4:=hA.cnt hre;have hse:s.e=0:=Classical.byContradiction fun e=>hA.err e hre;have hlo:=hA.lo;by_cases hd:d=0
  ·rw [if_pos hd];exact Eats.bad (e:=4) hL hlo (by decide) rfl rfl hA.hi
  rw [if_neg hd];have hB:=Nl d (Yo r.2) hd (by show 0≤r.2.at_+1;omega) (by show r.2.at_+1≤(l.length:Int);omega)
  obtain ⟨q,hq⟩:=exq (Xg d l (Yo r.2));rw [hq] at hB ⊢;have hlen:=hB.len;have e1:(Yo r.2).at_=r.2.at_+1:=rfl;have e2:(Yo r.2).sites=r.2.sites:=rfl;have e3:(Yo r.2).site=r.2.site:=rfl;rw [e1] at hlen;have hal:((Ft r.1 q.1).length:Int)=r.1.length+q.1.length+1:=by unfold Ft;simp
  refine ⟨hB.lo,hB.hi,fun h=>absurd hse h,by show ((Ft r.1 q.1).length:Int)≤l.length-s.at_;omega,fun hqe=>?_,fun hqe=>?_,fun hqe z=>?_⟩
  ·obtain ⟨j1,j2,j3⟩:=hB.ok hqe;rw [e1] at j1;exact ⟨by show ((Ft r.1 q.1).length:Int)≤q.2.at_-s.at_;omega,j2,by unfold Ft;simp⟩
  ·obtain ⟨j1,j2,j3⟩:=hB.sites hqe;rw [e2] at j1 j2 j3;rw [e1] at j2;rw [e3] at j3;have j5:=(hB.ok hqe).2.1;exact ⟨by show s.sites.length≤q.2.sites.length;omega,by show (q.2.sites.length:Int)≤s.sites.length+(q.2.at_-s.at_);omega,by show q.2.site=s.site+((q.2.sites.length:Int)-s.sites.length);omega⟩
  ·obtain ⟨j1,j2,j3⟩:=hB.sites hqe;have j4:=hB.cnt hqe;rw [e3] at j4 j3;rw [e2] at j1 j3;show Jw (Yh z) (Ft r.1 q.1)=_;rw [Zz4,g4,j4];have:Yh z ⟨5,[],0⟩=0:=by unfold Yh;rw [if_neg (fun h=>absurd h.1 (by decide))]
   rw [this,Nat.zero_add];exact aI (by omega) (by omega)
theorem Zyv {a b:UInt8}:X4 (a.toNat:Int) (b.toNat:Int)=decide (a<b):=by
 unfold X4
 congr 1
 rw [UInt8.lt_iff_toNat_lt];exact propext (by omega)
theorem Zz1:D.int .u8 128=enc (128:UInt8):=rfl
theorem Zzw:D.int .u8 191=enc (191:UInt8):=rfl
theorem Zzx:D.int .u8 160=enc (160:UInt8):=rfl
theorem Zzy:D.int .u8 159=enc (159:UInt8):=rfl
theorem Zzz:D.int .u8 144=enc (144:UInt8):=rfl
theorem Zz0:D.int .u8 143=enc (143:UInt8):=rfl
theorem Zzv:D.int .u8 194=enc (194:UInt8):=rfl
theorem Zzu:D.int .u8 223=enc (223:UInt8):=rfl
theorem Zzt:D.int .u8 224=enc (224:UInt8):=rfl
theorem Zzs:D.int .u8 239=enc (239:UInt8):=rfl
theorem Zzr:D.int .u8 240=enc (240:UInt8):=rfl
theorem Qge:D.int .u8 102=enc (102:UInt8):=rfl
theorem Zo7:D.int .u8 244=enc (244:UInt8):=rfl
def cL:Con:=Xc (fun (s:List UInt8) (i:Int)=>s.length≤1000000∧0≤i∧i<s.length) (fun s i=>(gN s i.toNat:Int))
structure Kdw:Prop
theorem Kdw.k (_:Kdw) (h:p:=by
 repeat' first|exact Z8|with_reducible apply Zb|intro _
 all_goals first|with_reducible exact Jd|omega|(rw [Xr];omega)|(symm;rw [←hR2];clear hR2 Qc K;simp_all;done)|(rw [←hR2];clear hR2 Qc K;simp_all;done)|skip):p:=h
structure Kdx:Prop
theorem Kdx.k (_:Kdx) (h:p:=by
 repeat' first|exact Z8|with_reducible apply Zb|intro _
 all_goals first|with_reducible exact Jd|omega|(rw [Xr];omega)|(symm;rw [←hR2];clear hR2 Qc K;simp_all;done)|(rw [←hR2];clear hR2 Qc K;simp_all;done)|skip):p:=h
structure Kdy:Prop
theorem Kdy.k (_:Kdy) (h:p:=by
 repeat' first|exact Z8|with_reducible apply Zb|intro _
 all_goals first|with_reducible exact Jd|omega|(rw [Xr];omega)|(symm;rw [←hR2];clear hR2 Qc K;simp_all;done)|(rw [←hR2];clear hR2 Qc K;simp_all;done)|skip):p:=h
structure Kdz:Prop
theorem Kdz.k (_:Kdz) (h:p:=by
 repeat' first|exact Z8|with_reducible apply Zb|intro _
 all_goals first|with_reducible exact Jd|omega|(rw [Xr];omega)|(symm;rw [←hR2];clear hR2 Qc K;simp_all;done)|(rw [←hR2];clear hR2 Qc K;simp_all;done)|skip):p:=h
structure KdA:Prop
theorem KdA.k (_:KdA) (h:p:=by
 repeat' first|exact Z8|with_reducible apply Zb|intro _
 all_goals first|with_reducible exact Jd|omega|(rw [Xr];omega)|(symm;rw [←hR2];clear hR2 Qc K;simp_all;done)|(rw [←hR2];clear hR2 Qc K;simp_all;done)|skip):p:=h
theorem good_Long1:Qa Tryz.prog (218,cL):=by
 obtain ⟨Kx,Kt,Kc,Kd,Kb,Ku,Kw,K,X9,Uv,_⟩:=Xe Zv Zn [] false (Q0 good_within pN (Q0 Zrb cB.eq_def Xd));have Ko:=cL.eq_def;refine Xj K Tryz.func218 [.tmp 4] rfl 67 rfl (fun c hc cvs hpre=>?_);unfold cL at hpre;obtain ⟨s,i,rfl,hs,hi0,hi1⟩:=Ql hpre;obtain ⟨i,rfl⟩:∃ n:Nat,i=n:=⟨i.toNat,by omega⟩
 have Qb:X4 (i:Int) (s.length:Int)=true:=by rw [Jf];exact hi1
 clear hpre;obtain ⟨R,Qc⟩:=exq (gN s i);have hR2:=Qc;unfold gN Zqv at hR2;obtain ⟨c,Qf⟩:=exq (s.getD i 0);rw [Qf] at hR2;have Z9:X4 (c.toNat:Int) 128=decide (c<128):=Zyv (b:=128);have Qh:((c.toNat:Int)==224)=(c==224):=Nk (b:=224);have Qn:((c.toNat:Int)==237)=(c==237):=Nk (b:=237);have Q6:((c.toNat:Int)==240)=(c==240):=Nk (b:=240);have Je:((c.toNat:Int)==244)=(c==244):=Nk (b:=244);have Q4:X4 (c.toNat:Int) ((128:UInt8).toNat:Int)=decide (c<128):=Zyv;have Zu:((c.toNat:Int)==((224:UInt8).toNat:Int))=(c==224):=Nk;have Zx:((c.toNat:Int)==((240:UInt8).toNat:Int))=(c==240):=Nk;by_cases h128:c<128
 ·rw [if_pos h128] at hR2;subst hR2;have Qe:decide (c<128)=true:=decide_eq_true h128;cases hc;refine Y4 4 ?_;exact N9
 rw [if_neg h128] at hR2;have Qe:decide (c<128)=false:=decide_eq_false h128;obtain ⟨p2,Z1⟩:=exq (Xx c 194 223);obtain ⟨q2,Z0⟩:=exq (Lg s ((i:Int)+1) 128 191);obtain ⟨p3,Qi⟩:=exq (Xx c 224 239);obtain ⟨r3,Qk⟩:=exq (Lg s ((i:Int)+2) 128 191);obtain ⟨p4,Qs⟩:=exq (Xx c 240 244);obtain ⟨t4,Q8⟩:=exq (Lg s ((i:Int)+3) 128 191);rw [Z1,Z0,Qi,Qk,Qs,Q8] at hR2;by_cases h224:c=224
 ·have Zw:(c==224)=true:=Zk.2 h224;have Zz:(c==237)=false:=Za.2 (by rw [h224];decide)
  have Zy:(c==240)=false:=Za.2 (by rw [h224];decide)
  have Qd:(c==244)=false:=Za.2 (by rw [h224];decide)
  rw [if_pos h224] at hR2;rw [if_neg (show ¬ c=237 by rw [h224];decide)] at hR2
  rw [if_neg (show ¬ c=240 by rw [h224];decide)] at hR2
  rw [if_neg (show ¬ c=244 by rw [h224];decide)] at hR2
  obtain ⟨q3,Q5⟩:=exq (Lg s ((i:Int)+1) 160 191);rw [Q5] at hR2;try rw [Z0] at hR2
  cases hc;refine Y4 4 ?_;have Jh:=@vK.eq_def;have Jg:=@Zz1;have Wb:=@Zzw;have Wn:=@Zzx;have Wx:=@Zzy;have W0:=@Zzz;have Wz:=@Zz0;have Gb:=@Zzv;have Ga:=@Zzu;have H3:=@Zzt;have H2:=@Zzs;have Hq:=@Zzr;have Hp:=@Zo7;have Kq:Kdw:=⟨⟩;exact Y6
 by_cases h237:c=237
 ·have Zw:(c==224)=false:=Za.2 (by rw [h237];decide)
  have Zz:(c==237)=true:=Zk.2 h237;have Zy:(c==240)=false:=Za.2 (by rw [h237];decide)
  have Qd:(c==244)=false:=Za.2 (by rw [h237];decide)
  rw [if_neg (show ¬ c=224 by rw [h237];decide)] at hR2
  rw [if_pos h237] at hR2;rw [if_neg (show ¬ c=240 by rw [h237];decide)] at hR2
  rw [if_neg (show ¬ c=244 by rw [h237];decide)] at hR2
  obtain ⟨q3,Q5⟩:=exq (Lg s ((i:Int)+1) 128 159);rw [Q5] at hR2;try rw [Z0] at hR2
  cases hc;refine Y4 4 ?_;have Jh:=@vK.eq_def;have Jg:=@Zz1;have Wb:=@Zzw;have Wn:=@Zzx;have Wx:=@Zzy;have W0:=@Zzz;have Wz:=@Zz0;have Gb:=@Zzv;have Ga:=@Zzu;have H3:=@Zzt;have H2:=@Zzs;have Hq:=@Zzr;have Hp:=@Zo7;have Kq:Kdx:=⟨⟩;exact Y6
 by_cases h240:c=240
 ·have Zw:(c==224)=false:=Za.2 (by rw [h240];decide)
  have Zz:(c==237)=false:=Za.2 (by rw [h240];decide)
  have Zy:(c==240)=true:=Zk.2 h240;have Qd:(c==244)=false:=Za.2 (by rw [h240];decide)
  rw [if_neg (show ¬ c=224 by rw [h240];decide)] at hR2
  rw [if_neg (show ¬ c=237 by rw [h240];decide)] at hR2
  rw [if_pos h240] at hR2;rw [if_neg (show ¬ c=244 by rw [h240];decide)] at hR2
  obtain ⟨q4,Qy⟩:=exq (Lg s ((i:Int)+1) 144 191);rw [Qy] at hR2;try rw [Z0] at hR2
  cases hc;refine Y4 4 ?_;have Jh:=@vK.eq_def;have Jg:=@Zz1;have Wb:=@Zzw;have Wn:=@Zzx;have Wx:=@Zzy;have W0:=@Zzz;have Wz:=@Zz0;have Gb:=@Zzv;have Ga:=@Zzu;have H3:=@Zzt;have H2:=@Zzs;have Hq:=@Zzr;have Hp:=@Zo7;have Kq:Kdy:=⟨⟩;exact Y6
 by_cases h244:c=244
 ·have Zw:(c==224)=false:=Za.2 (by rw [h244];decide)
  have Zz:(c==237)=false:=Za.2 (by rw [h244];decide)
  have Zy:(c==240)=false:=Za.2 (by rw [h244];decide)
  have Qd:(c==244)=true:=Zk.2 h244;rw [if_neg (show ¬ c=224 by rw [h244];decide)] at hR2
  rw [if_neg (show ¬ c=237 by rw [h244];decide)] at hR2
  rw [if_neg (show ¬ c=240 by rw [h244];decide)] at hR2
  rw [if_pos h244] at hR2;obtain ⟨q4,Qy⟩:=exq (Lg s ((i:Int)+1) 128 143);rw [Qy] at hR2;try rw [Z0] at hR2
  cases hc;refine Y4 4 ?_;have Jh:=@vK.eq_def;have Jg:=@Zz1;have Wb:=@Zzw;have Wn:=@Zzx;have Wx:=@Zzy;have W0:=@Zzz;have Wz:=@Zz0;have Gb:=@Zzv;have Ga:=@Zzu;have H3:=@Zzt;have H2:=@Zzs;have Hq:=@Zzr;have Hp:=@Zo7;have Kq:Kdz:=⟨⟩;exact Y6
 have Zw:(c==224)=false:=Za.2 h224;have Zz:(c==237)=false:=Za.2 h237;have Zy:(c==240)=false:=Za.2 h240;have Qd:(c==244)=false:=Za.2 h244;rw [if_neg h224] at hR2;rw [if_neg h237] at hR2;rw [if_neg h240] at hR2;rw [if_neg h244] at hR2;try rw [Z0] at hR2
 cases hc;refine Y4 4 ?_;have Jh:=@vK.eq_def;have Jg:=@Zz1;have Wb:=@Zzw;have Wn:=@Zzx;have Wx:=@Zzy;have W0:=@Zzz;have Wz:=@Zz0;have Gb:=@Zzv;have Ga:=@Zzu;have H3:=@Zzt;have H2:=@Zzs;have Hq:=@Zzr;have Hp:=@Zo7;have Kq:KdA:=⟨⟩;exact Y6
theorem Za2 {n:Int}:vV .u8 n↔0≤n∧n≤255:=by
 unfold vV;have h1:IntKind.min .u8=0:=by decide
 have h2:IntKind.max .u8=255:=by decide
 rw [h1,h2]
def T9:Con:=J7 (fun (_:UInt8)=>True) (fun c=>oE c)
structure KdB:Prop
theorem KdB.k (_:KdB) (h:p:=by
 repeat' first|exact Z8|with_reducible apply Zb|intro _
 all_goals first|omega|(rw [Za2];omega)|skip):p:=h
structure KdC:Prop
theorem KdC.k (_:KdC) (h:p:=by
 repeat' first|exact Z8|with_reducible apply Zb|intro _
 all_goals first|omega|(rw [Za2];omega)|skip):p:=h
theorem good_sixteen1:Qa Tryz.prog (247,T9):=by
 obtain ⟨Kx,Kt,Kc,Kd,Kb,Ku,Kw,K,X9,_⟩:=Xe Zv Zn [] false (Q0 good_within pN Xd);have Ko:=T9.eq_def;refine Xj K Tryz.func247 [.tmp 2] rfl 14 rfl (fun c hc cvs hpre=>?_);unfold T9 at hpre;obtain ⟨c,rfl,-⟩:=Q2 hpre;clear hpre;obtain ⟨R,Z9⟩:=exq (oE c);have hR2:=Z9;unfold oE at hR2;have Qf:((48:UInt8).toNat:Int)=48:=rfl;have Qc:((97:UInt8).toNat:Int)=97:=rfl;have w1:Xx c 48 57=true→48≤c.toNat∧c.toNat≤57:=fun h=>by
  unfold Xx at h;simp only [Zg,decide_eq_true_eq,UInt8.le_iff_toNat_le] at h;exact h
 have w2:Xx c 97 102=true→97≤c.toNat∧c.toNat≤102:=fun h=>by
  unfold Xx at h;simp only [Zg,decide_eq_true_eq,UInt8.le_iff_toNat_le] at h;exact h
 cases Qb:Xx c 48 57 with
 | true =>
  have w3:=w1 Qb;rw [if_pos Qb] at hR2;cases hc;have Qh:=@Qg0;have Qn:=@Qgz;have Kq:KdB:=⟨⟩;exact Y6
 | false =>
  rw [if_neg (by rw [Qb];simp)] at hR2
  cases Qe:Xx c 97 102 with
  | true =>
   have w3:=w2 Qe;rw [if_pos Qe] at hR2;cases hc;have Qh:=@Qg0;have Qn:=@Qgz;have Q6:=@Qgy;have Je:=@Qge;have Kq:KdC:=⟨⟩;exact Y6
  | false =>
   rw [if_neg (by rw [Qe];simp)] at hR2
   subst hR2;cases hc;have Qh:=@Qg0;have Qn:=@Qgz;have Q6:=@Qgy;have Je:=@Qge;exact Zp6
end Go.Am.Ty
