/- Contracts of functions that the law reaches, and plain laws. Conditions: those that each contract states. -/
import Derived.Test.YtilpfkjhahnfaaaGreatP8
set_option maxHeartbeats 4000000
set_option linter.unusedVariables false
set_option linter.unusedSimpArgs false
variable {p:Prop}
set_option maxRecDepth 100000
namespace Go.Am.Ty
open Go.Proofs
open Enc (enc dec)
def Qjx:List UInt8→Int→Int
 | [],n=>n
 | c::r,n=>Qjx r (10*n+((c.toNat:Int)-48))
def nG (s:List UInt8):Int:=Qjx s 0
theorem Qnc {c:UInt8} (h:Wy c=true):48≤c.toNat∧c.toNat≤57:=by
 unfold Wy X8 at h;simp only [Zg,decide_eq_true_eq,UInt8.le_iff_toNat_le] at h;exact h
def A5:Con:=Xj (fun (s:List UInt8)=>Qny s) (fun s=>nG s)
class KfD:Prop
theorem KfD.k (_:KfD) (h:p:=by
 first|(rw [Zgf];omega)|(rw [Xt];omega)|exact ⟨(k+1,10*n+((d.toNat:Int)-48)),by exact Qt,by simp only;omega,by simp only;omega,hb,h4,by simp only;omega⟩|skip):p:=h
class KfC:Prop
theorem KfC.k (_:KfC) (h:p:=by
 refine Zm [5,6,7,8,9,10,11,12,13,14,15,16,17,18] (fun p:Nat×Int=>[(3,.d (.int .i64 p.2)),(4,.d (.int .i64 p.1))]) (fun p:Nat×Int=>[]) (fun p:Nat×Int=>p.1≤s.length∧0≤p.2∧p.2<10 ^ p.1∧Qjx (s.drop p.1) p.2=R) (fun p:Nat×Int=>s.length-p.1) (0,0) ?_ ?_ ?_
 ·exact ⟨by simp,by simp,by simp,Zq⟩
 ·exact Qt
 rintro ⟨k,n⟩ ⟨h1,h2,h3,h4⟩;simp only at h1 h2 h3 h4;rcases Zn k s.length with ⟨Zv,Qk⟩|⟨Zv,Qk⟩
 ·rw [S6 Zv,Qjx] at h4;have Qw2:=Qnc (hf (s.getD k 0) (by simp [Zv]))
  obtain ⟨d,Qo⟩:=exq (s.getD k 0);rw [Qo] at h4 Qw2;have hp:(10:Int) ^ (k+1)=10*10 ^ k:=by rw [Int.pow_succ];omega
  have Qk4:(10:Int) ^ (k+1)≤1000000000000000000:=by
   have Ql:(10:Nat) ^ (k+1)≤10 ^ 18:=Nat.pow_le_pow_right (by omega) (by omega)
   have h6:((10 ^ (k+1):Nat):Int)≤((10 ^ 18:Nat):Int):=by exact_mod_cast Ql
   simpa using h6
  have hb:10*n+((d.toNat:Int)-48)<10 ^ (k+1):=by rw [hp];omega
  have Ja3:10*n≤1000000000000000000:=by omega
  have Kq:KfD:=⟨⟩;exact jW
 ·have Ni:s.drop k=[]:=List.drop_eq_nil_of_le Zv;rw [Ni] at h4;have Ql:n=R:=h4;exact Qcq):p:=h
theorem good_number6:Qc Tryz.prog (270,A5):=by
 obtain ⟨Kx,Kt,Kc,Kd,Kb,Ku,Kw,K,_⟩:=J7 Zx Zo [] false J5;have Ko:=A5.eq_def;refine J9 K Tryz.func270 [.tmp 2] rfl 20 rfl (fun c hc Ji Zh=>?_);unfold A5 at Zh;obtain ⟨s,rfl,hs,hf⟩:=Q8 Zh;clear Zh;obtain ⟨R,Qn⟩:=exq (nG s);have Zq:=Qn;unfold nG at Zq;have Qi:((48:UInt8).toNat:Int)=48:=rfl;cases hc;have Kq:KfC:=⟨⟩;exact jW
def Zac {A B C R S T:Type} [Enc A] [Enc B] [Enc C] [Enc R] [Enc S] [Enc T] (p:A→B→C→Prop) (f:A→B→C→R×S×T):Con:=⟨[false,false,false],[false,false,false],fun c=>match c with
 | [.d x,.d y,.d z]=>Ul A x∧Ul B y∧Ul C z∧p (dec x) (dec y) (dec z)
 | _=>False,fun c=>match c with
 | [.d x,.d y,.d z]=>.tup [.d (enc (f (dec x) (dec y) (dec z)).1),.d (enc (f (dec x) (dec y) (dec z)).2.1),.d (enc (f (dec x) (dec y) (dec z)).2.2)]
 | _=>.d .nilp⟩
theorem Qem {A B C R S T:Type} [Enc A] [Enc B] [Enc C] [Enc R] [Enc S] [Enc T] {p:A→B→C→Prop} {f:A→B→C→R×S×T} {c:List CV} (h:(Zac p f).pre c):∃ a b d,c=[.d (enc a),.d (enc b),.d (enc d)]∧p a b d:=by
 unfold Zac at h;simp only at h;split at h
 ·next x y z=>exact ⟨dec x,dec y,dec z,by rw [←h.1,←h.2.1,←h.2.2.1],h.2.2.2⟩
 ·exact h.elim
def Bz (l:List Tok) (s:St6) (v:Int):List UInt8×List Node×St6:=((Jn l s 1).1,(Kf l (Jn l s 1).2 v).1,(Kf l (Jn l s 1).2 v).2)
theorem Qdf {l:List Tok} {s:St6} (h:St6Ok l s) (k:Int):St6Ok l (Jn l s k).2∧((Jn l s k).2.e=0→s.e=0∧(Jn l s k).2.at_=s.at_+1∧(Jn l s k).2.sites=s.sites):=by
 rcases Gj l s k with ⟨h1,h2⟩|⟨h1,_,h2⟩|⟨h1,_,_,h2⟩|⟨h1,h3,_,h2⟩
 ·rw [h2];exact ⟨h,fun e=>absurd e h1⟩
 ·rw [h2];exact ⟨⟨h.len,h.lo,h.hi,h.sites,h.txt,h.fig⟩,fun e=>absurd e (by show ¬ (2:Int)=0;decide)⟩
 ·rw [h2];exact ⟨⟨h.len,h.lo,h.hi,h.sites,h.txt,h.fig⟩,fun e=>absurd e (by show ¬ (2:Int)=0;decide)⟩
 ·rw [h2];have:=h.lo;exact ⟨⟨h.len,by show 0≤s.at_+1;omega,by show s.at_+1≤_;omega,h.sites,h.txt,h.fig⟩,fun _=>⟨h1,rfl,rfl⟩⟩
def Tc:Con:=Zac (fun (l:Sl Tok) (s:St6) (v:Int)=>St6Ok l.l s∧(s.e=0→1≤v∧v≤100)) (fun l s v=>(((Bz l.l s v).1,⟨(Bz l.l s v).2.1⟩,(Bz l.l s v).2.2):List UInt8×Sl Node×St6))
theorem eM:Qc Tryz.prog (250,Tc):=by
 obtain ⟨Kx,Kt,Kc,Kd,Kb,Ku,Kw,K,X4,V2,_⟩:=J7 Zx Zo [] false (Q1 U7 Ml (Q1 A1 Bv.eq_def J5));have Ko:=Tc.eq_def;refine J9 K Tryz.func250 [.tmp 6,.tmp 7,.cell 8 137] rfl 27 rfl (fun c hc Ji Zh=>?_);unfold Tc at Zh;obtain ⟨⟨l⟩,⟨i,ss,e⟩,v,rfl,hS,hv⟩:=Qem Zh;simp only at hS hv;clear Zh;have Q5:=hS.len;have mN:=hS.lo;have Ob:=hS.hi;simp only at mN Ob;obtain ⟨⟨Rx,Rt,⟨Ra,Rs,Re⟩⟩,Qi⟩:=exq (Bz l ⟨i,ss,e⟩ v);have Zq:=Qi;unfold Bz at Zq;obtain ⟨Vt,Cq⟩:=Qdf hS 1;obtain ⟨⟨x,⟨qa,qs,qe⟩⟩,Qk⟩:=exq (Jn l ⟨i,ss,e⟩ 1);rw [Qk] at Zq Vt Cq;simp only at Zq Vt Cq;have Qss:qe=0→1≤qa∧1≤v∧v≤100:=fun h=>by
  obtain ⟨g1,g2,_⟩:=Cq h;have:=hv g1;omega
 obtain ⟨⟨t,⟨ma,ms,me⟩⟩,Qo⟩:=exq (Kf l ⟨qa,qs,qe⟩ v);rw [Qo] at Zq;simp only [Zc,St6.mk.injEq] at Zq;obtain ⟨rfl,rfl,rfl,rfl,rfl⟩:=Zq;cases hc;have Qn:=@Zac.eq_def;have Ql:=@Zy;have Qp:=@Z8;have Qv:=@Z9;exact Gx
abbrev Qkz:=St6→List Part×St6
section
variable (ex:Qkz) (l:List Tok) (v:Int)
def Qd0 (s:St6):List Part×St6 :=
 let b:=Bz l (Qy l s 5 [40]) v
 let r:=ex (Qy l (Qy l b.2.2 5 [41]) 5 [45,62])
 (W4 ⟨2,[],[],b.1,0,0,b.2.1,[]⟩ [⟨r.1⟩],r.2)
def Qdr (s:St6):List Part×St6 :=
 let b:=Bz l s v
 let a:=ex (Qy l b.2.2 5 [61])
 let c:=ex (Qy l a.2 6 [105,110])
 (W4 ⟨4,[],[],b.1,0,0,b.2.1,[]⟩ [⟨a.1⟩,⟨c.1⟩],c.2)
def Qcv (s:St6):List Part×St6 :=
 let f:=Jn l s 1
 let b:=Bz l (Qy l f.2 5 [40]) v
 let u:=Kf l (Qy l b.2.2 5 [41]) v
 let a:=ex (Qy l u.2 5 [61])
 let c:=ex (Qy l a.2 6 [105,110])
 (W4 ⟨5,[],f.1,b.1,0,0,b.2.1,u.1⟩ [⟨a.1⟩,⟨c.1⟩],c.2)
def Zeg (s:St6):List Part×St6 :=
 let a:=ex s
 let b:=ex (Qy l a.2 6 [116,104,101,110])
 let c:=ex (Qy l b.2 6 [101,108,115,101])
 (W4 ⟨6,[],[],[],0,0,[],[]⟩ [⟨a.1⟩,⟨b.1⟩,⟨c.1⟩],c.2)
def Gw (s:St6) (had:List (List UInt8)):List UInt8×List UInt8×(List Part×St6) :=
 let tag:=Yg l s 2 had
 let x:=Jn l tag.2 1
 (tag.1,x.1,ex (Qy l x.2 5 [45,62]))
def sB:Nat→St6→List (List UInt8)→List Part→List Part×St6
 | 0,s,_,_=>([],s)
 | f+1,s,had,body =>
  let b:=Gw ex l s had
  if b.2.2.2.e≠0 then ([],b.2.2.2)
  else if Ox l b.2.2.2 5 [124]=false then (⟨7,[],[],[],(had.length:Int)+1,0,[],[]⟩::(body++W4 ⟨8,b.1,[],b.2.1,0,0,[],[]⟩ [⟨b.2.2.1⟩]),Qy l b.2.2.2 6 [101,110,100])
  else sB f (X3 b.2.2.2) (had++[b.1]) (body++W4 ⟨8,b.1,[],b.2.1,0,0,[],[]⟩ [⟨b.2.2.1⟩])
def Zad (s:St6):List Part×St6 :=
 let a:=ex s
 sB ex l 51 (Qy l a.2 6 [111,102]) [] a.1
def Zgc (x:List UInt8):List Part→List Part
 | []=>[]
 | p::r=>⟨p.kind,x,p.name,p.bind,p.many,p.num,p.t,p.u⟩::r
def rZ:Nat→St6→List (List UInt8)→List Part→List Part×St6
 | 0,s,_,_=>([],s)
 | f+1,s,had,body =>
  let x:=Yg l s 1 had
  let r:=ex (Qy l x.2 5 [61])
  if r.2.e≠0 then ([],r.2)
  else if Ox l r.2 5 [44]=false then (⟨10,[],[],[],(had.length:Int)+1,0,[],[]⟩::(body++Zgc x.1 r.1),Qy l r.2 5 [125])
  else rZ f (X3 r.2) (had++[x.1]) (body++Zgc x.1 r.1)
def Zct (s:St6):List Part×St6 :=
 if Ox l s 5 [125]=true then ([⟨10,[],[],[],0,0,[],[]⟩],X3 s)
 else rZ ex l 51 s [] []
def gA (s:St6):List Part×St6 :=
 let x:=Jn l s 2
 let r:=ex (Qy l x.2 5 [61])
 let t:=Kf l r.2 v
 (W4 ⟨12,[],x.1,[],0,0,t.1,[]⟩ [⟨r.1⟩],Qy l t.2 5 [93])
def rK (s:St6):List Part×St6 :=
 if Ox l s 5 [41]=true then ([⟨0,[],[],[],0,0,[⟨4,[],0⟩],[]⟩],X3 s)
 else
  let r:=ex s
  if Ox l r.2 5 [58]=true then
   let t:=Et l (X3 r.2) v
   (W4 ⟨13,[],[],[],0,0,t.1,[]⟩ [⟨r.1⟩],Qy l t.2 5 [41])
  else (r.1,Qy l r.2 5 [41])
def Zan (s:St6):List Part×St6 :=
 if s.e≠0∨Mj l s=false then ([],J8 s 2)
 else
  let t:=tk l s.at_
  if t.kind=3 then ([⟨0,[],[],[],0,nG t.text,[⟨1,[],0⟩],[]⟩],X3 s)
  else if t.kind=4 then ([⟨0,[],t.text,[],0,0,[⟨3,[],0⟩],[]⟩],X3 s)
  else if t.kind=6 then ([⟨0,[],[],[],0,(if t.text=[116,114,117,101] then 1 else 0),[⟨2,[],0⟩],[]⟩],X3 s)
  else if t.kind=1 then
   (if Ox l (X3 s) 5 [33]=false then ([⟨1,[],t.text,[],0,0,[],[]⟩],X3 s)
    else ([⟨1,[],t.text++[33]++(Jn l (X3 (X3 s)) 1).1,[],0,0,[],[]⟩],(Jn l (X3 (X3 s)) 1).2))
  else if t.text=[40] then rK ex l v (X3 s)
  else if t.text=[123] then Zct ex l (X3 s)
  else gA ex l v (X3 s)
def nK:Nat→List Part×St6→List Part×St6
 | 0,r=>r
 | f+1,r=>if Ox l r.2 5 [46]=false then r else
  let x:=Jn l (X3 r.2) 1
  nK f (W4 ⟨11,[],x.1,[],0,0,[],[]⟩ [⟨r.1⟩],x.2)
def tJ (s:St6):List Part×St6:=nK l (l.length+1) (Zan ex l v s)
def Ll:Nat→List Part×St6→List Part×St6
 | 0,r=>r
 | f+1,r=>if Mj l r.2=false then r else
  let x:=tJ ex l v r.2
  Ll f (W4 ⟨3,[],[],[],0,0,[],[]⟩ [⟨r.1⟩,⟨x.1⟩],x.2)
def Ol (s:St6):List Part×St6:=Ll ex l v (l.length+1) (tJ ex l v s)
def An (b:Int) (s:St6):Bool:=(s.e==0)&&(Wd s.at_ l.length&&((tk l s.at_).kind==5&&in6 (aI b) (tk l s.at_).text))
def Zf4 (b:Int) (sub:Qkz):Nat→List Part×St6→List Part×St6
 | 0,r=>r
 | f+1,r=>if An l b r.2=false then r else
  let x:=sub (X3 r.2)
  Zf4 b sub f (W4 ⟨9,[],(tk l r.2.at_).text,[],0,0,[],[]⟩ [⟨r.1⟩,⟨x.1⟩],x.2)
def Zbg:Nat→Qkz
 | 0=>Ol ex l v
 | m+1=>fun s=>Zf4 l (4-(m:Int)) (Zbg m) (l.length+1) (Zbg m s)
def Zlm (s:St6):List Part×St6 :=
 if s.e≠0 then ([],s)
 else if s.at_<l.length∧(tk l s.at_).kind=6 then
  (if (tk l s.at_).text=[102,117,110] then Qd0 ex l v (X3 s)
   else if (tk l s.at_).text=[108,101,116] then Qdr ex l v (X3 s)
   else if (tk l s.at_).text=[114,101,99] then Qcv ex l v (X3 s)
   else if (tk l s.at_).text=[105,102] then Zeg ex l (X3 s)
   else if (tk l s.at_).text=[99,97,115,101] then Zad ex l (X3 s)
   else Zbg ex l v 5 s)
 else Zbg ex l v 5 s
end
def J1 (l:List Tok):Nat→Qkz
 | 0=>fun s=>([],J8 s 4)
 | d+1=>Zlm (J1 l d) l (100-(d:Int))
def Zez (t:Tok):Prop:=t.text.length≤1000000∧(t.kind=3→Qny t.text)
theorem Qju {s:List UInt8} (hs:s.length≤100000) {i:Nat} (hi:i<s.length) (h:(nD s i).2=true):Zez (nD s i).1:=by
 unfold nD at h ⊢;have hw:=mO (s.drop i);rw [List.length_drop] at hw;have qE:(Ks s i).length=Km (s.drop i):=by unfold Ks;rw [List.length_drop,List.length_take];omega
 split at h
 ·rename_i a;rw [if_pos a];have hU:=Zfj (s:=s.drop i) (by simpa using h)
  rw [List.length_drop] at hU;exact ⟨by show (dE (s.drop i)).1.length≤_;omega,fun e=>absurd e (by show ¬ (4:Int)=3;decide)⟩
 rename_i a;rw [if_neg a];split at h
 ·rename_i a;rw [if_pos a];exact ⟨by show (Ks s i).length≤_;omega,fun e=>absurd e (by show ¬ (2:Int)=3;decide)⟩
 rename_i a;rw [if_neg a];split at h
 ·rename_i a;rw [if_pos a];exact ⟨by show (Ks s i).length≤_;omega,fun e=>absurd e (by show ¬ (6:Int)=3;decide)⟩
 rename_i a;rw [if_neg a];split at h
 ·rename_i a;rw [if_pos a];exact ⟨by show (Ks s i).length≤_;omega,fun e=>absurd e (by show ¬ (1:Int)=3;decide)⟩
 rename_i a;rw [if_neg a];split at h
 ·rename_i a;rw [if_pos a];split at h
  ·rename_i b;rw [if_pos b];simp only [Q9] at h;exact ⟨by show (Ks s i).length≤_;omega,fun _=>⟨by show (Ks s i).length≤18;omega,fun c hc=>List.all_eq_true.1 b c hc⟩⟩
  ·cases h
 ·rename_i a;rw [if_neg a];have:=wP (s:=s) (i:=i);exact ⟨by show (C8 s i).length≤_;omega,fun e=>absurd e (by show ¬ (5:Int)=3;decide)⟩
theorem qM {s:List UInt8} (hs:s.length≤100000):∀ (f i:Nat) (out:List Tok),(∀ t∈out,Zez t)→i≤s.length→out.length≤i→(∀ t∈(Iv f s i out).1,Zez t)∧(Iv f s i out).1.length≤s.length+1∧((Iv f s i out).2.2=0→1≤(Iv f s i out).1.length)
 | 0,i,out,_,_,_=>⟨fun t ht=>(by cases ht),by simp [Iv],fun h=>absurd h (by show ¬ (2:Int)=0;decide)⟩
 | f+1,i,out,h,hi,hl=>by
  rw [Iv];split
  ·refine ⟨fun t ht=>?_,by simp only [Ze,Zi,List.length_nil];omega,fun _=>by simp⟩
   rcases List.mem_append.1 ht with ht|ht
   ·exact h t ht
   ·rw [Zt] at ht;subst ht;exact ⟨by simp,fun e=>absurd e (by show ¬ (0:Int)=3;decide)⟩
  ·rename_i Zv;split
   ·exact ⟨fun t ht=>(by cases ht),by simp,fun h=>absurd h (by show ¬ (2:Int)=0;decide)⟩
   ·rename_i Vt;have hok':(nD s i).2=true:=by simpa using Vt
    obtain ⟨n,hn,Qs8,Qpu⟩:=Qal (show i<s.length by omega) hok'
    have hb:=fC (s:=s) (i:=n) Qpu;have Qsu:=Qju hs (show i<s.length by omega) hok'
    rw [hn,Zl];refine qM hs f _ _ (fun t ht=>?_) hb.2 (by simp only [Ze,Zi,List.length_nil];omega)
    rcases List.mem_append.1 ht with ht|ht
    ·exact h t ht
    ·rw [Zt] at ht;subst ht;exact Qsu
theorem Zir (s:List UInt8):(∀ t∈(Lh s).1,Zez t)∧(Lh s).1.length≤100001∧((Lh s).2.2=0→1≤(Lh s).1.length):=by
 unfold Lh;split
 ·exact ⟨fun t ht=>(by cases ht),by simp,fun h=>absurd h (by show ¬ (3:Int)=0;decide)⟩
 ·rename_i h;have hb:=fC (s:=s) (i:=0) (by omega)
  obtain ⟨h1,h2,h3⟩:=qM (s:=s) (by omega) (s.length+1) (dW s 0) [] (fun t ht=>by cases ht) hb.2 (by simp)
  exact ⟨h1,by omega,h3⟩
structure Adv (l:List Tok) (m q:Int) (s r:St6):Prop where
 err:s.e≠0→r=s
 lo:0≤r.at_
 hi:r.at_≤l.length
 mono:r.e=0→s.at_≤r.at_
 room:s.e=0→(r.sites.length:Int)≤s.sites.length+(l.length-s.at_)+q
 gain:r.e=0→s.sites.length≤r.sites.length∧(r.sites.length:Int)-s.sites.length+m≤r.at_-s.at_
structure Pos (l:List Tok) (s:St6):Prop where
 lo:0≤s.at_
 hi:s.at_≤l.length
theorem Adv.pos {l:List Tok} {m q:Int} {s r:St6} (h:Adv l m q s r):Pos l r:=⟨h.lo,h.hi⟩
theorem Adv.ok0 {l:List Tok} {m q:Int} {s r:St6} (h:Adv l m q s r) (he:r.e=0):s.e=0:=Classical.byContradiction fun hn=>by
 have:=h.err hn;rw [this] at he;exact hn he
theorem Adv.refl {l:List Tok} {s:St6} (h:Pos l s):Adv l 0 0 s s:=⟨fun _=>rfl,h.lo,h.hi,fun _=>Int.le_refl _,fun _=>by have:=h.hi;omega,fun _=>⟨Zr _,by omega⟩⟩
theorem Adv.trans {l:List Tok} {m1 q1 m2 q2 m q:Int} {a b c:St6} (h1:Adv l m1 q1 a b) (h2:Adv l m2 q2 b c) (hm:m≤m1+m2) (Qv8:q1≤q) (wQ:q2-m1≤q):Adv l m q a c:=by
 refine ⟨fun he=>?_,h2.lo,h2.hi,fun he=>?_,fun he=>?_,fun he=>?_⟩
 ·have e1:=h1.err he;subst e1;exact h2.err he
 ·have:=h1.mono (h2.ok0 he);have:=h2.mono he;omega
 ·have hr:=h1.room he;by_cases hb:b.e=0
  ·have h3:=h2.room hb;have h4:=(h1.gain hb).2;omega
  ·have:=h2.err hb;rw [this];omega
 ·obtain ⟨g1,g2⟩:=h1.gain (h2.ok0 he);obtain ⟨g3,g4⟩:=h2.gain he;exact ⟨by omega,by omega⟩
theorem Adv.weak {l:List Tok} {m1 q1 m q:Int} {a b:St6} (h:Adv l m1 q1 a b) (hm:m≤m1) (hq:q1≤q):Adv l m q a b :=
 ⟨h.err,h.lo,h.hi,h.mono,fun he=>by have:=h.room he;omega,fun he=>by obtain ⟨g1,g2⟩:=h.gain he;exact ⟨g1,by omega⟩⟩
theorem F8 {l:List Tok} {s:St6} {k:Int} {x:List UInt8} (h:Ox l s k x=true):s.e=0∧s.at_<l.length:=by
 unfold Ox at h;simp only [Zg,Zj,Jj] at h;exact ⟨h.1,h.2.1⟩
theorem Lb {l:List Tok} {s:St6} (h:Pos l s) (k:Int) (x:List UInt8):Adv l 1 0 s (Qy l s k x):=by
 have h0:=h.lo;have h1:=h.hi;rcases bX l s k x with ⟨e,h2⟩|⟨e,_,h2⟩|⟨e,hi,h2⟩
 ·rw [h2];exact ⟨fun _=>rfl,h0,h1,fun he=>absurd he e,fun he=>absurd he e,fun he=>absurd he e⟩
 ·rw [h2];exact ⟨fun he=>absurd e he,h0,h1,fun he=>absurd he (by show ¬ (2:Int)=0;decide),fun _=>by show (s.sites.length:Int)≤_;omega,fun he=>absurd he (by show ¬ (2:Int)=0;decide)⟩
 ·have:=(F8 hi).2;rw [h2];exact ⟨fun he=>absurd e he,by show 0≤s.at_+1;omega,by show s.at_+1≤_;omega,fun _=>by show s.at_≤s.at_+1;omega,fun _=>by show (s.sites.length:Int)≤_;omega,fun _=>⟨Zr _,by show (s.sites.length:Int)-s.sites.length+1≤s.at_+1-s.at_;omega⟩⟩
theorem Zhc {l:List Tok} {s:St6} (h:Pos l s) (hl:s.at_<l.length):Adv l 1 0 s (X3 s)∨s.e≠0:=by
 by_cases he:s.e=0
 ·left;have h0:=h.lo;exact ⟨fun hn=>absurd he hn,by show 0≤s.at_+1;omega,by show s.at_+1≤_;omega,fun _=>by show s.at_≤s.at_+1;omega,fun _=>by show (s.sites.length:Int)≤_;omega,fun _=>⟨Zr _,by show (s.sites.length:Int)-s.sites.length+1≤s.at_+1-s.at_;omega⟩⟩
 ·exact .inr he
theorem Tk {l:List Tok} {s:St6} (h:Pos l s) (k:Int):Adv l 1 0 s (Jn l s k).2:=by
 have h0:=h.lo;have h1:=h.hi;rcases Gj l s k with ⟨e,h2⟩|⟨e,_,h2⟩|⟨e,_,_,h2⟩|⟨e,hi,_,h2⟩
 ·rw [h2];exact ⟨fun _=>rfl,h0,h1,fun he=>absurd he e,fun he=>absurd he e,fun he=>absurd he e⟩
 ·rw [h2];exact ⟨fun he=>absurd e he,h0,h1,fun he=>absurd he (by show ¬ (2:Int)=0;decide),fun _=>by show (s.sites.length:Int)≤_;omega,fun he=>absurd he (by show ¬ (2:Int)=0;decide)⟩
 ·rw [h2];exact ⟨fun he=>absurd e he,h0,h1,fun he=>absurd he (by show ¬ (2:Int)=0;decide),fun _=>by show (s.sites.length:Int)≤_;omega,fun he=>absurd he (by show ¬ (2:Int)=0;decide)⟩
 ·rw [h2];exact ⟨fun he=>absurd e he,by show 0≤s.at_+1;omega,by show s.at_+1≤_;omega,fun _=>by show s.at_≤s.at_+1;omega,fun _=>by show (s.sites.length:Int)≤_;omega,fun _=>⟨Zr _,by show (s.sites.length:Int)-s.sites.length+1≤s.at_+1-s.at_;omega⟩⟩
theorem sF {l:List Tok} {s:St6} (h:Pos l s) (k:Int) (had:List (List UInt8)):Adv l 1 0 s (Yg l s k had).2:=by
 have hN:=Tk h k;have h0:=h.lo;have h1:=h.hi;unfold Yg;split
 ·exact hN
 rename_i he;have Qpp:=hN.ok0 (by simpa using he)
 split
 ·exact ⟨fun hn=>absurd Qpp hn,h0,h1,fun he=>absurd he (by show ¬ (7:Int)=0;decide),fun _=>by show (s.sites.length:Int)≤_;omega,fun he=>absurd he (by show ¬ (7:Int)=0;decide)⟩
 split
 ·exact ⟨fun hn=>absurd Qpp hn,h0,h1,fun he=>absurd he (by show ¬ (3:Int)=0;decide),fun _=>by show (s.sites.length:Int)≤_;omega,fun he=>absurd he (by show ¬ (3:Int)=0;decide)⟩
 ·exact hN
structure Toks (l:List Tok):Prop where
 len:l.length≤100000
 ok:∀ t∈l,Zez t
theorem Toks.long {l:List Tok} (h:Toks l):∀ t∈l,t.text.length≤9223372036854775807:=fun t ht=>Nat.le_trans (h.ok t ht).1 (by omega)
structure Noted (l:List Tok) (m q:Int) (s:St6) (r:List Node×St6):Prop where
 adv:Adv l m q s r.2
 nil:s.e≠0→r.1=[]
 len:r.1.length≤100001
 named:Ym r.1
 ok:r.2.e=0→r.1≠[]∧Wg r.1=true
 cnt:r.2.e=0→∀ z,J0 (Ys z) r.1=if (s.sites.length:Int)+1≤z∧z<(r.2.sites.length:Int)+1 then 1 else 0
theorem eW {l:List Tok} (hT:Toks l) {s:St6} (h:Pos l s) {v:Int} (hv:s.e=0→1≤v∧v≤100):Noted l 0 0 s (Et l s v):=by
 have h0:=h.lo;have h1:=h.hi;have hl:=hT.len;unfold Et;by_cases he:s.e=0
 case neg =>
  rw [if_pos he];exact ⟨⟨fun _=>rfl,h0,h1,fun e=>absurd e he,fun e=>absurd e he,fun e=>absurd e he⟩,fun _=>rfl,by simp,Qz,fun e=>absurd e he,fun e=>absurd e he⟩
 rw [if_neg (by simpa using he)]
 obtain ⟨v1,v2⟩:=hv he;obtain ⟨f1,f2,f3⟩:=tX hl hT.long h0 h1 (site:=(s.sites.length:Int)+1) (by omega) v1 v2
 obtain ⟨⟨t,a,qs,bad,re⟩,hr⟩:=exq (Vz l s.at_ ((s.sites.length:Int)+1) v);rw [hr] at f1 f2 f3 ⊢;simp only at f1 f2 f3 ⊢;by_cases jE:re=0
 case neg =>
  rw [if_pos jE];exact ⟨⟨fun e=>absurd he e,f1,f2,fun e=>absurd e jE,fun _=>by show (s.sites.length:Int)≤_;omega,fun e=>absurd e jE⟩,fun e=>absurd he e,by simp,Qz,fun e=>absurd e jE,fun e=>absurd e jE⟩
 rw [if_neg (by simpa using jE)]
 obtain ⟨g1,g2,g3,g4,g5,g6,g7⟩:=f3 jE;have Qi0:((s.sites++qs).length:Int)=s.sites.length+qs.length:=by simp
 refine ⟨⟨fun e=>absurd he e,by show 0≤a;omega,g2,fun _=>by show s.at_≤a;omega,fun _=>by show ((s.sites++qs).length:Int)≤_;omega,fun _=>⟨by simp,by show ((s.sites++qs).length:Int)-s.sites.length+0≤a-s.at_;omega⟩⟩,fun e=>absurd he e,by show t.length≤_;omega,g5,fun _=>⟨fun e=>?_,g4⟩,fun _ z=>?_⟩
 ·have:=lK g4;simp only at e;rw [e] at this;simp at this
 ·show J0 (Ys z) t=if (s.sites.length:Int)+1≤z∧z<((s.sites++qs).length:Int)+1 then 1 else 0
  rw [g7,Qi0];by_cases hz:(s.sites.length:Int)+1≤z∧z<(s.sites.length:Int)+1+qs.length
  ·rw [if_pos hz,if_pos (by omega)]
  ·rw [if_neg hz,if_neg (by omega)]
theorem Np {l:List Tok} (hT:Toks l) {s:St6} (h:Pos l s) {v:Int} (hv:s.e=0→1≤v∧v≤100):Noted l (-1) 1 s (Kf l s v):=by
 have h0:=h.lo;have h1:=h.hi;unfold Kf;by_cases he:s.e=0
 case neg =>
  rw [if_pos he];exact ⟨⟨fun _=>rfl,h0,h1,fun e=>absurd e he,fun e=>absurd e he,fun e=>absurd e he⟩,fun _=>rfl,by simp,Qz,fun e=>absurd e he,fun e=>absurd e he⟩
 rw [if_neg (by simpa using he)]
 cases hi:Ox l s 5 [58] with
 | true =>
  rw [if_pos rfl];have Zv:=(F8 hi).2;rcases Zhc h Zv with hA|hA
  ·have hN:=eW hT hA.pos (v:=v) (fun _=>hv he);exact ⟨hA.trans hN.adv (by omega) (by omega) (by omega),fun e=>absurd he e,hN.len,hN.named,hN.ok,fun e z=>hN.cnt e z⟩
  ·exact absurd he hA
 | false =>
  rw [if_neg (by simp)]
  have Qi0:∀ x:Site,((s.sites++[x]).length:Int)=s.sites.length+1:=fun x=>by simp
  refine ⟨⟨fun e=>absurd he e,h0,h1,fun _=>Int.le_refl _,fun _=>by show ((s.sites++[_]).length:Int)≤_;rw [Qi0];omega,fun _=>⟨by simp,by show ((s.sites++[_]).length:Int)-s.sites.length+-1≤s.at_-s.at_;rw [Qi0];omega⟩⟩,fun e=>absurd he e,by simp,Ei,fun _=>⟨by simp,?_⟩,fun _ z=>?_⟩
  ·have:∀ n:Nat,Wg [⟨0,[],(n:Int)+1⟩]=true:=by
    intro n;refine Zcv (x:=Go.Rose.Rose.mk ⟨0,[],(n:Int)+1⟩ []) ⟨⟨rfl,trivial⟩,fun m hm=>?_,by show Go.Rose.Rose.depth _≤100;unfold Go.Rose.Rose.depth;simp [Go.Rose.Rose.depths],by rfl,rfl,by show ¬ (0:Int)=9;decide,by simp [Go.Rose.Rose.nds,Go.Rose.Rose.ndss]⟩
    simp [Go.Rose.Rose.nds,Go.Rose.Rose.ndss] at hm;subst hm;unfold V0;rw [if_pos (.inl rfl)];simp only [decide_eq_true_eq];omega
   exact this _
  ·show J0 (Ys z) [⟨0,[],(s.sites.length:Int)+1⟩]=if (s.sites.length:Int)+1≤z∧z<((s.sites++[_]).length:Int)+1 then 1 else 0
   rw [Qi0];unfold J0 Ys;simp only [List.map_cons,List.map_nil,List.sum_cons,List.sum_nil,true_and,Nat.add_zero];by_cases hq:(s.sites.length:Int)+1=z
   ·rw [if_pos hq,if_pos (by omega)]
   ·rw [if_neg hq,if_neg (by omega)]
theorem Ep {l:List Tok} (hT:Toks l) {s:St6} (h:Pos l s) {v:Int} (hv:s.e=0→1≤v∧v≤100):Noted l 0 0 s (Bz l s v).2:=by
 have hA:=Tk h 1;have hN:=Np hT hA.pos (v:=v) (fun e=>hv (hA.ok0 e));unfold Bz;refine ⟨hA.trans hN.adv (by omega) (by omega) (by omega),fun e=>?_,hN.len,hN.named,hN.ok,fun e z=>?_⟩
 ·refine hN.nil ?_;rw [hA.err e];exact e
 ·have e1:=hN.adv.ok0 e;have hs:(Jn l s 1).2.sites=s.sites:=by
   rcases Gj l s 1 with ⟨_,h2⟩|⟨_,_,h2⟩|⟨_,_,_,h2⟩|⟨_,_,_,h2⟩<;>rw [h2]
  have:=hN.cnt e z;rw [hs] at this;exact this
def Xi (z:Int) (p:Part):Nat:=J0 (Ys z) p.t+J0 (Ys z) p.u
def Wh (z:Int) (e:List Part):Nat:=(e.map (Xi z)).sum
theorem Iz (z:Int) (a b:List Part):Wh z (a++b)=Wh z a+Wh z b:=by unfold Wh;rw [List.map_append,List.sum_append]
theorem Ar (z:Int) (p:Part) (b:List Part):Wh z (p::b)=Xi z p+Wh z b:=by unfold Wh;rw [List.map_cons,List.sum_cons]
def aQ (p:Part):Prop:=(p.t.length≤100001∧Ym p.t)∧(p.u.length≤100001∧Ym p.u)∧p.label.length≤1000000∧p.name.length≤3000000∧p.bind.length≤1000000
def Qsp (s r:St6) (e:List Part):Prop:=∀ z,Wh z e=if (s.sites.length:Int)+1≤z∧z<(r.sites.length:Int)+1 then 1 else 0
structure Reads (l:List Tok) (s:St6) (r:List Part×St6):Prop where
 adv:Adv l 1 0 s r.2
 nil:s.e≠0→r.1=[]
 len:(r.1.length:Int)≤2*(l.length-s.at_)+1
 ok:r.2.e=0→r.1≠[]∧(r.1.length:Int)≤2*(r.2.at_-s.at_)-1
 cnt:r.2.e=0→Qsp s r.2 r.1
 fit:∀ p∈r.1,aQ p
structure Tk6 (l:List Tok) (s r:St6):Prop where
 adv:Adv l 1 0 s r
 same:r.e=0→r.sites=s.sites
theorem Xr {l:List Tok} {s:St6} (h:Pos l s) (k:Int) (x:List UInt8):Tk6 l s (Qy l s k x):=⟨Lb h k x,fun he=>by
 rcases bX l s k x with ⟨_,h2⟩|⟨_,_,h2⟩|⟨_,_,h2⟩<;>rw [h2]⟩
theorem Li {l:List Tok} {s:St6} (h:Pos l s) (k:Int):Tk6 l s (Jn l s k).2:=⟨Tk h k,fun he=>by
 rcases Gj l s k with ⟨_,h2⟩|⟨_,_,h2⟩|⟨_,_,_,h2⟩|⟨_,_,_,h2⟩<;>rw [h2]⟩
theorem Zis {l:List Tok} {s:St6} (h:Pos l s) (k:Int) (had:List (List UInt8)):Tk6 l s (Yg l s k had).2:=⟨sF h k had,fun he=>by
 have hN:=(Li h k).same;unfold Yg at he ⊢;split
 ·rename_i a;exact absurd (by rw [if_pos a] at he;exact he) a
 rename_i a;split
 ·rfl
 split
 ·rfl
 ·exact hN (by simpa using a)⟩
theorem Yf {l:List Tok} (hT:Toks l) (s:St6) (k:Int):(Jn l s k).1.length≤1000000:=by
 have ht:(tk l s.at_).text.length≤1000000:=by
  unfold tk;rw [Zd];cases hk:l[s.at_.toNat]? with
  | none=>simp [Us]
  | some x=>exact (hT.ok x (List.mem_of_getElem? hk)).1
 rcases Gj l s k with ⟨_,h2⟩|⟨_,_,h2⟩|⟨_,_,_,h2⟩|⟨_,_,_,h2⟩<;>rw [h2]
 ·simp
 ·simp
 ·simp
 ·exact ht
theorem nT {l:List Tok} (hT:Toks l) (s:St6) (k:Int) (had:List (List UInt8)):(Yg l s k had).1.length≤1000000:=by
 have:=Yf hT s k;unfold Yg;repeat' split
 all_goals exact this
theorem cO {l:List Tok} (hT:Toks l) (s:St6) (v:Int):(Bz l s v).1.length≤1000000:=Yf hT s 1
structure Sq (l:List Tok) (m:Int) (s r:St6) (n:Int) (w:Int→Nat):Prop where
 adv:Adv l m 0 s r
 ok:r.e=0→n≤2*(r.at_-s.at_)
 all:n≤2*(l.length-s.at_)+1
 cnt:r.e=0→∀ z,w z=if (s.sites.length:Int)+1≤z∧z<(r.sites.length:Int)+1 then 1 else 0
theorem Sq.refl {l:List Tok} {s:St6} (h:Pos l s):Sq l 0 s s 0 (fun _=>0) :=
 ⟨Adv.refl h,fun _=>by omega,by have:=h.hi;omega,fun _ z=>by rw [if_neg (by omega)]⟩
theorem Sq.tok {l:List Tok} {m:Int} {s r q:St6} {n:Int} {w:Int→Nat} (h:Sq l m s r n w) (hm:0≤m) (hq:Tk6 l r q):Sq l (m+1) s q n w:=by
 refine ⟨h.adv.trans hq.adv (Int.le_refl _) (Int.le_refl _) (by omega),fun he=>?_,h.all,fun he z=>?_⟩
 ·have h1:=h.ok (hq.adv.ok0 he);have h2:=hq.adv.mono he;omega
 ·have:=h.cnt (hq.adv.ok0 he) z;rw [hq.same he];exact this
theorem Sq.note {l:List Tok} {m m2 q2:Int} {s r:St6} {n:Int} {w:Int→Nat} {t:List Node×St6} (h:Sq l m s r n w) (hq:Noted l m2 q2 r t) (hm:q2≤m) (h2:0≤m+m2):Sq l (m+m2) s t.2 n (fun z=>w z+J0 (Ys z) t.1):=by
 refine ⟨h.adv.trans hq.adv (Int.le_refl _) (Int.le_refl _) (by omega),fun he=>?_,h.all,fun he z=>?_⟩
 ·have h1:=h.ok (hq.adv.ok0 he);have h2:=hq.adv.mono he;omega
 ·have e1:=h.cnt (hq.adv.ok0 he) z;have e2:=hq.cnt he z;have g1:=(h.adv.gain (hq.adv.ok0 he)).1;have g2:=(hq.adv.gain he).1;rw [e1,e2];exact fA (by omega) (by omega)
theorem Sq.read {l:List Tok} {m:Int} {s r:St6} {n:Int} {w:Int→Nat} {t:List Part×St6} (h:Sq l m s r n w) (hm:0≤m) (hq:Reads l r t):Sq l (m+1) s t.2 (n+t.1.length) (fun z=>w z+Wh z t.1):=by
 refine ⟨h.adv.trans hq.adv (Int.le_refl _) (Int.le_refl _) (by omega),fun he=>?_,?_,fun he z=>?_⟩
 ·have h1:=h.ok (hq.adv.ok0 he);have h2:=(hq.ok he).2;omega
 ·by_cases hr:r.e=0
  ·have h1:=h.ok hr;have h2:=hq.len;omega
  ·have h1:=hq.nil hr;rw [h1];have:=h.all;simp only [List.length_nil];omega
 ·have e1:=h.cnt (hq.adv.ok0 he) z;have e2:=hq.cnt he z;have g1:=(h.adv.gain (hq.adv.ok0 he)).1;have g2:=(hq.adv.gain he).1;rw [e1,e2];exact fA (by omega) (by omega)
structure Reads0 (l:List Tok) (s:St6) (r:List Part×St6):Prop where
 adv:Adv l 0 0 s r.2
 len:(r.1.length:Int)≤2*(l.length-s.at_)+3
 ok:r.2.e=0→r.1≠[]∧(r.1.length:Int)≤2*(r.2.at_-s.at_)+1
 cnt:r.2.e=0→Qsp s r.2 r.1
 fit:∀ p∈r.1,aQ p
theorem Sq.done {l:List Tok} {m:Int} {s r:St6} {n:Int} {w:Int→Nat} (h:Sq l m s r n w) (hm:0≤m) {e:List Part} (he:e≠[]) (hn:(e.length:Int)=n+1) (hw:∀ z,Wh z e=w z) (hf:∀ p∈e,aQ p):Reads0 l s (e,r):=by
 refine ⟨h.adv.weak hm (Int.le_refl _),?_,fun h0=>⟨he,?_⟩,fun h0 z=>?_,hf⟩
 ·have:=h.all;show (e.length:Int)≤_;omega
 ·have:=h.ok h0;show (e.length:Int)≤2*(r.at_-s.at_)+1;omega
 ·rw [hw];exact h.cnt h0 z
theorem Reads0.behind {l:List Tok} {s:St6} (hP:Pos l s) (he:s.e=0) (hl:s.at_<l.length) {r:List Part×St6} (h:Reads0 l (X3 s) r):Reads l s r:=by
 rcases Zhc hP hl with hA|hA
 ·have e1:(X3 s).at_=s.at_+1:=rfl;refine ⟨hA.trans h.adv (by omega) (by omega) (by omega),fun hn=>absurd he hn,?_,fun h0=>?_,fun h0 z=>?_,h.fit⟩
  ·have:=h.len;rw [e1] at this;omega
  ·obtain ⟨g1,g2⟩:=h.ok h0;rw [e1] at g2;exact ⟨g1,by omega⟩
  ·exact h.cnt h0 z
 ·exact absurd he hA
section
variable {ex:Qkz} {l:List Tok} {v:Int}
theorem Nv {k m n:Int} {a b c:List UInt8} {t u:List Node} (h1:t.length≤100001) (h2:Ym t) (h3:u.length≤100001) (h4:Ym u) (h5:a.length≤1000000) (h6:b.length≤3000000) (h7:c.length≤1000000):aQ ⟨k,a,b,c,m,n,t,u⟩:=⟨⟨h1,h2⟩,⟨h3,h4⟩,h5,h6,h7⟩
theorem U5 (z:Int) (p:Part) (es:List (Sl Part)):Wh z (W4 p es)=Xi z p+((es.map fun x=>Wh z x.l).sum):=by
 unfold W4;rw [Ar]
 congr 1
 unfold Sc
 induction es with
 | nil=>rfl
 | cons x es ih=>rw [List.flatMap_cons,Iz,ih];rfl
theorem Nq (p:Part) (es:List (Sl Part)):(W4 p es).length=1+((es.map fun x=>x.l.length).sum):=by
 unfold W4 Sc;rw [Zi,List.length_flatMap];omega
theorem Lm {p:Part} {es:List (Sl Part)} (hp:aQ p) (h:∀ x∈es,∀ q∈x.l,aQ q):∀ q∈W4 p es,aQ q:=by
 intro q hq;unfold W4 Sc at hq;rcases Zs.1 hq with rfl|hq
 ·exact hp
 ·obtain ⟨x,hx,Qsy⟩:=List.mem_flatMap.1 hq;exact h x hx q Qsy
theorem Qcy (hT:Toks l) (T0:∀ s,Pos l s→Reads l s (ex s)) (h1:1≤v) (h2:v≤100) {s:St6} (h:Pos l s):Reads0 l s (Qd0 ex l v s):=by
 have q1:=(Sq.refl h).tok (by omega) (Xr h 5 [40])
 have hb:=Ep hT q1.adv.pos (v:=v) fun _=>⟨h1,h2⟩;have q2:=q1.note hb (by omega) (by omega)
 have q3:=q2.tok (by omega) (Xr q2.adv.pos 5 [41])
 have q4:=q3.tok (by omega) (Xr q3.adv.pos 5 [45,62])
 have hr:=T0 _ q4.adv.pos;have q5:=q4.read (by omega) hr
 unfold Qd0;refine q5.done (by omega) (by unfold W4;simp) ?_ (fun z=>?_) (Lm (Nv hb.len hb.named (by simp) Qz (by simp) (by simp) (cO hT _ _)) fun x hx q hq=>?_)
 ·rw [Nq];simp;omega
 ·rw [U5];unfold Xi J0;simp
 ·simp only [Zt] at hx;subst hx;exact hr.fit q hq
theorem Qcx (hT:Toks l) (T0:∀ s,Pos l s→Reads l s (ex s)) (h1:1≤v) (h2:v≤100) {s:St6} (h:Pos l s):Reads0 l s (Qdr ex l v s):=by
 have hb:=Ep hT h (v:=v) fun _=>⟨h1,h2⟩;have q2:=(Sq.refl h).note hb (by omega) (by omega)
 have q3:=q2.tok (by omega) (Xr q2.adv.pos 5 [61])
 have hr:=T0 _ q3.adv.pos;have q4:=q3.read (by omega) hr
 have q5:=q4.tok (by omega) (Xr q4.adv.pos 6 [105,110])
 have jJ:=T0 _ q5.adv.pos;have q6:=q5.read (by omega) jJ
 unfold Qdr;refine q6.done (by omega) (by unfold W4;simp) ?_ (fun z=>?_) (Lm (Nv hb.len hb.named (by simp) Qz (by simp) (by simp) (cO hT _ _)) fun x hx q hq=>?_)
 ·rw [Nq];simp;omega
 ·rw [U5];unfold Xi J0;simp;omega
 ·simp only [Zs,Ee,or_false] at hx;rcases hx with rfl|rfl
  ·exact hr.fit q hq
  ·exact jJ.fit q hq
theorem Qcw (hT:Toks l) (T0:∀ s,Pos l s→Reads l s (ex s)) (h1:1≤v) (h2:v≤100) {s:St6} (h:Pos l s):Reads0 l s (Qcv ex l v s):=by
 have q0:=(Sq.refl h).tok (by omega) (Li h 1)
 have q1:=q0.tok (by omega) (Xr q0.adv.pos 5 [40])
 have hb:=Ep hT q1.adv.pos (v:=v) fun _=>⟨h1,h2⟩;have q2:=q1.note hb (by omega) (by omega)
 have q3:=q2.tok (by omega) (Xr q2.adv.pos 5 [41])
 have hu:=Np hT q3.adv.pos (v:=v) fun _=>⟨h1,h2⟩;have q4:=q3.note hu (by omega) (by omega)
 have q5:=q4.tok (by omega) (Xr q4.adv.pos 5 [61])
 have hr:=T0 _ q5.adv.pos;have q6:=q5.read (by omega) hr
 have q7:=q6.tok (by omega) (Xr q6.adv.pos 6 [105,110])
 have jJ:=T0 _ q7.adv.pos;have q8:=q7.read (by omega) jJ
 unfold Qcv;refine q8.done (by omega) (by unfold W4;simp) ?_ (fun z=>?_) (Lm (Nv hb.len hb.named hu.len hu.named (by simp) (by have:=Yf hT s 1;omega) (cO hT _ _)) fun x hx q hq=>?_)
 ·rw [Nq];simp;omega
 ·rw [U5];unfold Xi;simp;omega
 ·simp only [Zs,Ee,or_false] at hx;rcases hx with rfl|rfl
  ·exact hr.fit q hq
  ·exact jJ.fit q hq
theorem Zxj (T0:∀ s,Pos l s→Reads l s (ex s)) {s:St6} (h:Pos l s):Reads0 l s (Zeg ex l s):=by
 have hr:=T0 _ h;have q1:=(Sq.refl h).read (by omega) hr
 have q2:=q1.tok (by omega) (Xr q1.adv.pos 6 [116,104,101,110])
 have jJ:=T0 _ q2.adv.pos;have q3:=q2.read (by omega) jJ
 have q4:=q3.tok (by omega) (Xr q3.adv.pos 6 [101,108,115,101])
 have Qy3:=T0 _ q4.adv.pos;have q5:=q4.read (by omega) Qy3
 unfold Zeg;refine q5.done (by omega) (by unfold W4;simp) ?_ (fun z=>?_) (Lm (Nv (by simp) Qz (by simp) Qz (by simp) (by simp) (by simp)) fun x hx q hq=>?_)
 ·rw [Nq];simp;omega
 ·rw [U5];unfold Xi J0;simp;omega
 ·simp only [Zs,Ee,or_false] at hx;rcases hx with rfl|rfl|rfl
  ·exact hr.fit q hq
  ·exact jJ.fit q hq
  ·exact Qy3.fit q hq
end
theorem qN {l:List Tok} {s:St6} (h:Pos l s) (he:s.e=0) (hl:s.at_<l.length):Tk6 l s (X3 s):=by
 rcases Zhc h hl with hA|hA
 ·exact ⟨hA,fun _=>rfl⟩
 ·exact absurd he hA
theorem jI {l:List Tok} {s:St6} (h:Pos l s) {k:Int} {x:List UInt8} (hi:Ox l s k x=true):Tk6 l s (X3 s):=qN h (F8 hi).1 (F8 hi).2
theorem Sq.bump {l:List Tok} {m:Int} {s r q:St6} {n:Int} {w:Int→Nat} (h:Sq l m s r n w) (hm:0≤m) (hr:r.e=0) (hq:Tk6 l r q):Sq l (m+1) s q (n+1) w:=by
 have h2:=h.tok hm hq;refine ⟨h2.adv,fun he=>?_,?_,h2.cnt⟩
 ·have h1:=h.ok hr;have h3:=(hq.adv.gain he).2;have h4:=(hq.adv.gain he).1;omega
 ·have h1:=h.ok hr;have h3:=h.adv.hi;omega
theorem Sq.fin {l:List Tok} {m:Int} {s r:St6} {n:Int} {w:Int→Nat} (h:Sq l m s r n w) (hm:1≤m) (h0:s.e=0) {e:List Part} (he:e≠[]) (h1:r.e=0→(e.length:Int)≤2*(r.at_-s.at_)-1) (h2:(e.length:Int)≤2*(l.length-s.at_)+1) (hw:∀ z,Wh z e=w z) (hf:∀ p∈e,aQ p):Reads l s (e,r):=by
 refine ⟨h.adv.weak hm (Int.le_refl _),fun hn=>absurd h0 hn,h2,fun hr=>⟨he,h1 hr⟩,fun hr z=>?_,hf⟩;rw [hw];exact h.cnt hr z
theorem T6 {l:List Tok} {s:St6} (h:Pos l s) {e:Int} (he:e≠0):Reads l s ([],J8 s e):=by
 have e0:(J8 s e).e≠0:=by
  unfold J8;split
  ·exact he
  ·assumption
 have e1:(J8 s e).at_=s.at_:=by unfold J8;split<;>rfl
 have e2:(J8 s e).sites=s.sites:=by unfold J8;split<;>rfl
 have h0:=h.lo;have h1:=h.hi;refine ⟨⟨fun hn=>?_,by rw [e1];exact h0,by rw [e1];exact h1,fun hr=>absurd hr e0,fun _=>by rw [e2];omega,fun hr=>absurd hr e0⟩,fun _=>rfl,?_,fun hr=>absurd hr e0,fun hr=>absurd hr e0,fun p hp=>by cases hp⟩
 ·unfold J8;rw [if_neg hn]
 ·simp only [List.length_nil];omega
theorem Qcz {l:List Tok} {s:St6} (h:Pos l s) (he:s.e≠0):Reads l s ([],s):=by
 have:=T6 h (e:=1) (by decide)
 unfold J8 at this;rwa [if_neg he] at this
theorem Sq.bad {l:List Tok} {m:Int} {s r:St6} {n:Int} {w:Int→Nat} (h:Sq l m s r n w) (hm:0≤m) (hP:Pos l s) (hr:r.e≠0):Reads0 l s ([],r):=by
 refine ⟨h.adv.weak hm (Int.le_refl _),?_,fun h0=>absurd h0 hr,fun h0=>absurd h0 hr,fun p hp=>by cases hp⟩
 have:=hP.hi;simp only [List.length_nil];omega
section
variable {ex:Qkz} {l:List Tok} {v:Int}
theorem Zfw (hT:Toks l) (T0:∀ s,Pos l s→Reads l s (ex s)) (h1:1≤v) (h2:v≤100) {s:St6} (h:Pos l s):Reads0 l s (gA ex l v s):=by
 have q1:=(Sq.refl h).tok (by omega) (Li h 2)
 have q2:=q1.tok (by omega) (Xr q1.adv.pos 5 [61])
 have hr:=T0 _ q2.adv.pos;have q3:=q2.read (by omega) hr
 have hu:=Np hT q3.adv.pos (v:=v) fun _=>⟨h1,h2⟩;have q4:=q3.note hu (by omega) (by omega)
 have q5:=q4.tok (by omega) (Xr q4.adv.pos 5 [93])
 unfold gA;refine q5.done (by omega) (by unfold W4;simp) ?_ (fun z=>?_) (Lm (Nv hu.len hu.named (by simp) Qz (by simp) (by have:=Yf hT s 2;omega) (by simp)) fun x hx q hq=>?_)
 ·rw [Nq];simp;omega
 ·rw [U5];unfold Xi;rw [show J0 (Ys z) ([]:List Node)=0 from rfl];simp;omega
 ·simp only [Zt] at hx;subst hx;exact hr.fit q hq
theorem Sq.leaf {l:List Tok} {m:Int} {s r:St6} (h:Sq l m s r 0 fun _=>0) (hm:0≤m) {p:Part} (hp:∀ z,Xi z p=0) (hf:aQ p):Reads0 l s ([p],r):=by
 refine h.done hm (by simp) (by simp) (fun z=>?_) (fun q hq=>?_)
 ·rw [Ar,hp];rfl
 ·rw [Zt.1 hq];exact hf
theorem Zjd (hT:Toks l) (T0:∀ s,Pos l s→Reads l s (ex s)) (h1:1≤v) (h2:v≤100) {s:St6} (h:Pos l s):Reads0 l s (rK ex l v s):=by
 unfold rK;split
 ·rename_i hi;refine ((Sq.refl h).tok (by omega) (jI h hi)).leaf (by omega) (fun z=>by rfl) (Nv (by simp) (fun n hn=>?_) (by simp) Qz (by simp) (by simp) (by simp))
  rw [Zt.1 hn];simp
 ·have hr:=T0 _ h;have q1:=(Sq.refl h).read (by omega) hr
  dsimp only
  split
  ·rename_i hi;have q2:=q1.tok (by omega) (jI q1.adv.pos hi)
   have hu:=eW hT q2.adv.pos (v:=v) fun _=>⟨h1,h2⟩;have q4:=q2.note hu (by omega) (by omega)
   have q5:=q4.tok (by omega) (Xr q4.adv.pos 5 [41])
   refine q5.done (by omega) (by unfold W4;simp) ?_ (fun z=>?_) (Lm (Nv hu.len hu.named (by simp) Qz (by simp) (by simp) (by simp)) fun x hx q hq=>?_)
   ·rw [Nq];simp;omega
   ·rw [U5];unfold Xi;rw [show J0 (Ys z) ([]:List Node)=0 from rfl];simp;omega
   ·simp only [Zt] at hx;subst hx;exact hr.fit q hq
  ·have q2:=q1.tok (by omega) (Xr q1.adv.pos 5 [41])
   refine ⟨q2.adv.weak (by omega) (Int.le_refl _),by have:=hr.len;show ((ex s).1.length:Int)≤_;omega,fun h0=>?_,fun h0 z=>?_,hr.fit⟩
   ·have g:=hr.ok ((Xr q1.adv.pos 5 [41]).adv.ok0 h0);have:=(Xr q1.adv.pos 5 [41]).adv.mono h0;exact ⟨g.1,by have:=g.2;show ((ex s).1.length:Int)≤2*((Qy l (ex s).2 5 [41]).at_-s.at_)+1;omega⟩
   ·have:=q2.cnt h0 z;simp only [Nat.zero_add] at this;exact this
end
theorem Av {l:List Tok} {s:St6} {k:Int} {had:List (List UInt8)} (h:(Yg l s k had).2.e=0):had.length<50:=by
 rcases Nat.lt_or_ge had.length 50 with h1|h1
 ·exact h1
 ·exfalso;unfold Yg at h;by_cases ha:(Jn l s k).2.e=0
  ·rw [if_neg (by simpa using ha)] at h
   by_cases hb:in6 had (Jn l s k).1=true
   ·rw [if_pos hb] at h;exact absurd h (by show ¬ (7:Int)=0;decide)
   ·rw [if_neg hb,if_pos h1] at h;exact absurd h (by show ¬ (3:Int)=0;decide)
  ·rw [if_pos ha] at h;exact ha h
section
variable {ex:Qkz} {l:List Tok} {v:Int}
theorem pT (hT:Toks l) (T0:∀ s,Pos l s→Reads l s (ex s)) {s0:St6} (hP:Pos l s0):∀ (f:Nat) (s:St6) (had:List (List UInt8)) (body:List Part) (m:Int) (w:Int→Nat),Sq l m s0 s body.length w→0≤m→(∀ z,Wh z body=w z)→(∀ p∈body,aQ p)→had.length≤50→had.length+f=51→Reads0 l s0 (sB ex l f s had body)
 | 0,s,had,body,m,w,_,_,_,_,h1,h2=>by omega
 | f+1,s,had,body,m,w,hq,hm,hw,hf,h1,h2=>by
  have t1:=Zis hq.adv.pos 2 had;have q1:=hq.tok hm t1;have t2:=Li q1.adv.pos 1;have q2:=q1.tok (by omega) t2
  have t3:=Xr q2.adv.pos 5 [45,62];have hr:=T0 _ t3.adv.pos;rw [sB];split
  ·rename_i he;exact ((q2.tok (by omega) t3).read (by omega) hr).bad (by omega) hP he
  rename_i he;have he:(Gw ex l s had).2.2.2.e=0:=by simpa using he
  have Zfb:=t3.adv.ok0 (hr.adv.ok0 he);have Qiy:=t2.adv.ok0 Zfb;have q3:=q2.bump (by omega) Zfb t3
  have q4:=q3.read (by omega) hr
  have Zb9:=nT hT s 2 had;have Qwj:=Yf hT (Yg l s 2 had).2 1;have M8:∀ p∈body++W4 ⟨8,(Gw ex l s had).1,[],(Gw ex l s had).2.1,0,0,[],[]⟩ [⟨(Gw ex l s had).2.2.1⟩],aQ p:=by
   intro p hp;rcases List.mem_append.1 hp with hp|hp
   ·exact hf p hp
   ·refine Lm (Nv (by simp) Qz (by simp) Qz Zb9 (by simp) Qwj) (fun x hx q hq=>?_) p hp
    simp only [Zt] at hx;subst hx;exact hr.fit q hq
  have Q5:(((body++W4 ⟨8,(Gw ex l s had).1,[],(Gw ex l s had).2.1,0,0,[],[]⟩ [⟨(Gw ex l s had).2.2.1⟩]).length:Nat):Int)=body.length+1+(ex (Qy l (Jn l (Yg l s 2 had).2 1).2 5 [45,62])).1.length:=by
   rw [Ze,Nq];unfold Gw;simp;omega
  have Qk3:∀ z,Wh z (body++W4 ⟨8,(Gw ex l s had).1,[],(Gw ex l s had).2.1,0,0,[],[]⟩ [⟨(Gw ex l s had).2.2.1⟩])=w z+Wh z (ex (Qy l (Jn l (Yg l s 2 had).2 1).2 5 [45,62])).1:=fun z=>by
   rw [Iz,U5,hw];unfold Gw Xi;rw [show J0 (Ys z) ([]:List Node)=0 from rfl];simp
  rw [←Q5] at q4;split
  ·have q5:=q4.tok (by omega) (Xr q4.adv.pos 6 [101,110,100])
   refine q5.done (by omega) (by simp) ?_ (fun z=>?_) (fun p hp=>?_)
   ·simp only [Zi];omega
   ·rw [Ar,Qk3];unfold Xi;rw [show J0 (Ys z) ([]:List Node)=0 from rfl];simp
   ·rcases Zs.1 hp with rfl|hp
    ·exact Nv (by simp) Qz (by simp) Qz (by simp) (by simp) (by simp)
    ·exact M8 p hp
  ·rename_i hi;have hi:Ox l (Gw ex l s had).2.2.2 5 [124]=true:=by simpa using hi
   have q5:=q4.tok (by omega) (jI q4.adv.pos hi)
   have hh:=Av Qiy;exact pT hT T0 hP f _ _ _ _ _ q5 (by omega) Qk3 M8 (by simp;omega) (by simp;omega)
theorem Zje (hT:Toks l) (T0:∀ s,Pos l s→Reads l s (ex s)) {s:St6} (h:Pos l s):Reads0 l s (Zad ex l s):=by
 have hr:=T0 _ h;have q1:=(Sq.refl h).read (by omega) hr
 have q2:=q1.tok (by omega) (Xr q1.adv.pos 6 [111,102])
 rw [show (0:Int)+(ex s).1.length=(ex s).1.length by omega] at q2
 exact pT hT T0 h 51 _ [] _ _ _ q2 (by omega) (fun z=>by simp) hr.fit (by simp) (by simp)
theorem Qj5 (x:List UInt8) (e:List Part):(Zgc x e).length=e.length:=by cases e<;>rfl
theorem Qrn (x:List UInt8) (z:Int) (e:List Part):Wh z (Zgc x e)=Wh z e:=by cases e<;>rfl
theorem Qj6 {x:List UInt8} (hx:x.length≤1000000) {e:List Part} (h:∀ p∈e,aQ p):∀ p∈Zgc x e,aQ p:=by
 cases e with
 | nil=>intro p hp;cases hp
 | cons q e =>
  intro p hp;rcases Zs.1 hp with rfl|hp
  ·have:=h q (List.mem_cons_self ..);exact ⟨this.1,this.2.1,hx,this.2.2.2.1,this.2.2.2.2⟩
  ·exact h p (List.mem_cons_of_mem _ hp)
theorem sU (hT:Toks l) (T0:∀ s,Pos l s→Reads l s (ex s)) {s0:St6} (hP:Pos l s0):∀ (f:Nat) (s:St6) (had:List (List UInt8)) (body:List Part) (m:Int) (w:Int→Nat),Sq l m s0 s body.length w→0≤m→(∀ z,Wh z body=w z)→(∀ p∈body,aQ p)→had.length≤50→had.length+f=51→Reads0 l s0 (rZ ex l f s had body)
 | 0,s,had,body,m,w,_,_,_,_,h1,h2=>by omega
 | f+1,s,had,body,m,w,hq,hm,hw,hf,h1,h2=>by
  have t1:=Zis hq.adv.pos 1 had;have q1:=hq.tok hm t1;have t3:=Xr q1.adv.pos 5 [61];have q3:=q1.tok (by omega) t3
  have hr:=T0 _ t3.adv.pos;have q4:=q3.read (by omega) hr
  rw [rZ];split
  ·rename_i he;exact q4.bad (by omega) hP he
  rename_i he;have he:(ex (Qy l (Yg l s 1 had).2 5 [61])).2.e=0:=by simpa using he
  have Qiy:=t3.adv.ok0 (hr.adv.ok0 he);have Zb9:=nT hT s 1 had;have M8:∀ p∈body++Zgc (Yg l s 1 had).1 (ex (Qy l (Yg l s 1 had).2 5 [61])).1,aQ p:=by
   intro p hp;rcases List.mem_append.1 hp with hp|hp
   ·exact hf p hp
   ·exact Qj6 Zb9 hr.fit p hp
  have Q5:(((body++Zgc (Yg l s 1 had).1 (ex (Qy l (Yg l s 1 had).2 5 [61])).1).length:Nat):Int)=body.length+(ex (Qy l (Yg l s 1 had).2 5 [61])).1.length:=by
   rw [Ze,Qj5];omega
  have Qk3:∀ z,Wh z (body++Zgc (Yg l s 1 had).1 (ex (Qy l (Yg l s 1 had).2 5 [61])).1)=w z+Wh z (ex (Qy l (Yg l s 1 had).2 5 [61])).1:=fun z=>by
   rw [Iz,Qrn,hw]
  rw [←Q5] at q4;split
  ·have q5:=q4.tok (by omega) (Xr q4.adv.pos 5 [125])
   refine q5.done (by omega) (by simp) ?_ (fun z=>?_) (fun p hp=>?_)
   ·simp only [Zi];omega
   ·rw [Ar,Qk3];unfold Xi;rw [show J0 (Ys z) ([]:List Node)=0 from rfl];simp
   ·rcases Zs.1 hp with rfl|hp
    ·exact Nv (by simp) Qz (by simp) Qz (by simp) (by simp) (by simp)
    ·exact M8 p hp
  ·rename_i hi;have hi:Ox l (ex (Qy l (Yg l s 1 had).2 5 [61])).2 5 [44]=true:=by simpa using hi
   have q5:=q4.tok (by omega) (jI q4.adv.pos hi)
   have hh:=Av Qiy;exact sU hT T0 hP f _ _ _ _ _ q5 (by omega) Qk3 M8 (by simp;omega) (by simp;omega)
theorem Zxh (hT:Toks l) (T0:∀ s,Pos l s→Reads l s (ex s)) {s:St6} (h:Pos l s):Reads0 l s (Zct ex l s):=by
 unfold Zct;split
 ·rename_i hi;exact ((Sq.refl h).tok (by omega) (jI h hi)).leaf (by omega) (fun z=>by rfl) (Nv (by simp) Qz (by simp) Qz (by simp) (by simp) (by simp))
 ·exact sU hT T0 h 51 _ [] _ _ _ (Sq.refl h) (by omega) (fun z=>rfl) (fun p hp=>by cases hp) (by simp) (by simp)
end
theorem cP {l:List Tok} {s:St6} (h:Mj l s=true):s.e=0∧s.at_<l.length:=by
 unfold Mj at h;split at h
 ·cases h
 ·rename_i a;by_cases he:s.e=0
  ·refine ⟨he,?_⟩;by_cases hl:s.at_<l.length
   ·exact hl
   ·exact absurd (.inr (by omega)) a
  ·exact absurd (.inl he) a
theorem Zxa {l:List Tok} {b:Int} {s:St6} (h:An l b s=true):s.e=0∧s.at_<l.length:=by
 unfold An at h;simp only [Zg,Zj,Jj] at h;exact ⟨h.1,h.2.1⟩
theorem aC {l:List Tok} (hT:Toks l) (i:Int):(tk l i).text.length≤1000000:=by
 unfold tk;rw [Zd];cases hk:l[i.toNat]? with
 | none=>simp [Us]
 | some x=>exact (hT.ok x (List.mem_of_getElem? hk)).1
section
variable {ex:Qkz} {l:List Tok} {v:Int}
theorem aT {s:St6} (h:Pos l s) (he:s.e=0) (hl:s.at_<l.length) {p:Part} (hp:∀ z,Xi z p=0) (hf:aQ p):Reads l s ([p],X3 s) :=
 Reads0.behind h he hl ((Sq.refl (qN h he hl).adv.pos).leaf (by omega) hp hf)
theorem yU {k m n i:Int} {c:List UInt8} (h:c.length≤3000000):aQ ⟨k,[],c,[],m,n,[⟨i,[],0⟩],[]⟩ :=
 Nv (by simp) (fun x hx=>by rw [Zt.1 hx];simp) (by simp) Qz (by simp) h (by simp)
theorem xY (hT:Toks l) (T0:∀ s,Pos l s→Reads l s (ex s)) (h1:1≤v) (h2:v≤100) {s:St6} (h:Pos l s):Reads l s (Zan ex l v s):=by
 unfold Zan;by_cases hb:s.e≠0∨Mj l s=false
 ·rw [if_pos hb];exact T6 h (by decide)
 rw [if_neg hb];have hb:Mj l s=true:=by
  cases hx:Mj l s
  ·exact absurd (.inr hx) hb
  ·rfl
 obtain ⟨he,hl⟩:=cP hb;have hP:=(qN h he hl).adv.pos;have ht:=aC hT s.at_
 dsimp only
 split
 ·exact aT h he hl (fun z=>by rfl) (yU (by simp))
 split
 ·exact aT h he hl (fun z=>by rfl) (yU (by omega))
 split
 ·exact aT h he hl (fun z=>by rfl) (yU (by simp))
 split
 ·split
  ·exact aT h he hl (fun z=>by rfl) (Nv (by simp) Qz (by simp) Qz (by simp) (by omega) (by simp))
  ·rename_i hi;have hi:Ox l (X3 s) 5 [33]=true:=by simpa using hi
   have q1:=(Sq.refl hP).tok (by omega) (jI hP hi)
   have q2:=q1.tok (by omega) (Li q1.adv.pos 1)
   have hn:=Yf hT (X3 (X3 s)) 1;exact Reads0.behind h he hl (q2.leaf (by omega) (fun z=>by rfl) (Nv (by simp) Qz (by simp) Qz (by simp) (by simp;omega) (by simp)))
 split
 ·exact Reads0.behind h he hl (Zjd hT T0 h1 h2 hP)
 split
 ·exact Reads0.behind h he hl (Zxh hT T0 hP)
 ·exact Reads0.behind h he hl (Zfw hT T0 h1 h2 hP)
theorem eV (hT:Toks l) {s:St6}:∀ (f:Nat) (r:List Part×St6),Pos l s→Reads l s r→Reads l s (nK l f r)
 | 0,r,_,h=>h
 | f+1,r,hP,h=>by
  rw [nK];split
  ·exact h
  rename_i hi;have hi:Ox l r.2 5 [46]=true:=by simpa using hi
  have he:=(F8 hi).1;have hs:=h.adv.ok0 he;have q1:=(Sq.refl hP).read (by omega) h
  have t2:=jI q1.adv.pos hi;have q2:=q1.tok (by omega) t2
  have t3:=Li q2.adv.pos 1;have q3:=q2.tok (by omega) t3
  have hn:=Yf hT (X3 r.2) 1;have hk:=(h.ok he).2;have hm:=h.adv.hi;have hl:=(F8 hi).2;have ha:(X3 r.2).at_=r.2.at_+1:=rfl;refine eV hT f _ hP (q3.fin (by omega) hs (by unfold W4;simp) (fun h0=>?_) ?_ (fun z=>?_) (Lm (Nv (by simp) Qz (by simp) Qz (by simp) (by omega) (by simp)) fun x hx q hq=>?_))
  ·have:=t3.adv.mono h0;rw [Nq];simp;omega
  ·rw [Nq];simp;omega
  ·rw [U5];unfold Xi;rw [show J0 (Ys z) ([]:List Node)=0 from rfl];simp
  ·simp only [Zt] at hx;subst hx;exact h.fit q hq
theorem aS (hT:Toks l) (T0:∀ s,Pos l s→Reads l s (ex s)) (h1:1≤v) (h2:v≤100) {s:St6} (h:Pos l s):Reads l s (tJ ex l v s) :=
 eV hT _ _ h (xY hT T0 h1 h2 h)
theorem Zcy {s a:St6} {r x:List Part×St6} (hP:Pos l s) (h:Reads l s r) (hs:s.e=0) (he:r.2.e=0) (hx:Reads l a x) {m:Int} (q:Sq l m s a r.1.length fun z=>Wh z r.1) (hm:0≤m) (ha:r.2.at_≤a.at_) (Qo1:a.at_≤l.length) {p:Part} (hp:∀ z,Xi z p=0) (hf:aQ p):Reads l s (W4 p [⟨r.1⟩,⟨x.1⟩],x.2):=by
 have q2:=q.read hm hx;have hk:=(h.ok he).2;have hn:=hx.len;refine q2.fin (by omega) hs (by unfold W4;simp) (fun h0=>?_) ?_ (fun z=>?_) (Lm hf fun y hy t ht=>?_)
 ·have:=(hx.ok h0).2;rw [Nq];simp;omega
 ·rw [Nq];simp;omega
 ·rw [U5,hp];simp
 ·simp only [Zs,Ee,or_false] at hy;rcases hy with rfl|rfl
  ·exact h.fit t ht
  ·exact hx.fit t ht
theorem Fu (hT:Toks l) (T0:∀ s,Pos l s→Reads l s (ex s)) (h1:1≤v) (h2:v≤100) {s:St6}:∀ (f:Nat) (r:List Part×St6),Pos l s→Reads l s r→Reads l s (Ll ex l v f r)
 | 0,r,_,h=>h
 | f+1,r,hP,h=>by
  rw [Ll];split
  ·exact h
  rename_i hi;obtain ⟨he,hl⟩:=cP (by simpa using hi:Mj l r.2=true)
  have hs:=h.adv.ok0 he;have q1:=(Sq.refl hP).read (by omega) h
  simp only [Int.zero_add,Nat.zero_add] at q1;exact Fu hT T0 h1 h2 f _ hP (Zcy hP h hs he (aS hT T0 h1 h2 q1.adv.pos) q1 (by omega) (Int.le_refl _) (by omega) (fun z=>by rfl) (Nv (by simp) Qz (by simp) Qz (by simp) (by simp) (by simp)))
theorem Zbf (hT:Toks l) (T0:∀ s,Pos l s→Reads l s (ex s)) (h1:1≤v) (h2:v≤100) {s:St6} (h:Pos l s):Reads l s (Ol ex l v s) :=
 Fu hT T0 h1 h2 _ _ h (aS hT T0 h1 h2 h)
theorem lB (hT:Toks l) {b:Int} {sub:Qkz} (Zhj:∀ s,Pos l s→Reads l s (sub s)) {s:St6}:∀ (f:Nat) (r:List Part×St6),Pos l s→Reads l s r→Reads l s (Zf4 l b sub f r)
 | 0,r,_,h=>h
 | f+1,r,hP,h=>by
  rw [Zf4];split
  ·exact h
  rename_i hi;obtain ⟨he,hl⟩:=Zxa (by simpa using hi:An l b r.2=true)
  have hs:=h.adv.ok0 he;have q1:=(Sq.refl hP).read (by omega) h
  simp only [Int.zero_add,Nat.zero_add] at q1;have t2:=qN q1.adv.pos he hl;have q2:=q1.tok (by omega) t2
  have ha:(X3 r.2).at_=r.2.at_+1:=rfl;have hn:=aC hT r.2.at_;exact lB hT Zhj f _ hP (Zcy hP h hs he (Zhj _ q2.adv.pos) q2 (by omega) (by omega) (by omega) (fun z=>by rfl) (Nv (by simp) Qz (by simp) Qz (by simp) (by omega) (by simp)))
theorem Oh (hT:Toks l) (T0:∀ s,Pos l s→Reads l s (ex s)) (h1:1≤v) (h2:v≤100):∀ (m:Nat) (s:St6),Pos l s→Reads l s (Zbg ex l v m s)
 | 0,s,h=>Zbf hT T0 h1 h2 h
 | m+1,s,h=>lB hT (Oh hT T0 h1 h2 m) _ _ h (Oh hT T0 h1 h2 m s h)
theorem Zxi (hT:Toks l) (T0:∀ s,Pos l s→Reads l s (ex s)) (h1:1≤v) (h2:v≤100) {s:St6} (h:Pos l s):Reads l s (Zlm ex l v s):=by
 unfold Zlm;by_cases he:s.e=0
 ·rw [if_neg (by simpa using he)]
  split
  ·rename_i hk;have hP:=(qN h he hk.1).adv.pos;split
   ·exact Reads0.behind h he hk.1 (Qcy hT T0 h1 h2 hP)
   split
   ·exact Reads0.behind h he hk.1 (Qcx hT T0 h1 h2 hP)
   split
   ·exact Reads0.behind h he hk.1 (Qcw hT T0 h1 h2 hP)
   split
   ·exact Reads0.behind h he hk.1 (Zxj T0 hP)
   split
   ·exact Reads0.behind h he hk.1 (Zje hT T0 hP)
   ·exact Oh hT T0 h1 h2 5 s h
  ·exact Oh hT T0 h1 h2 5 s h
 ·rw [if_pos he];exact Qcz h he
end
theorem Jm {l:List Tok} (hT:Toks l):∀ (d:Nat),d≤100→∀ (s:St6),Pos l s→Reads l s (J1 l d s)
 | 0,_,s,h=>T6 h (by decide)
 | d+1,hd,s,h=>Zxi hT (Jm hT d (by omega)) (by omega) (by omega) h
structure St6In (l:List Tok) (s:St6):Prop where
 toks:Toks l
 pos:Pos l s
 all:s.sites.length≤850000
 ok:s.e=0→(s.sites.length:Int)≤700000+s.at_
theorem St6In.go {l:List Tok} {s r:St6} (h:St6In l s) {m q:Int} (hA:Adv l m q s r) (hm:0≤m) (hq:q≤1):St6In l r:=by
 have hl:=h.toks.len;refine ⟨h.toks,hA.pos,?_,fun he=>?_⟩
 ·by_cases he:s.e=0
  ·have:=hA.room he;have:=h.ok he;omega
  ·rw [hA.err he];exact h.all
 ·have hs:=hA.ok0 he;have:=h.ok hs;have:=(hA.gain he).2;omega
theorem St6In.ok6 {l:List Tok} {s:St6} (h:St6In l s):St6Ok l s :=
 ⟨h.toks.len,h.pos.lo,h.pos.hi,by have:=h.all;omega,fun t ht=>(h.toks.ok t ht).1,fun t ht=>(h.toks.ok t ht).2⟩
theorem St6In.nums {l:List Tok} {s:St6} (h:St6In l s):l.length≤1000000∧0≤s.at_∧s.at_≤2000000:=by
 have h1:=h.toks.len;have h2:=h.pos.lo;have h3:=h.pos.hi;exact ⟨by omega,h2,by omega⟩
theorem St6In.needs {l:List Tok} {s:St6} (h:St6In l s) (k:Int) (x:List UInt8):St6In l (Qy l s k x):=h.go (Lb h.pos k x) (by omega) (by omega)
theorem St6In.named {l:List Tok} {s:St6} (h:St6In l s) (k:Int):St6In l (Jn l s k).2:=h.go (Tk h.pos k) (by omega) (by omega)
theorem St6In.label {l:List Tok} {s:St6} (h:St6In l s) (k:Int) (had:List (List UInt8)):St6In l (Yg l s k had).2:=h.go (sF h.pos k had) (by omega) (by omega)
theorem St6In.expr {l:List Tok} {s:St6} (h:St6In l s) {d:Nat} (hd:d≤100):St6In l (J1 l d s).2:=h.go (Jm h.toks d hd s h.pos).adv (by omega) (by omega)
theorem St6In.adv {l:List Tok} {s:St6} (h:St6In l s) (he:s.e=0) (hl:s.at_<l.length):St6In l (X3 s):=h.go (qN h.pos he hl).adv (by omega) (by omega)
theorem St6In.is {l:List Tok} {s:St6} (h:St6In l s) {k:Int} {x:List UInt8} (hi:Ox l s k x=true):St6In l (X3 s):=h.adv (F8 hi).1 (F8 hi).2
theorem Xg {l:List Tok} {s:St6} {r:List Part×St6} (h:St6In l s) (hR:Reads l s r):r.1.length≤300000:=by
 have h1:=hR.len;have h2:=h.toks.len;have h3:=h.pos.lo;omega
def W9 (n:Nat):Con:=Jt (fun (l:Sl Tok) (s:St6) (v:Int)=>St6In l.l s∧1≤v∧v≤101∧20*(101-v)+12<n) (fun l s v=>J1 l.l (101-v).toNat s)
theorem Ac:type_of% @W9.eq_def:=@W9.eq_def
def Rr (n:Nat):Con:=Jt (fun (l:Sl Tok) (s:St6) (v:Int)=>St6In l.l s∧1≤v∧v≤100∧20*(101-v)+5<n) (fun l s v=>Qd0 (J1 l.l (100-v).toNat) l.l v s)
def Rn (n:Nat):Con:=Jt (fun (l:Sl Tok) (s:St6) (v:Int)=>St6In l.l s∧1≤v∧v≤100∧20*(101-v)+5<n) (fun l s v=>Qdr (J1 l.l (100-v).toNat) l.l v s)
def Rk (n:Nat):Con:=Jt (fun (l:Sl Tok) (s:St6) (v:Int)=>St6In l.l s∧1≤v∧v≤100∧20*(101-v)+5<n) (fun l s v=>Qcv (J1 l.l (100-v).toNat) l.l v s)
def Tb (n:Nat):Con:=Jt (fun (l:Sl Tok) (s:St6) (v:Int)=>St6In l.l s∧1≤v∧v≤100∧20*(101-v)+5<n) (fun l s v=>Zeg (J1 l.l (100-v).toNat) l.l s)
def Bw (n:Nat):Con:=Jt (fun (l:Sl Tok) (s:St6) (v:Int)=>St6In l.l s∧1≤v∧v≤100∧20*(101-v)+5<n) (fun l s v=>Zad (J1 l.l (100-v).toNat) l.l s)
def Gt (n:Nat):Con:=Jt (fun (l:Sl Tok) (s:St6) (v:Int)=>St6In l.l s∧1≤v∧v≤100∧20*(101-v)+5<n) (fun l s v=>Ol (J1 l.l (100-v).toNat) l.l v s)
def S9 (n:Nat):Con:=Jt (fun (l:Sl Tok) (s:St6) (v:Int)=>St6In l.l s∧1≤v∧v≤100∧20*(101-v)+4<n) (fun l s v=>tJ (J1 l.l (100-v).toNat) l.l v s)
def Td (n:Nat):Con:=Jt (fun (l:Sl Tok) (s:St6) (v:Int)=>St6In l.l s∧1≤v∧v≤100∧20*(101-v)+3<n) (fun l s v=>Zan (J1 l.l (100-v).toNat) l.l v s)
def Bu (n:Nat):Con:=Jt (fun (l:Sl Tok) (s:St6) (v:Int)=>St6In l.l s∧2≤v∧v≤101∧20*(101-v)+13<n) (fun l s v=>rK (J1 l.l (101-v).toNat) l.l (v-1) s)
def S7 (n:Nat):Con:=Jt (fun (l:Sl Tok) (s:St6) (v:Int)=>St6In l.l s∧2≤v∧v≤101∧20*(101-v)+13<n) (fun l s v=>Zct (J1 l.l (101-v).toNat) l.l s)
def N0 (n:Nat):Con:=Jt (fun (l:Sl Tok) (s:St6) (v:Int)=>St6In l.l s∧2≤v∧v≤101∧20*(101-v)+13<n) (fun l s v=>gA (J1 l.l (101-v).toNat) l.l (v-1) s)
def Ci (n:Nat):Con:=O7 (fun (l:Sl Tok) (s:St6) (v b:Int)=>St6In l.l s∧1≤v∧v≤100∧0≤b∧b≤5∧20*(101-v)+(11-b)<n) (fun l s v b=>Zbg (J1 l.l (100-v).toNat) l.l v (5-b).toNat s)
structure IH6 (n:Nat):Prop where
 expr:Qc Tryz.prog (186,W9 n)
 fun_:Qc Tryz.prog (225,Rr n)
 let_:Qc Tryz.prog (226,Rn n)
 rec_:Qc Tryz.prog (227,Rk n)
 cond:Qc Tryz.prog (228,Tb n)
 cases:Qc Tryz.prog (229,Bw n)
 operand:Qc Tryz.prog (254,Gt n)
 part:Qc Tryz.prog (260,S9 n)
 atom:Qc Tryz.prog (266,Td n)
 paren:Qc Tryz.prog (271,Bu n)
 rows:Qc Tryz.prog (272,S7 n)
 inject:Qc Tryz.prog (273,N0 n)
 ops:Qc Tryz.prog (230,Ci n)
theorem zR:∀ c,¬ (W9 0).pre c:=by
 intro c h;unfold W9 at h;obtain ⟨_,_,_,_,_,_,_,h⟩:=Xc h;omega
theorem Zbw:∀ c,¬ (Rr 0).pre c:=by
 intro c h;unfold Rr at h;obtain ⟨_,_,_,_,_,_,_,h⟩:=Xc h;omega
theorem Zbv:∀ c,¬ (Rn 0).pre c:=by
 intro c h;unfold Rn at h;obtain ⟨_,_,_,_,_,_,_,h⟩:=Xc h;omega
theorem Zbs:∀ c,¬ (Rk 0).pre c:=by
 intro c h;unfold Rk at h;obtain ⟨_,_,_,_,_,_,_,h⟩:=Xc h;omega
theorem zS:∀ c,¬ (Tb 0).pre c:=by
 intro c h;unfold Tb at h;obtain ⟨_,_,_,_,_,_,_,h⟩:=Xc h;omega
theorem vJ:∀ c,¬ (Bw 0).pre c:=by
 intro c h;unfold Bw at h;obtain ⟨_,_,_,_,_,_,_,h⟩:=Xc h;omega
theorem pB:∀ c,¬ (Gt 0).pre c:=by
 intro c h;unfold Gt at h;obtain ⟨_,_,_,_,_,_,_,h⟩:=Xc h;omega
theorem zN:∀ c,¬ (S9 0).pre c:=by
 intro c h;unfold S9 at h;obtain ⟨_,_,_,_,_,_,_,h⟩:=Xc h;omega
theorem zT:∀ c,¬ (Td 0).pre c:=by
 intro c h;unfold Td at h;obtain ⟨_,_,_,_,_,_,_,h⟩:=Xc h;omega
theorem vX:∀ c,¬ (Bu 0).pre c:=by
 intro c h;unfold Bu at h;obtain ⟨_,_,_,_,_,_,_,h⟩:=Xc h;omega
theorem zL:∀ c,¬ (S7 0).pre c:=by
 intro c h;unfold S7 at h;obtain ⟨_,_,_,_,_,_,_,h⟩:=Xc h;omega
theorem sW:∀ c,¬ (N0 0).pre c:=by
 intro c h;unfold N0 at h;obtain ⟨_,_,_,_,_,_,_,h⟩:=Xc h;omega
theorem Zbu:∀ c,¬ (Ci 0).pre c:=by
 intro c h;unfold Ci at h;obtain ⟨_,_,_,_,_,_,_,_,_,_,h⟩:=Zly h;omega
theorem Y4 {a:Int} {b c d:List UInt8} {e f:Int} {g:List Node}:Ul Part (.agg [.int .i64 a,.str b,.str c,.str d,.int .i64 e,.int .i64 f,.list 3 (g.map enc),.list 3 []])=True:=eq_true (Wc (Part.mk a b c d e f g []))
theorem Y6 {a:Int} {b c d:List UInt8} {e f:Int} {g:List Node}:(dec (.agg [.int .i64 a,.str b,.str c,.str d,.int .i64 e,.int .i64 f,.list 3 (g.map enc),.list 3 []]):Part)=⟨a,b,c,d,e,f,g,[]⟩:=Enc.dec_enc (Part.mk a b c d e f g [])
theorem Vi {a:Int} {b c d:List UInt8} {e f:Int}:Ul Part (.agg [.int .i64 a,.str b,.str c,.str d,.int .i64 e,.int .i64 f,.list 3 [],.list 3 []])=True:=eq_true (Wc (Part.mk a b c d e f [] []))
theorem Vl {a:Int} {b c d:List UInt8} {e f:Int}:(dec (.agg [.int .i64 a,.str b,.str c,.str d,.int .i64 e,.int .i64 f,.list 3 [],.list 3 []]):Part)=⟨a,b,c,d,e,f,[],[]⟩:=Enc.dec_enc (Part.mk a b c d e f [] [])
theorem Vh {a:Int} {b c d:List UInt8} {e f:Int} {g:List Node}:Ul Part (.agg [.int .i64 a,.str b,.str c,.str d,.int .i64 e,.int .i64 f,enc (Sl.mk g),.list 3 []])=True:=Y4
theorem Vk {a:Int} {b c d:List UInt8} {e f:Int} {g:List Node}:(dec (.agg [.int .i64 a,.str b,.str c,.str d,.int .i64 e,.int .i64 f,enc (Sl.mk g),.list 3 []]):Part)=⟨a,b,c,d,e,f,g,[]⟩:=Y6
theorem Yh {a:Int} {b c d:List UInt8} {e f:Int} {g h:List Node}:Ul Part (.agg [.int .i64 a,.str b,.str c,.str d,.int .i64 e,.int .i64 f,enc (Sl.mk g),enc (Sl.mk h)])=True:=Qa
theorem Yk {a:Int} {b c d:List UInt8} {e f:Int} {g h:List Node}:(dec (.agg [.int .i64 a,.str b,.str c,.str d,.int .i64 e,.int .i64 f,enc (Sl.mk g),enc (Sl.mk h)]):Part)=⟨a,b,c,d,e,f,g,h⟩:=Qb
theorem Zw8 (n:Nat) (ih:IH6 n):Qc Tryz.prog (225,(Rr (n+1))):=by
 obtain ⟨Kx,Kt,Kc,Kd,Kb,Ku,Kw,K,X4,V2,Mo,Tx,_⟩:=J7 Zx Zo [] false (Q1 Gn Lf (Q1 eM Tc.eq_def (Q1 good_made6 Hk (Q1 ih.expr (Ac n) J5))));have Ko:=(Rr.eq_def (n+1));refine J9 K Tryz.func225 [.tmp 6,.cell 7 137] rfl 43 rfl (fun c hc Ji Zh=>?_);unfold Rr at Zh;obtain ⟨⟨l⟩,s,v,rfl,hS,aW,jD,hn⟩:=Xc Zh;simp only at hS;clear Zh;obtain ⟨d,hd⟩:∃ d:Nat,v=100-d:=⟨(100-v).toNat,by omega⟩
 subst hd;have Qk:(100-(100-(d:Int))).toNat=d:=by omega
 have Qo:(101-(100-(d:Int)+1)).toNat=d:=by omega
 have Aa:d≤100:=by omega
 have hT:=hS.toks;obtain ⟨R,Jh⟩:=exq (Qd0 (J1 l d) l (100-(d:Int)) s);have Zq:=Jh;unfold Qd0 at Zq;have k1:=hS.needs 5 [40];have hb:=Ep hT k1.pos (v:=100-(d:Int)) fun _=>⟨aW,jD⟩;have k2:=k1.go hb.adv (by omega) (by omega)
 have k3:=k2.needs 5 [41];have k4:=k3.needs 5 [45,62];have hx:=Xg k4 (Jm hT d Aa _ k4.pos);have k5:=k4.expr Aa;obtain ⟨⟨i1,ss1,e1⟩,Qi⟩:=exq (Qy l s 5 [40]);rw [Qi] at Zq k1 k2 k3 k4 hx k5;obtain ⟨⟨x,t,⟨i2,ss2,e2⟩⟩,Qn⟩:=exq (Bz l ⟨i1,ss1,e1⟩ (100-(d:Int)));rw [Qn] at Zq k2 k3 k4 hx k5;simp only at Zq k2 k3 k4 hx k5;obtain ⟨⟨i3,ss3,e3⟩,Ql⟩:=exq (Qy l ⟨i2,ss2,e2⟩ 5 [41]);rw [Ql] at Zq k3 k4 hx k5;obtain ⟨⟨i4,ss4,e4⟩,Qp⟩:=exq (Qy l ⟨i3,ss3,e3⟩ 5 [45,62]);rw [Qp] at Zq k4 hx k5;obtain ⟨⟨E,⟨i5,ss5,e5⟩⟩,Qv⟩:=exq (J1 l d ⟨i4,ss4,e4⟩);rw [Qv] at Zq hx k5;simp only at Zq hx k5;obtain ⟨M,Q3⟩:=exq (W4 ⟨2,[],[],x,0,0,t,[]⟩ [⟨E⟩]);rw [Q3] at Zq;obtain ⟨i0,ss0,e0⟩:=s;have o0:=hS.nums;have o2:=k2.nums;have o3:=k3.nums;have o1:=k1.ok6;simp only at o0 o2 o3;have Qis:∀ y∈([⟨E⟩]:List (Sl Part)),y.l.length≤1000000:=by
  intro y hy;rw [Zt.1 hy];show E.length≤_;omega
 subst Zq;cases hc;refine W5 2 ?_;have Jb:=@Jt.eq_def;have Z3:=@Up.eq_def;have Z6:=@Zac.eq_def;have Z7:=@Vh;have Qq:=@Vk;have Qj:=@Yh;have Qx:=@Yk;have Qm:=@Y4;have Qg:=@Y6;have Qr:=@Vi;have Qw:=@Vl;have Q4:=@Zy;have Jf:=@Z8;have Jk:=@Z9;exact Gx
theorem Zw7 (n:Nat) (ih:IH6 n):Qc Tryz.prog (226,(Rn (n+1))):=by
 obtain ⟨Kx,Kt,Kc,Kd,Kb,Ku,Kw,K,X4,V2,Mo,Tx,jB,_⟩:=J7 Zx Zo [] false (Q1 Gn Lf (Q1 gC Rp.eq_def (Q1 eM Tc.eq_def (Q1 good_made6 Hk (Q1 ih.expr (Ac n) J5)))));have Ko:=(Rn.eq_def (n+1));refine J9 K Tryz.func226 [.tmp 6,.cell 7 137] rfl 50 rfl (fun c hc Ji Zh=>?_);unfold Rn at Zh;obtain ⟨⟨l⟩,s,v,rfl,hS,aW,jD,hn⟩:=Xc Zh;simp only at hS;clear Zh;obtain ⟨d,hd⟩:∃ d:Nat,v=100-d:=⟨(100-v).toNat,by omega⟩
 subst hd;have Qk:(100-(100-(d:Int))).toNat=d:=by omega
 have Qo:(101-(100-(d:Int)+1)).toNat=d:=by omega
 have Aa:d≤100:=by omega
 have hT:=hS.toks;obtain ⟨R,Jh⟩:=exq (Qdr (J1 l d) l (100-(d:Int)) s);have Zq:=Jh;unfold Qdr at Zq;have hb:=Ep hT hS.pos (v:=100-(d:Int)) fun _=>⟨aW,jD⟩;have k2:=hS.go hb.adv (by omega) (by omega)
 have k3:=k2.needs 5 [61];have hx:=Xg k3 (Jm hT d Aa _ k3.pos);have k4:=k3.expr Aa;have k5:=k4.needs 6 [105,110];have aZ:=Xg k5 (Jm hT d Aa _ k5.pos);have k6:=k5.expr Aa;obtain ⟨⟨x,t,⟨i2,ss2,e2⟩⟩,Qi⟩:=exq (Bz l s (100-(d:Int)));rw [Qi] at Zq k2 k3 hx k4 k5 aZ k6;simp only at Zq k2 k3 hx k4 k5 aZ k6;obtain ⟨⟨i3,ss3,e3⟩,Qn⟩:=exq (Qy l ⟨i2,ss2,e2⟩ 5 [61]);rw [Qn] at Zq k3 hx k4 k5 aZ k6;obtain ⟨⟨A,⟨i4,ss4,e4⟩⟩,Ql⟩:=exq (J1 l d ⟨i3,ss3,e3⟩);rw [Ql] at Zq hx k4 k5 aZ k6;simp only at Zq hx k4 k5 aZ k6;obtain ⟨⟨i5,ss5,e5⟩,Qp⟩:=exq (Qy l ⟨i4,ss4,e4⟩ 6 [105,110]);rw [Qp] at Zq k5 aZ k6;obtain ⟨⟨B,⟨i6,ss6,e6⟩⟩,Qv⟩:=exq (J1 l d ⟨i5,ss5,e5⟩);rw [Qv] at Zq aZ k6;simp only at Zq aZ k6;obtain ⟨M,Q3⟩:=exq (W4 ⟨4,[],[],x,0,0,t,[]⟩ [⟨A⟩,⟨B⟩]);rw [Q3] at Zq;obtain ⟨i0,ss0,e0⟩:=s;have o0:=hS.ok6;have o2:=k2.nums;have o4:=k4.nums;simp only at o2 o4;have Qjf:A.length≤1000000:=by omega
 have wX:B.length≤1000000:=by omega
 subst Zq;cases hc;refine W5 3 ?_;have Jb:=@Jt.eq_def;have Z3:=@Up.eq_def;have Z6:=@Zac.eq_def;have Z7:=@Vh;have Qq:=@Vk;have Qj:=@Yh;have Qx:=@Yk;have Qm:=@Y4;have Qg:=@Y6;have Qr:=@Vi;have Qw:=@Vl;have Q4:=@Zy;have Jf:=@Z8;have Jk:=@Z9;exact Gx
theorem Ziw (n:Nat) (ih:IH6 n):Qc Tryz.prog (228,(Tb (n+1))):=by
 obtain ⟨Kx,Kt,Kc,Kd,Kb,Ku,Kw,K,X4,V2,Mo,_⟩:=J7 Zx Zo [] false (Q1 gC Rp.eq_def (Q1 good_made6 Hk (Q1 ih.expr (Ac n) J5)));have Ko:=(Tb.eq_def (n+1));refine J9 K Tryz.func228 [.tmp 6,.cell 7 137] rfl 48 rfl (fun c hc Ji Zh=>?_);unfold Tb at Zh;obtain ⟨⟨l⟩,s,v,rfl,hS,aW,jD,hn⟩:=Xc Zh;simp only at hS;clear Zh;obtain ⟨d,hd⟩:∃ d:Nat,v=100-d:=⟨(100-v).toNat,by omega⟩
 subst hd;have Qk:(100-(100-(d:Int))).toNat=d:=by omega
 have Qo:(101-(100-(d:Int)+1)).toNat=d:=by omega
 have Aa:d≤100:=by omega
 have hT:=hS.toks;obtain ⟨R,Jh⟩:=exq (Zeg (J1 l d) l s);have Zq:=Jh;unfold Zeg at Zq;have hx:=Xg hS (Jm hT d Aa _ hS.pos);have k2:=hS.expr Aa;have k3:=k2.needs 6 [116,104,101,110];have aZ:=Xg k3 (Jm hT d Aa _ k3.pos);have k4:=k3.expr Aa;have k5:=k4.needs 6 [101,108,115,101];have Qe4:=Xg k5 (Jm hT d Aa _ k5.pos);have k6:=k5.expr Aa;obtain ⟨⟨A,⟨i2,ss2,e2⟩⟩,Qi⟩:=exq (J1 l d s);rw [Qi] at Zq hx k2 k3 aZ k4 k5 Qe4 k6;simp only at Zq hx k2 k3 aZ k4 k5 Qe4 k6;obtain ⟨⟨i3,ss3,e3⟩,Qn⟩:=exq (Qy l ⟨i2,ss2,e2⟩ 6 [116,104,101,110]);rw [Qn] at Zq k3 aZ k4 k5 Qe4 k6;obtain ⟨⟨B,⟨i4,ss4,e4⟩⟩,Ql⟩:=exq (J1 l d ⟨i3,ss3,e3⟩);rw [Ql] at Zq aZ k4 k5 Qe4 k6;simp only at Zq aZ k4 k5 Qe4 k6;obtain ⟨⟨i5,ss5,e5⟩,Qp⟩:=exq (Qy l ⟨i4,ss4,e4⟩ 6 [101,108,115,101]);rw [Qp] at Zq k5 Qe4 k6;obtain ⟨⟨D_1,⟨i6,ss6,e6⟩⟩,Qv⟩:=exq (J1 l d ⟨i5,ss5,e5⟩);rw [Qv] at Zq Qe4 k6;simp only at Zq Qe4 k6;obtain ⟨M,Q3⟩:=exq (W4 ⟨6,[],[],[],0,0,[],[]⟩ [⟨A⟩,⟨B⟩,⟨D_1⟩]);rw [Q3] at Zq;obtain ⟨i0,ss0,e0⟩:=s;have o2:=k2.nums;have o4:=k4.nums;simp only at o2 o4;have Qjf:A.length≤1000000:=by omega
 have wX:B.length≤1000000:=by omega
 have qG:D_1.length≤1000000:=by omega
 subst Zq;cases hc;refine W5 3 ?_;have Jb:=@Jt.eq_def;have Z3:=@Up.eq_def;have Z6:=@Vh;have Z7:=@Vk;have Qq:=@Yh;have Qj:=@Yk;have Qx:=@Y4;have Qm:=@Y6;have Qg:=@Vi;have Qr:=@Vl;have Qw:=@Zy;have Q4:=@Z8;have Jf:=@Z9;exact Gx
theorem Qdb {l:List Tok} {s:St6} (h:Pos l s) (k:Int) (x:List UInt8):(Qy l s k x).e=0→1≤(Qy l s k x).at_:=fun he=>by
 have h1:=(Lb h k x).gain he;have h2:=h.lo;omega
theorem Zw6 (n:Nat) (ih:IH6 n):Qc Tryz.prog (227,(Rk (n+1))):=by
 obtain ⟨Kx,Kt,Kc,Kd,Kb,Ku,Kw,K,X4,V2,Mo,Tx,jB,vK,Za6,_⟩:=J7 Zx Zo [] false (Q1 U7 Ml (Q1 Gn Lf (Q1 gC Rp.eq_def (Q1 eM Tc.eq_def (Q1 A1 Bv.eq_def (Q1 good_made6 Hk (Q1 ih.expr (Ac n) J5)))))));have Ko:=(Rk.eq_def (n+1));refine J9 K Tryz.func227 [.tmp 6,.cell 7 137] rfl 73 rfl (fun c hc Ji Zh=>?_);unfold Rk at Zh;obtain ⟨⟨l⟩,s,v,rfl,hS,aW,jD,hn⟩:=Xc Zh;simp only at hS;clear Zh;obtain ⟨d,hd⟩:∃ d:Nat,v=100-d:=⟨(100-v).toNat,by omega⟩
 subst hd;have Qk:(100-(100-(d:Int))).toNat=d:=by omega
 have Qo:(101-(100-(d:Int)+1)).toNat=d:=by omega
 have Aa:d≤100:=by omega
 have hT:=hS.toks;obtain ⟨R,Z7⟩:=exq (Qcv (J1 l d) l (100-(d:Int)) s);have Zq:=Z7;unfold Qcv at Zq;have m1:=hS.named 1;have m2:=m1.needs 5 [40];have hb:=Ep hT m2.pos (v:=100-(d:Int)) fun _=>⟨aW,jD⟩;have m3:=m2.go hb.adv (by omega) (by omega)
 have m4:=m3.needs 5 [41];have Iu:=Qdb m3.pos 5 [41];have hu:=Np hT m4.pos (v:=100-(d:Int)) fun _=>⟨aW,jD⟩;have m5:St6In l (Kf l (Qy l (Bz l (Qy l (Jn l s 1).2 5 [40]) (100-(d:Int))).2.2 5 [41]) (100-(d:Int))).2 :=
  m3.go ((Lb m3.pos 5 [41]).trans hu.adv (m:=0) (q:=0) (by omega) (by omega) (by omega)) (by omega) (by omega)
 have k3:=m5.needs 5 [61];have hx:=Xg k3 (Jm hT d Aa _ k3.pos);have k4:=k3.expr Aa;have k5:=k4.needs 6 [105,110];have aZ:=Xg k5 (Jm hT d Aa _ k5.pos);have k6:=k5.expr Aa;obtain ⟨⟨f,⟨a1,as1,ae1⟩⟩,Qi⟩:=exq (Jn l s 1);rw [Qi] at Zq m1 m2 m3 m4 Iu m5 k3 hx k4 k5 aZ k6;simp only at Zq m1 m2 m3 m4 Iu m5 k3 hx k4 k5 aZ k6;obtain ⟨⟨a2,as2,ae2⟩,Qn⟩:=exq (Qy l ⟨a1,as1,ae1⟩ 5 [40]);rw [Qn] at Zq m2 m3 m4 Iu m5 k3 hx k4 k5 aZ k6;obtain ⟨⟨x,t,⟨a3,as3,ae3⟩⟩,Ql⟩:=exq (Bz l ⟨a2,as2,ae2⟩ (100-(d:Int)));rw [Ql] at Zq m3 m4 Iu m5 k3 hx k4 k5 aZ k6;simp only at Zq m3 m4 Iu m5 k3 hx k4 k5 aZ k6;obtain ⟨⟨a4,as4,ae4⟩,Qp⟩:=exq (Qy l ⟨a3,as3,ae3⟩ 5 [41]);rw [Qp] at Zq m4 Iu m5 k3 hx k4 k5 aZ k6;simp only at Iu;obtain ⟨⟨u,⟨i2,ss2,e2⟩⟩,Qv⟩:=exq (Kf l ⟨a4,as4,ae4⟩ (100-(d:Int)));rw [Qv] at Zq m5 k3 hx k4 k5 aZ k6;simp only at Zq m5 k3 hx k4 k5 aZ k6;obtain ⟨⟨i3,ss3,e3⟩,Q3⟩:=exq (Qy l ⟨i2,ss2,e2⟩ 5 [61]);rw [Q3] at Zq k3 hx k4 k5 aZ k6;obtain ⟨⟨A,⟨i4,ss4,e4⟩⟩,Jh⟩:=exq (J1 l d ⟨i3,ss3,e3⟩);rw [Jh] at Zq hx k4 k5 aZ k6;simp only at Zq hx k4 k5 aZ k6;obtain ⟨⟨i5,ss5,e5⟩,Jb⟩:=exq (Qy l ⟨i4,ss4,e4⟩ 6 [105,110]);rw [Jb] at Zq k5 aZ k6;obtain ⟨⟨B,⟨i6,ss6,e6⟩⟩,Z3⟩:=exq (J1 l d ⟨i5,ss5,e5⟩);rw [Z3] at Zq aZ k6;simp only at Zq aZ k6;obtain ⟨M,Z6⟩:=exq (W4 ⟨5,[],f,x,0,0,t,u⟩ [⟨A⟩,⟨B⟩]);rw [Z6] at Zq;obtain ⟨i0,ss0,e0⟩:=s;have o0:=hS.nums;have o1:=m1.nums;have o2:=m2.ok6;have o3:=m3.nums;have o4:=m4.ok6;have o5:=m5.nums;have o6:=k4.nums;simp only at o0 o1 o3 o5 o6;have Qtw:ae4=0→1≤a4∧1≤100-(d:Int)∧100-(d:Int)≤100:=fun h=>⟨Iu h,aW,jD⟩;have Qjf:A.length≤1000000:=by omega
 have wX:B.length≤1000000:=by omega
 clear hb hu;subst Zq;cases hc;refine W5 4 ?_;have Qq:=@Jt.eq_def;have Qj:=@Up.eq_def;have Qx:=@Zac.eq_def;have Qm:=@Vh;have Qg:=@Vk;have Qr:=@Yh;have Qw:=@Yk;have Q4:=@Y4;have Jf:=@Y6;have Jk:=@Vi;have Ju:=@Vl;have Xf:=@Zy;have Xe:=@Z8;have Wm:=@Z9;exact Gx
theorem Qhf {l:List Tok} {s:St6} (h:St6In l s) {d:Nat} (hd:d≤100):(J1 l d s).2.e=0→1≤(J1 l d s).2.at_:=fun he=>by
 have h1:=(Jm h.toks d hd s h.pos).adv.gain he;have h2:=h.pos.lo;omega
theorem Zbd (n:Nat) (ih:IH6 n):Qc Tryz.prog (273,(N0 (n+1))):=by
 obtain ⟨Kx,Kt,Kc,Kd,Kb,Ku,Kw,K,X4,V2,Mo,Tx,jB,_⟩:=J7 Zx Zo [] false (Q1 U7 Ml (Q1 Gn Lf (Q1 A1 Bv.eq_def (Q1 good_made6 Hk (Q1 ih.expr (Ac n) J5)))));have Ko:=(N0.eq_def (n+1));refine J9 K Tryz.func273 [.tmp 6,.cell 7 137] rfl 47 rfl (fun c hc Ji Zh=>?_);unfold N0 at Zh;obtain ⟨⟨l⟩,s,v,rfl,hS,aW,jD,hn⟩:=Xc Zh;simp only at hS;clear Zh;obtain ⟨d,hd⟩:∃ d:Nat,v=101-d:=⟨(101-v).toNat,by omega⟩
 subst hd;have Qk:(101-(101-(d:Int))).toNat=d:=by omega
 have Aa:d≤100:=by omega
 have hT:=hS.toks;obtain ⟨R,Q3⟩:=exq (gA (J1 l d) l (101-(d:Int)-1) s);have Zq:=Q3;unfold gA at Zq;have m1:=hS.named 2;have m2:=m1.needs 5 [61];have hx:=Xg m2 (Jm hT d Aa _ m2.pos);have hq:=(Jm hT d Aa _ m2.pos).adv;have m3:=m2.expr Aa;have Iu:=Qhf m2 Aa;have hu:=Np hT m3.pos (v:=101-(d:Int)-1) fun _=>⟨by omega,by omega⟩
 have m4:=m2.go (hq.trans hu.adv (m:=0) (q:=0) (by omega) (by omega) (by omega)) (by omega) (by omega)
 obtain ⟨⟨f,⟨a1,as1,ae1⟩⟩,Qo⟩:=exq (Jn l s 2);rw [Qo] at Zq m1 m2 hx m3 Iu m4;simp only at Zq m1 m2 hx m3 Iu m4;obtain ⟨⟨a2,as2,ae2⟩,Qi⟩:=exq (Qy l ⟨a1,as1,ae1⟩ 5 [61]);rw [Qi] at Zq m2 hx m3 Iu m4;obtain ⟨⟨A,⟨a3,as3,ae3⟩⟩,Qn⟩:=exq (J1 l d ⟨a2,as2,ae2⟩);rw [Qn] at Zq hx m3 Iu m4;simp only at Zq hx m3 Iu m4;obtain ⟨⟨u,⟨i2,ss2,e2⟩⟩,Ql⟩:=exq (Kf l ⟨a3,as3,ae3⟩ (101-(d:Int)-1));rw [Ql] at Zq m4;simp only at Zq m4;obtain ⟨⟨i3,ss3,e3⟩,Qp⟩:=exq (Qy l ⟨i2,ss2,e2⟩ 5 [93]);rw [Qp] at Zq;obtain ⟨M,Qv⟩:=exq (W4 ⟨12,[],f,[],0,0,u,[]⟩ [⟨A⟩]);rw [Qv] at Zq;obtain ⟨i0,ss0,e0⟩:=s;have o0:=hS.nums;have o1:=m1.nums;have o3:=m3.ok6;have o5:=m4.nums;simp only at o0 o1 o5;have Qtw:ae3=0→1≤a3∧1≤101-(d:Int)-1∧101-(d:Int)-1≤100:=fun h=>⟨Iu h,by omega,by omega⟩
 have Qjf:A.length≤1000000:=by omega
 clear hu hq;subst Zq;cases hc;refine W5 2 ?_;have Jh:=@Jt.eq_def;have Jb:=@Up.eq_def;have Z3:=@Vh;have Z6:=@Vk;have Z7:=@Yh;have Qq:=@Yk;have Qj:=@Y4;have Qx:=@Y6;have Qm:=@Vi;have Qg:=@Vl;have Qr:=@Zy;have Qw:=@Z8;have Q4:=@Z9;exact Gx
theorem Zfn (n:Nat) (ih:IH6 n):Qc Tryz.prog (271,(Bu (n+1))):=by
 obtain ⟨Kx,Kt,Kc,Kd,Kb,Ku,Kw,K,X4,V2,Mo,Tx,jB,_⟩:=J7 Zx Zo [] false (Q1 Cd jF (Q1 Gn Lf (Q1 good_typed6 Rj.eq_def (Q1 good_made6 Hk (Q1 ih.expr (Ac n) J5)))));have Ko:=(Bu.eq_def (n+1));refine J9 K Tryz.func271 [.tmp 6,.cell 7 137] rfl 58 rfl (fun c hc Ji Zh=>?_);unfold Bu at Zh;obtain ⟨⟨l⟩,s,v,rfl,hS,aW,jD,hn⟩:=Xc Zh;simp only at hS;clear Zh;obtain ⟨d,hd⟩:∃ d:Nat,v=101-d:=⟨(101-v).toNat,by omega⟩
 subst hd;have Qk:(101-(101-(d:Int))).toNat=d:=by omega
 have Aa:d≤100:=by omega
 have hT:=hS.toks;obtain ⟨R,Qi⟩:=exq (rK (J1 l d) l (101-(d:Int)-1) s);have Zq:=Qi;unfold rK at Zq;have hx:=Xg hS (Jm hT d Aa _ hS.pos);have m3:=hS.expr Aa;obtain ⟨⟨A,⟨a3,as3,ae3⟩⟩,Ql⟩:=exq (J1 l d s);rw [Ql] at Zq hx m3;simp only at Zq hx m3;obtain ⟨i0,ss0,e0⟩:=s;have o0:=hS.nums;have o3:=m3.nums;simp only at o0 o3;have Qjf:A.length≤1000000:=by omega
 cases hc;refine W5 3 ?_;cases Qo:Ox l ⟨i0,ss0,e0⟩ 5 [41] with
 | true =>
  rw [Qo,if_pos rfl] at Zq;have K9:X3 ⟨i0,ss0,e0⟩=⟨i0+1,ss0,e0⟩:=rfl;rw [K9] at Zq;subst Zq;have Jh:=@Jt.eq_def;have Jb:=@Up.eq_def;have Z3:=@Vh;have Z6:=@Vk;have Z7:=@Yh;have Qq:=@Yk;have Qj:=@Y4;have Qx:=@Y6;have Qm:=@Vi;have Qg:=@Vl;have Qr:=@Zy;have Qw:=@Z8;have Q4:=@Z9;exact Gx
 | false =>
  rw [Qo,if_neg (by simp)] at Zq
  cases Qn:Ox l ⟨a3,as3,ae3⟩ 5 [58] with
  | true =>
   rw [Qn,if_pos rfl] at Zq;have K9:X3 ⟨a3,as3,ae3⟩=⟨a3+1,as3,ae3⟩:=rfl;have m4:=m3.is Qn;rw [K9] at Zq m4;have hu:=(eW hT m4.pos (v:=101-(d:Int)-1) fun _=>⟨by omega,by omega⟩).adv
   have m5:=m4.go hu (by omega) (by omega)
   obtain ⟨⟨u,⟨i2,ss2,e2⟩⟩,Qp⟩:=exq (Et l ⟨a3+1,as3,ae3⟩ (101-(d:Int)-1));rw [Qp] at Zq m5;simp only at Zq m5;obtain ⟨⟨i3,ss3,e3⟩,Qv⟩:=exq (Qy l ⟨i2,ss2,e2⟩ 5 [41]);rw [Qv] at Zq;obtain ⟨M,Q3⟩:=exq (W4 ⟨13,[],[],[],0,0,u,[]⟩ [⟨A⟩]);rw [Q3] at Zq;have o4:=m4.ok6;have o5:=m5.nums;simp only at o5;have Qtw:ae3=0→1≤101-(d:Int)-1∧101-(d:Int)-1≤100:=fun h=>⟨by omega,by omega⟩
   clear hu;subst Zq;have Jh:=@Jt.eq_def;have Jb:=@Up.eq_def;have Z3:=@Vh;have Z6:=@Vk;have Z7:=@Yh;have Qq:=@Yk;have Qj:=@Y4;have Qx:=@Y6;have Qm:=@Vi;have Qg:=@Vl;have Qr:=@Zy;have Qw:=@Z8;have Q4:=@Z9;exact Gx
  | false =>
   rw [Qn,if_neg (by simp)] at Zq
   obtain ⟨⟨i3,ss3,e3⟩,Qv⟩:=exq (Qy l ⟨a3,as3,ae3⟩ 5 [41]);rw [Qv] at Zq;subst Zq;have Jh:=@Jt.eq_def;have Jb:=@Up.eq_def;have Z3:=@Vh;have Z6:=@Vk;have Z7:=@Yh;have Qq:=@Yk;have Qj:=@Y4;have Qx:=@Y6;have Qm:=@Vi;have Qg:=@Vl;have Qr:=@Zy;have Qw:=@Z8;have Q4:=@Z9;exact Gx
theorem Zix (n:Nat) (ih:IH6 n):Qc Tryz.prog (266,(Td (n+1))):=by
 obtain ⟨Kx,Kt,Kc,Kd,Kb,Ku,Kw,K,X4,V2,Mo,Tx,jB,vK,Za6,Zmm,_⟩:=J7 Zx Zo [] false (Q1 Gb T1 (Q1 good_begins6 Cj.eq_def (Q1 Cd jF (Q1 U7 Ml (Q1 good_number6 A5.eq_def (Q1 ih.paren (Bu.eq_def n) (Q1 ih.rows (S7.eq_def n) (Q1 ih.inject (N0.eq_def n) J5))))))));have Ko:=(Td.eq_def (n+1));refine J9 K Tryz.func266 [.tmp 6,.cell 7 137] rfl 126 rfl (fun c hc Ji Zh=>?_);unfold Td at Zh;obtain ⟨⟨l⟩,⟨i,ss,e⟩,v,rfl,hS,aW,jD,hn⟩:=Xc Zh;simp only at hS;clear Zh;obtain ⟨d,hd⟩:∃ d:Nat,v=100-d:=⟨(100-v).toNat,by omega⟩
 subst hd;have Qk:(100-(100-(d:Int))).toNat=d:=by omega
 have Qj:(101-(100-(d:Int)+1)).toNat=d:=by omega
 have Qx:100-(d:Int)+1-1=100-d:=by omega
 have Aa:d≤100:=by omega
 have hT:=hS.toks;have o0:=hS.nums;simp only at o0;obtain ⟨i,rfl⟩:∃ n:Nat,i=n:=⟨i.toNat,by omega⟩
 obtain ⟨R,Qn⟩:=exq (Zan (J1 l d) l (100-(d:Int)) ⟨i,ss,e⟩);have Qg:=Qn;unfold Zan at Qg;simp only [Hh] at Qg;cases hc;refine W5 7 ?_;obtain ⟨⟨Wa,Ws,We⟩,Qi⟩:=exq (J8 ⟨(i:Int),ss,e⟩ 2);by_cases he:e=0
 case neg =>
  rw [if_pos (.inl he),Qi] at Qg;have Qo:(e != 0)=true:=bne_iff_ne.2 he;subst Qg;have Qw:=@Jt.eq_def;have Q4:=@Zy;have Jf:=@Z8;have Jk:=@Z9;exact Qcq
 subst he;have Qo:((0:Int) != 0)=false:=rfl;cases Ql:Mj l ⟨i,ss,0⟩ with
 | false =>
  rw [if_pos (.inr Ql),Qi] at Qg;subst Qg;have Qw:=@Jt.eq_def;have Q4:=@Zy;have Jf:=@Z8;have Jk:=@Z9;exact Gx
 | true =>
  rw [if_neg (by rw [Ql];simp)] at Qg
  have Zv:=(cP Ql).2;simp only at Zv;have Qp:=Zp Us (show i<l.length by omega)
  have Qup:=hT.ok (l.getD i Us) (by simp [show i<l.length by omega])
  obtain ⟨t,ht⟩:=exq (l.getD i Us);rw [ht] at Qp Qup Qg;unfold Zez at Qup;have K9:X3 ⟨(i:Int),ss,0⟩=⟨(i:Int)+1,ss,0⟩:=rfl;rw [K9] at Qg;have m1:=hS.adv rfl Zv;rw [K9] at m1;have o1:=m1.nums;simp only at o1;have Er:Xp (l.length:Int) (i:Int)=false:=by rw [←Bool.not_eq_true,Q9];omega
  by_cases h3:t.kind=3
  ·rw [if_pos h3] at Qg;have Qv:(t.kind==3)=true:=by rw [Zj];exact h3
   have hf:=Qup.2 h3;obtain ⟨N,Q3⟩:=exq (nG t.text);rw [Q3] at Qg;subst Qg;have Qw:=@Jt.eq_def;have Q4:=@Zy;have Jf:=@Z8;have Jk:=@Z9;exact Gx
  rw [if_neg h3] at Qg;have Qv:(t.kind==3)=false:=by rw [Za];exact h3
  by_cases h4:t.kind=4
  ·rw [if_pos h4] at Qg;have Jh:(t.kind==4)=true:=by rw [Zj];exact h4
   subst Qg;have Qw:=@Jt.eq_def;have Q4:=@Zy;have Jf:=@Z8;have Jk:=@Z9;exact Gx
  rw [if_neg h4] at Qg;have Jh:(t.kind==4)=false:=by rw [Za];exact h4
  by_cases h6:t.kind=6
  ·rw [if_pos h6] at Qg;have Jb:(t.kind==6)=true:=by rw [Zj];exact h6
   by_cases Zmr:t.text=[116,114,117,101]
   ·rw [if_pos Zmr] at Qg;have Z3:(t.text==[116,114,117,101])=true:=by rw [Zj];exact Zmr
    subst Qg;have Qw:=@Jt.eq_def;have Q4:=@Zy;have Jf:=@Z8;have Jk:=@Z9;exact Gx
   ·rw [if_neg Zmr] at Qg;have Z3:(t.text==[116,114,117,101])=false:=by rw [Za];exact Zmr
    subst Qg;have Qw:=@Jt.eq_def;have Q4:=@Zy;have Jf:=@Z8;have Jk:=@Z9;exact Gx
  rw [if_neg h6] at Qg;have Jb:(t.kind==6)=false:=by rw [Za];exact h6
  by_cases h1:t.kind=1
  ·rw [if_pos h1] at Qg;have Z6:(t.kind==1)=true:=by rw [Zj];exact h1
   cases Z7:Ox l ⟨(i:Int)+1,ss,0⟩ 5 [33] with
   | false =>
    rw [Z7,if_pos rfl] at Qg;subst Qg;have Qw:=@Jt.eq_def;have Q4:=@Zy;have Jf:=@Z8;have Jk:=@Z9;exact Gx
   | true =>
    rw [Z7,if_neg (by simp)] at Qg
    have uE:X3 ⟨(i:Int)+1,ss,0⟩=⟨(i:Int)+1+1,ss,0⟩:=rfl;rw [uE] at Qg;have m2:=m1.is Z7;rw [uE] at m2;have o2:=m2.nums;simp only at o2;have Qn2:=Yf hT ⟨(i:Int)+1+1,ss,0⟩ 1;obtain ⟨⟨x,⟨i2,ss2,e2⟩⟩,Qq⟩:=exq (Jn l ⟨(i:Int)+1+1,ss,0⟩ 1);rw [Qq] at Qg Qn2;simp only at Qg Qn2;have Zm8:=Qup.1;subst Qg;have Qw:=@Jt.eq_def;have Q4:=@Zy;have Jf:=@Z8;have Jk:=@Z9;exact Gx
  rw [if_neg h1] at Qg;have Z6:(t.kind==1)=false:=by rw [Za];exact h1
  by_cases Qvb:t.text=[40]
  ·rw [if_pos Qvb] at Qg;have Qm:(t.text==[40])=true:=by rw [Zj];exact Qvb
   obtain ⟨A,⟨i2,ss2,e2⟩⟩:=R;have Qw:=@Jt.eq_def;have Q4:=@Zy;have Jf:=@Z8;have Jk:=@Z9;exact Gx
  rw [if_neg Qvb] at Qg;have Qm:(t.text==[40])=false:=by rw [Za];exact Qvb
  by_cases Zz1:t.text=[123]
  ·rw [if_pos Zz1] at Qg;have Qr:(t.text==[123])=true:=by rw [Zj];exact Zz1
   obtain ⟨A,⟨i2,ss2,e2⟩⟩:=R;have Qw:=@Jt.eq_def;have Q4:=@Zy;have Jf:=@Z8;have Jk:=@Z9;exact Gx
  rw [if_neg Zz1] at Qg;have Qr:(t.text==[123])=false:=by rw [Za];exact Zz1
  obtain ⟨A,⟨i2,ss2,e2⟩⟩:=R;have Qw:=@Jt.eq_def;have Q4:=@Zy;have Jf:=@Z8;have Jk:=@Z9;exact Gx
class KfF:Prop
theorem KfF.k (_:KfF) (h:p:=by
 first|rfl|trivial|exact ⟨(f,M,j2,us2,g2),by exact Qvg,jY,Ux,by omega,fun h=>by have h1:=sM h;have h2:=Ze9 Zv.1;show (l.length:Int)+1≤(f:Int)+j2;omega,by omega⟩|skip):p:=h
class KfE:Prop
theorem KfE.k (_:KfE) (h:p:=by
 refine fH 8 15 35 [9,10,18,19,20,21,22,23,24,25,26,27,28,29,30,31,32,33,34,35,36] (fun p:Nat×List Part×Int×List Site×Int=>[(11,.dead),(15,.dead),(16,.dead),(8,.sl 15 (p.2.1.map (enc:Part→D)).length)]) (fun p:Nat×List Part×Int×List Site×Int=>[(4,.box true [.d (.int .i64 p.2.2.1),.d (.list 3 (p.2.2.2.1.map enc)),.d (.int .i64 p.2.2.2.2)]),(15,.row 8 (p.2.1.map enc) 0)]) (fun p:Nat×List Part×Int×List Site×Int=>nK l p.1 (p.2.1,⟨p.2.2.1,p.2.2.2.1,p.2.2.2.2⟩)=R∧Q (p.2.1,⟨p.2.2.1,p.2.2.2.1,p.2.2.2.2⟩)∧1≤p.1∧(p.2.2.2.2=0→(l.length:Int)+1≤p.1+p.2.2.1)) (fun p:Nat×List Part×Int×List Site×Int=>p.1) (l.length+1,A,i,ss,e) ?_ ?_ ?_
 ·exact ⟨Zq,hA,by omega,fun h=>by have h0:=Zmw hA;show (l.length:Int)+1≤((l.length+1:Nat):Int)+i;simp only at h0;omega⟩
 ·exact Qt
 rintro ⟨f,B,j,us,g⟩ ⟨jY,hB,Zhw,Ze9⟩;simp only at jY hB Zhw Ze9;obtain ⟨f,rfl⟩:∃ k,f=k+1:=⟨f-1,by omega⟩
 rw [nK] at jY;have m1:=Cq hB;have b1:=fL hB;have o1:=m1.nums;simp only at o1;have Ux:=Ir _ hB;cases Qi:Ox l ⟨j,us,g⟩ 5 [46] with
 | false =>
  rw [if_pos Qi] at jY;subst jY;have Qv:=@Jt.eq_def;have Q3:=@Up.eq_def;have Jh:=@Zy;have Jb:=@Z8;have Z3:=@Z9;exact Gx
 | true =>
  rw [if_neg (by rw [Qi];simp)] at jY
  rw [nK,if_neg (by rw [Qi];simp),nK] at Ux
  have Zv:=F8 Qi;simp only at Zv;have K9:X3 ⟨j,us,g⟩=⟨j+1,us,g⟩:=rfl;rw [K9] at jY Ux;have m2:=m1.is Qi;rw [K9] at m2;have o2:=m2.nums;simp only at o2;obtain ⟨⟨x,⟨j2,us2,g2⟩⟩,Ql⟩:=exq (Jn l ⟨j+1,us,g⟩ 1);have Qo6:=Tk m2.pos 1;rw [Ql] at jY Ux Qo6;simp only at jY Ux;have sM:g2=0→j+1≤j2:=Qo6.mono;obtain ⟨M,Qp⟩:=exq (W4 ⟨11,[],x,[],0,0,[],[]⟩ [⟨B⟩]);rw [Qp] at jY Ux;have Qjf:B.length≤1000000:=by omega
  have Qv:=@Jt.eq_def;have Q3:=@Up.eq_def;have Jh:=@Vh;have Jb:=@Vk;have Z3:=@Yh;have Z6:=@Yk;have Z7:=@Y4;have Qq:=@Y6;have Qj:=@Vi;have Qx:=@Vl;have Qm:=@Zy;have Qg:=@Z8;have Qr:=@Z9;have Kq:KfF:=⟨⟩;exact jW):p:=h
theorem stepi_part6 (n:Nat) (ih:IH6 n):Qc Tryz.prog (260,(S9 (n+1))):=by
 obtain ⟨Kx,Kt,Kc,Kd,Kb,Ku,Kw,K,X4,V2,Mo,Tx,_⟩:=J7 Zx Zo [] false (Q1 Cd jF (Q1 U7 Ml (Q1 good_made6 Hk (Q1 ih.atom (Td.eq_def n) J5))));have Ko:=(S9.eq_def (n+1));refine J9 K Tryz.func260 [.tmp 6,.cell 7 137] rfl 39 rfl (fun c hc Ji Zh=>?_);unfold S9 at Zh;obtain ⟨⟨l⟩,s,v,rfl,hS,aW,jD,hn⟩:=Xc Zh;simp only at hS;clear Zh;obtain ⟨d,hd⟩:∃ d:Nat,v=100-d:=⟨(100-v).toNat,by omega⟩
 subst hd;have Qk:(100-(100-(d:Int))).toNat=d:=by omega
 have Aa:d≤100:=by omega
 have hT:=hS.toks;obtain ⟨R,Qn⟩:=exq (tJ (J1 l d) l (100-(d:Int)) s);have Zq:=Qn;unfold tJ at Zq;have hA:=xY hT (Jm hT d Aa) aW jD hS.pos;obtain ⟨⟨A,⟨i,ss,e⟩⟩,Qo⟩:=exq (Zan (J1 l d) l (100-(d:Int)) s);rw [Qo] at Zq hA;obtain ⟨s0,Zb6⟩:=exq (s);rw [Zb6] at hS hA Qn Qo;subst Zb6;have hP:=hS.pos;have Cq:∀ {B:List Part} {r:St6},Reads l s (B,r)→St6In l r:=fun h=>hS.go h.adv (by omega) (by omega)
 have fL:∀ {B:List Part} {r:St6},Reads l s (B,r)→B.length≤300000:=fun h=>Xg hS h;obtain ⟨Q,hQ⟩:∃ Q:List Part×St6→Prop,(fun r=>Reads l s r)=Q:=⟨_,rfl⟩;have Qcb:∀ r,Reads l s r=Q r:=fun r=>congrFun hQ r;rw [Qcb] at hA;simp only [Qcb] at Cq fL;have Ir:∀ r,Q r→Q (nK l 1 r):=fun r h=>by rw [←Qcb] at h ⊢;exact eV hT 1 r hP h
 have Zmw:∀ {B:List Part} {r:St6},Q (B,r)→0≤r.at_:=fun h=>by rw [←Qcb] at h;exact h.adv.lo
 obtain ⟨i0,ss0,e0⟩:=s;cases hc;refine W5 2 ?_;have Qv:=@Jt.eq_def;have Q3:=@Up.eq_def;have Jh:=@Zy;have Jb:=@Z8;have Z3:=@Z9;have Kq:KfE:=⟨⟩;exact jW
class KfH:Prop
theorem KfH.k (_:KfH) (h:p:=by
 first|rfl|trivial|exact m1|exact ⟨(f,M,j2,us2,g2),by exact Qvg,jY,Ux,by omega,fun h=>by have h1:=sM h;have h2:=Ze9 Zv.1;show (l.length:Int)+1≤(f:Int)+j2;omega,by omega⟩|skip):p:=h
class KfG:Prop
theorem KfG.k (_:KfG) (h:p:=by
 refine fH 8 15 32 [9,10,18,19,20,21,22,23,24,25,26,27,28,29,30,31,32,33] (fun p:Nat×List Part×Int×List Site×Int=>[(11,.dead),(15,.dead),(16,.dead),(8,.sl 15 (p.2.1.map (enc:Part→D)).length)]) (fun p:Nat×List Part×Int×List Site×Int=>[(4,.box true [.d (.int .i64 p.2.2.1),.d (.list 3 (p.2.2.2.1.map enc)),.d (.int .i64 p.2.2.2.2)]),(15,.row 8 (p.2.1.map enc) 0)]) (fun p:Nat×List Part×Int×List Site×Int=>Ll (J1 l d) l (100-(d:Int)) p.1 (p.2.1,⟨p.2.2.1,p.2.2.2.1,p.2.2.2.2⟩)=R∧Q (p.2.1,⟨p.2.2.1,p.2.2.2.1,p.2.2.2.2⟩)∧1≤p.1∧(p.2.2.2.2=0→(l.length:Int)+1≤p.1+p.2.2.1)) (fun p:Nat×List Part×Int×List Site×Int=>p.1) (l.length+1,A,i,ss,e) ?_ ?_ ?_
 ·exact ⟨Zq,hA,by omega,fun h=>by have h0:=Zmw hA;show (l.length:Int)+1≤((l.length+1:Nat):Int)+i;simp only at h0;omega⟩
 ·exact Qt
 rintro ⟨f,B,j,us,g⟩ ⟨jY,hB,Zhw,Ze9⟩;simp only at jY hB Zhw Ze9;obtain ⟨f,rfl⟩:∃ k,f=k+1:=⟨f-1,by omega⟩
 rw [Ll] at jY;have m1:=Cq hB;have b1:=fL hB;have o1:=m1.nums;simp only at o1;have Ux:=Ir _ hB;cases Qi:Mj l ⟨j,us,g⟩ with
 | false =>
  rw [if_pos Qi] at jY;subst jY;have Qv:=@Jt.eq_def;have Q3:=@Up.eq_def;have Jh:=@Zy;have Jb:=@Z8;have Z3:=@Z9;exact Gx
 | true =>
  rw [if_neg (by rw [Qi];simp)] at jY
  rw [Ll,if_neg (by rw [Qi];simp),Ll] at Ux
  have Zv:=cP Qi;simp only at Zv;have hx:=Zhj _ m1.pos;obtain ⟨⟨B2,⟨j2,us2,g2⟩⟩,Ql⟩:=exq (tJ (J1 l d) l (100-(d:Int)) ⟨j,us,g⟩);rw [Ql] at jY Ux hx;simp only at jY Ux;have sM:g2=0→j+1≤j2:=fun h=>by have h1:=(hx.adv.gain h).2;have h2:=(hx.adv.gain h).1;simp only at h1 h2;omega
  have Qo1:B2.length≤1000000:=by have h1:=Xg m1 hx;simp only at h1;omega
  obtain ⟨M,Qp⟩:=exq (W4 ⟨3,[],[],[],0,0,[],[]⟩ [⟨B⟩,⟨B2⟩]);rw [Qp] at jY Ux;have Qjf:B.length≤1000000:=by omega
  clear hx;have Qv:=@Jt.eq_def;have Q3:=@Up.eq_def;have Jh:=@Vh;have Jb:=@Vk;have Z3:=@Yh;have Z6:=@Yk;have Z7:=@Y4;have Qq:=@Y6;have Qj:=@Vi;have Qx:=@Vl;have Qm:=@Zy;have Qg:=@Z8;have Qr:=@Z9;have Kq:KfH:=⟨⟩;exact jW):p:=h
theorem stepi_operand6 (n:Nat) (ih:IH6 n):Qc Tryz.prog (254,(Gt (n+1))):=by
 obtain ⟨Kx,Kt,Kc,Kd,Kb,Ku,Kw,K,X4,V2,Mo,_⟩:=J7 Zx Zo [] false (Q1 good_begins6 Cj.eq_def (Q1 good_made6 Hk (Q1 ih.part (S9.eq_def n) J5)));have Ko:=(Gt.eq_def (n+1));refine J9 K Tryz.func254 [.tmp 6,.cell 7 137] rfl 36 rfl (fun c hc Ji Zh=>?_);unfold Gt at Zh;obtain ⟨⟨l⟩,s,v,rfl,hS,aW,jD,hn⟩:=Xc Zh;simp only at hS;clear Zh;obtain ⟨d,hd⟩:∃ d:Nat,v=100-d:=⟨(100-v).toNat,by omega⟩
 subst hd;have Qk:(100-(100-(d:Int))).toNat=d:=by omega
 have Aa:d≤100:=by omega
 have hT:=hS.toks;obtain ⟨R,Qn⟩:=exq (Ol (J1 l d) l (100-(d:Int)) s);have Zq:=Qn;unfold Ol at Zq;have hA:=aS hT (Jm hT d Aa) aW jD hS.pos;have Zhj:=fun r (h:Pos l r)=>aS hT (Jm hT d Aa) aW jD h;obtain ⟨⟨A,⟨i,ss,e⟩⟩,Qo⟩:=exq (tJ (J1 l d) l (100-(d:Int)) s);rw [Qo] at Zq hA;obtain ⟨s0,Zb6⟩:=exq (s);rw [Zb6] at hS hA Qn Qo;subst Zb6;have hP:=hS.pos;have Cq:∀ {B:List Part} {r:St6},Reads l s (B,r)→St6In l r:=fun h=>hS.go h.adv (by omega) (by omega)
 have fL:∀ {B:List Part} {r:St6},Reads l s (B,r)→B.length≤300000:=fun h=>Xg hS h;obtain ⟨Q,hQ⟩:∃ Q:List Part×St6→Prop,(fun r=>Reads l s r)=Q:=⟨_,rfl⟩;have Qcb:∀ r,Reads l s r=Q r:=fun r=>congrFun hQ r;rw [Qcb] at hA;simp only [Qcb] at Cq fL;have Ir:∀ r,Q r→Q (Ll (J1 l d) l (100-(d:Int)) 1 r):=fun r h=>by rw [←Qcb] at h ⊢;exact Fu hT (Jm hT d Aa) aW jD 1 r hP h
 have Zmw:∀ {B:List Part} {r:St6},Q (B,r)→0≤r.at_:=fun h=>by rw [←Qcb] at h;exact h.adv.lo
 obtain ⟨i0,ss0,e0⟩:=s;cases hc;refine W5 2 ?_;have Qv:=@Jt.eq_def;have Q3:=@Up.eq_def;have Jh:=@Zy;have Jb:=@Z8;have Z3:=@Z9;have Kq:KfG:=⟨⟩;exact jW
theorem qR {l:List Tok} {b:Int} {j:Nat} {us:List Site}:An l b ⟨(j:Int),us,0⟩=(Wd (j:Int) (l.length:Int)&&((l.getD j Us).kind==5&&in6 (aI b) (l.getD j Us).text)):=by
 unfold An;simp only [Hh];rfl
class KfJ:Prop
theorem KfJ.k (_:KfJ) (h:p:=by
 first|exact m2|rfl|trivial|exact ⟨(f,M,j2,us2,g2),by exact Qvg,jY,Ux,by omega,fun h=>by have h1:=sM h;have h2:=Ze9;show (l.length:Int)+1≤(f:Int)+j2;omega,by omega⟩|skip):p:=h
class KfI:Prop
theorem KfI.k (_:KfI) (h:p:=by
 first|exact hS|skip
 refine fH 10 28 85 [11,12,13,31,32,33,34,35,36,37,38,39,40,41,42,43,44,45,46,47,48,49,50,51,52,53,54,55,56,57,58,59,60,61,62,63,64,65,66,67,68,69,70,71,72,73,74,75,76,77,78,79,80,81,82,83,84,85,86] (fun p:Nat×List Part×Int×List Site×Int=>[(22,.dead),(28,.dead),(29,.dead),(10,.sl 28 (p.2.1.map (enc:Part→D)).length)]) (fun p:Nat×List Part×Int×List Site×Int=>[(5,.box true [.d (.int .i64 p.2.2.1),.d (.list 3 (p.2.2.2.1.map enc)),.d (.int .i64 p.2.2.2.2)]),(28,.row 8 (p.2.1.map enc) 0)]) (fun p:Nat×List Part×Int×List Site×Int=>Zf4 l (4-(m:Int)) sub p.1 (p.2.1,⟨p.2.2.1,p.2.2.2.1,p.2.2.2.2⟩)=R∧Q (p.2.1,⟨p.2.2.1,p.2.2.2.1,p.2.2.2.2⟩)∧1≤p.1∧(p.2.2.2.2=0→(l.length:Int)+1≤p.1+p.2.2.1)) (fun p:Nat×List Part×Int×List Site×Int=>p.1) (l.length+1,A,i,ss,e) ?_ ?_ ?_
 ·exact ⟨Ql,hA,by omega,fun h=>by have h0:=Zmw hA;show (l.length:Int)+1≤((l.length+1:Nat):Int)+i;simp only at h0;omega⟩
 ·exact Qt
 rintro ⟨f,B,j,us,g⟩ ⟨jY,hB,Zhw,Ze9⟩;simp only at jY hB Zhw Ze9;obtain ⟨f,rfl⟩:∃ k,f=k+1:=⟨f-1,by omega⟩
 rw [Zf4] at jY;have m1:=Cq hB;have b1:=fL hB;have o1:=m1.nums;simp only at o1;obtain ⟨j,rfl⟩:∃ n:Nat,j=n:=⟨j.toNat,by omega⟩
 have Ux:=Ir _ hB;have Zfa:An l (4-(m:Int)) ⟨j,us,g⟩=false→(B,(⟨j,us,g⟩:St6))=R:=fun h=>by rw [if_pos h] at jY;exact jY
 by_cases hg:g=0
 case neg =>
  have Z3:(g==0)=false:=by rw [Za];exact hg
  have Qlg:=Zfa (by unfold An;simp only [Z3,Bool.false_and])
  subst Qlg;have Qg:=@Jt.eq_def;have Qr:=@Up.eq_def;have Qw:=@O7.eq_def;have Q4:=@Zy;have Jf:=@Z8;have Jk:=@Z9;exact Gx
 subst hg;have Ze9:=Ze9 rfl;have Z3:((0:Int)==0)=true:=rfl;rw [qR] at Zfa;rcases Zn j l.length with ⟨Zv,Z6⟩|⟨Zv,Z6⟩
 rotate_left
 ·have Qlg:=Zfa (by rw [Z6,Bool.false_and])
  subst Qlg;have Qg:=@Jt.eq_def;have Qr:=@Up.eq_def;have Qw:=@O7.eq_def;have Q4:=@Zy;have Jf:=@Z8;have Jk:=@Z9;exact Gx
 have Qq:=Zp Us Zv;rw [qR] at jY;have Js:=aC hT (j:Int);rw [Zf4,qR] at Ux;simp only [Hh] at jY Ux Js;obtain ⟨t,ht⟩:=exq (l.getD j Us);rw [ht] at Qq Zfa jY Js Ux;cases Z7:t.kind==5 with
 | false =>
  have Qlg:=Zfa (by rw [Z6,Z7];rfl)
  subst Qlg;have Qg:=@Jt.eq_def;have Qr:=@Up.eq_def;have Qw:=@O7.eq_def;have Q4:=@Zy;have Jf:=@Z8;have Jk:=@Z9;exact Gx
 | true =>
  have Qil:(aI (4-(m:Int))).length≤1000000:=by
   unfold aI;repeat' split
   all_goals simp
  cases Qj:in6 (aI (4-(m:Int))) t.text with
  | false =>
   have Qlg:=Zfa (by rw [Z6,Z7,Qj];rfl)
   subst Qlg;have Qg:=@Jt.eq_def;have Qr:=@Up.eq_def;have Qw:=@O7.eq_def;have Q4:=@Zy;have Jf:=@Z8;have Jk:=@Z9;exact Gx
  | true =>
   have Qjc:(Wd (j:Int) (l.length:Int)&&(t.kind==5&&in6 (aI (4-(m:Int))) t.text))=true:=by rw [Z6,Z7,Qj];rfl
   rw [if_neg (by rw [Qjc];simp)] at jY
   rw [if_neg (by rw [Qjc];simp),Zf4] at Ux
   have K9:X3 ⟨(j:Int),us,0⟩=⟨(j:Int)+1,us,0⟩:=rfl;rw [K9] at jY Ux;have m2:=m1.adv rfl (by show (j:Int)<l.length;omega)
   rw [K9] at m2;have hx:=Zhj _ m2.pos;obtain ⟨⟨B2,⟨j2,us2,g2⟩⟩,Qx⟩:=exq (sub ⟨(j:Int)+1,us,0⟩);rw [Qx] at jY Ux hx;simp only at jY Ux;have sM:g2=0→(j:Int)+1≤j2:=fun h=>by have h1:=(hx.adv.gain h).2;have h2:=(hx.adv.gain h).1;simp only at h1 h2;omega
   have Qo1:B2.length≤1000000:=by have h1:=Xg m2 hx;simp only at h1;omega
   obtain ⟨M,Qm⟩:=exq (W4 ⟨9,[],t.text,[],0,0,[],[]⟩ [⟨B⟩,⟨B2⟩]);rw [Qm] at jY Ux;have Qjf:B.length≤1000000:=by omega
   clear hx;have Qg:=@Jt.eq_def;have Qr:=@Up.eq_def;have Qw:=@O7.eq_def;have Q4:=@Vh;have Jf:=@Vk;have Jk:=@Yh;have Ju:=@Yk;have Xf:=@Y4;have Xe:=@Y6;have Wm:=@Vi;have Wz:=@Vl;have Yj:=@Zy;have Yr:=@Z8;have Yq:=@Z9;have Kq:KfJ:=⟨⟩;exact jW):p:=h
theorem stepi_ops6 (n:Nat) (ih:IH6 n):Qc Tryz.prog (230,(Ci (n+1))):=by
 obtain ⟨Kx,Kt,Kc,Kd,Kb,Ku,Kw,K,X4,V2,Mo,Tx,jB,_⟩:=J7 Zx Zo [] false (Q1 ih.operand (Gt.eq_def n) (Q1 ih.ops (Ci.eq_def n) (Q1 good_signs6 bL.eq_def (Q1 good_in6 iQ.eq_def (Q1 good_made6 Hk J5)))));have Ko:=(Ci.eq_def (n+1));refine J9 K Tryz.func230 [.tmp 8,.cell 9 137] rfl 89 rfl (fun c hc Ji Zh=>?_);unfold Ci at Zh;obtain ⟨⟨l⟩,s,v,b,rfl,hS,aW,jD,wX,aB,hn⟩:=Zly Zh;simp only at hS;clear Zh;obtain ⟨d,hd⟩:∃ d:Nat,v=100-d:=⟨(100-v).toNat,by omega⟩
 subst hd;have Qk:(100-(100-(d:Int))).toNat=d:=by omega
 have Aa:d≤100:=by omega
 have hT:=hS.toks;by_cases Qzo:b=5
 ·subst Qzo;have Qi:((5:Int)==5)=true:=rfl;have Qo:((5:Int)-5).toNat=0:=rfl;obtain ⟨⟨A,⟨i,ss,e⟩⟩,Qn⟩:=exq (Ol (J1 l d) l (100-(d:Int)) s);have Ql:Zbg (J1 l d) l (100-(d:Int)) 0 s=(A,⟨i,ss,e⟩):=by rw [←Qn];rfl
  obtain ⟨i0,ss0,e0⟩:=s;cases hc;refine W5 5 ?_;have Qg:=@Jt.eq_def;have Qr:=@Up.eq_def;have Qw:=@O7.eq_def;have Q4:=@Zy;have Jf:=@Z8;have Jk:=@Z9;exact Gx
 have Q3:(b==5)=false:=by rw [Za];exact Qzo
 obtain ⟨m,hm⟩:∃ m:Nat,b=4-m:=⟨(4-b).toNat,by omega⟩
 subst hm;have Qp:(5-(4-(m:Int))).toNat=m+1:=by omega
 have Qv:(5-(4-(m:Int)+1)).toNat=m:=by omega
 obtain ⟨R,Qn⟩:=exq (Zbg (J1 l d) l (100-(d:Int)) (m+1) s);have Ql:=Qn;rw [Zbg] at Ql;have Zhj:=fun r (h:Pos l r)=>Oh hT (Jm hT d Aa) aW jD m r h;have hA:=Zhj s hS.pos;obtain ⟨sub,Jh⟩:=exq (Zbg (J1 l d) l (100-(d:Int)) m);rw [Jh] at Ql hA Zhj;simp only at Ql;obtain ⟨⟨A,⟨i,ss,e⟩⟩,Jb⟩:=exq (sub s);rw [Jb] at Ql hA;have hP:=hS.pos;have Cq:∀ {B:List Part} {r:St6},Reads l s (B,r)→St6In l r:=fun h=>hS.go h.adv (by omega) (by omega)
 have fL:∀ {B:List Part} {r:St6},Reads l s (B,r)→B.length≤300000:=fun h=>Xg hS h;obtain ⟨Q,hQ⟩:∃ Q:List Part×St6→Prop,(fun r=>Reads l s r)=Q:=⟨_,rfl⟩;have Qcb:∀ r,Reads l s r=Q r:=fun r=>congrFun hQ r;rw [Qcb] at hA;simp only [Qcb] at Cq fL;have Ir:∀ r,Q r→Q (Zf4 l (4-(m:Int)) sub 1 r):=fun r h=>by rw [←Qcb] at h ⊢;exact lB hT Zhj 1 r hP h
 have Zmw:∀ {B:List Part} {r:St6},Q (B,r)→0≤r.at_:=fun h=>by rw [←Qcb] at h;exact h.adv.lo
 obtain ⟨i0,ss0,e0⟩:=s;cases hc;refine W5 5 ?_;have Qg:=@Jt.eq_def;have Qr:=@Up.eq_def;have Qw:=@O7.eq_def;have Q4:=@Zy;have Jf:=@Z8;have Jk:=@Z9;have Kq:KfI:=⟨⟩;exact jW
theorem Qdv {x:List UInt8} {a:Part} {A:List Part}:Zgc x (a::A)=⟨a.kind,x,a.name,a.bind,a.many,a.num,a.t,a.u⟩::A:=rfl
class KfL:Prop
theorem KfL.k (_:KfL) (h:p:=by
 first|exact m2|rfl|(simp [Z5];done)|trivial|skip):p:=h
class KfM:Prop
theorem KfM.k (_:KfM) (h:p:=by
 first|exact m2|rfl|trivial|exact ⟨(f,j3+1,us3,0,had++[x],body++⟨a.kind,x,a.name,a.bind,a.many,a.num,a.t,a.u⟩::A),by (have Vc:=@Z5;exact Qt),hL,by simp;omega,by simp;omega,by simp;omega,m4,by omega⟩|skip):p:=h
class KfK:Prop
theorem KfK.k (_:KfK) (h:p:=by
 refine Zm [6,10,11,12,13,27,28,29,30,31,32,33,34,35,36,37,38,39,40,41,42,43,44,45,46,47,48,49,50,51,52,53,54,55,56,57,58,59,60,61,62,63,64,65,66,67,68,69,70,71,72,73,74,75,76,77,78] (fun p:Nat×Int×List Site×Int×List (List UInt8)×List Part=>[(8,.sl 25 (enc (⟨10,[],[],[],(p.2.2.2.2.1.length:Int),0,[],[]⟩:Part)::p.2.2.2.2.2.map (enc:Part→D)).length),(9,.sl 26 (p.2.2.2.2.1.map (enc:List UInt8→D)).length)]) (fun p:Nat×Int×List Site×Int×List (List UInt8)×List Part=>[(4,.box true [.d (.int .i64 p.2.1),.d (.list 3 (p.2.2.1.map enc)),.d (.int .i64 p.2.2.2.1)]),(25,.row 8 (enc (⟨10,[],[],[],(p.2.2.2.2.1.length:Int),0,[],[]⟩:Part)::p.2.2.2.2.2.map (enc:Part→D)) 0),(26,.row 1 (p.2.2.2.2.1.map enc) (p.2.2.2.2.1.length-1))]) (fun p:Nat×Int×List Site×Int×List (List UInt8)×List Part=>rZ (J1 l d) l p.1 ⟨p.2.1,p.2.2.1,p.2.2.2.1⟩ p.2.2.2.2.1 p.2.2.2.2.2=R∧p.1+p.2.2.2.2.1.length=51∧p.2.2.2.2.1.length≤50∧p.2.2.2.2.2.length≤300000*p.2.2.2.2.1.length∧St6In l ⟨p.2.1,p.2.2.1,p.2.2.2.1⟩) (fun p:Nat×Int×List Site×Int×List (List UInt8)×List Part=>p.1) (51,i0,ss0,e0,[],[]) ?_ ?_ ?_
 ·exact ⟨Zq,by simp,by simp,by simp,hS⟩
 ·have Vc:=@Z5;exact Qt
 rintro ⟨f,j,us,g,had,body⟩ ⟨hL,hf,hh,Zzz,m0⟩;simp only at hL hf hh Zzz m0;obtain ⟨f,rfl⟩:∃ k,f=k+1:=⟨f-1,by omega⟩
 rw [rZ] at hL;have k0:=m0.nums;simp only at k0;have m1:=m0.label 1 had;have Sf:=Av (l:=l) (s:=⟨j,us,g⟩) (k:=1) (had:=had);have m2:=m1.needs 5 [61];have hx:=Xg m2 (Jm hT d Aa _ m2.pos);have Ze3:=Jm hT d Aa _ m2.pos;have m3:=m2.expr Aa;have hq:=(sF m0.pos 1 had);have wQ:=(Lb m1.pos 5 [61]);obtain ⟨⟨x,⟨j1,us1,g1⟩⟩,Qn⟩:=exq (Yg l ⟨j,us,g⟩ 1 had);rw [Qn] at hL m1 Sf m2 hx Ze3 m3 hq wQ;simp only at hL m1 Sf m2 hx Ze3 m3 hq wQ;obtain ⟨⟨j2,us2,g2⟩,Ql⟩:=exq (Qy l ⟨j1,us1,g1⟩ 5 [61]);rw [Ql] at hL m2 hx Ze3 m3 wQ;obtain ⟨⟨A,⟨j3,us3,g3⟩⟩,Qp⟩:=exq (J1 l d ⟨j2,us2,g2⟩);rw [Qp] at hL hx Ze3 m3;simp only at hL hx Ze3 m3;have k1:=m1.nums;have k2:=m2.nums;have k3:=m3.nums;simp only at k1 k2 k3;by_cases hg:g3=0
 case neg =>
  rw [if_pos hg] at hL;have Qv:(g3 != 0)=true:=bne_iff_ne.2 hg;subst hL;clear hq wQ Ze3;have Jb:=@Jt.eq_def;have Z3:=@jA.eq_def;have Z6:=@Zy;have Z7:=@Z8;have Qq:=@Z9;exact Gx
 subst hg;rw [if_neg (by simp)] at hL
 have Qv:((0:Int) != 0)=false:=rfl;have Qtn:g1=0:=wQ.ok0 (Ze3.adv.ok0 rfl);have Sf:=Sf Qtn;have Tz:=(Ze3.ok rfl).1;clear hq wQ Ze3;simp only at Tz;obtain ⟨a,A,rfl⟩:∃ a B,A=a::B:=by
  cases A with
  | nil=>exact absurd rfl Tz
  | cons a B=>exact ⟨a,B,rfl⟩
 clear Tz;rw [Qdv] at hL;simp only [Zi] at hx;cases Jh:Ox l ⟨j3,us3,0⟩ 5 [44] with
 | false =>
  rw [if_pos Jh] at hL;obtain ⟨⟨j4,us4,g4⟩,Q3⟩:=exq (Qy l ⟨j3,us3,0⟩ 5 [125]);rw [Q3] at hL;subst hL;have Jb:=@Jt.eq_def;have Z3:=@jA.eq_def;have Z6:=@Zy;have Z7:=@Z8;have Qq:=@Z9;have Kq:KfL:=⟨⟩;exact jW
 | true =>
  rw [if_neg (by rw [Jh];simp)] at hL
  have K9:X3 ⟨j3,us3,0⟩=⟨j3+1,us3,0⟩:=rfl;rw [K9] at hL;have m4:=m3.is Jh;rw [K9] at m4;have Jb:=@Jt.eq_def;have Z3:=@jA.eq_def;have Z6:=@Zy;have Z7:=@Z8;have Qq:=@Z9;have Kq:KfM:=⟨⟩;exact jW):p:=h
theorem stepi_rows6 (n:Nat) (ih:IH6 n):Qc Tryz.prog (272,(S7 (n+1))):=by
 obtain ⟨Kx,Kt,Kc,Kd,Kb,Ku,Kw,K,X4,V2,Mo,Tx,_⟩:=J7 Zx Zo [] false (Q1 Cd jF (Q1 tO Ro.eq_def (Q1 Gn Lf (Q1 ih.expr (Ac n) J5))));have Ko:=(S7.eq_def (n+1));refine J9 K Tryz.func272 [.tmp 6,.cell 7 137] rfl 79 rfl (fun c hc Ji Zh=>?_);unfold S7 at Zh;obtain ⟨⟨l⟩,s,v,rfl,hS,aW,jD,hn⟩:=Xc Zh;simp only at hS;clear Zh;obtain ⟨d,hd⟩:∃ d:Nat,v=101-d:=⟨(101-v).toNat,by omega⟩
 subst hd;have Qk:(101-(101-(d:Int))).toNat=d:=by omega
 have Aa:d≤100:=by omega
 have hT:=hS.toks;have o0:=hS.nums;obtain ⟨R,Qi⟩:=exq (Zct (J1 l d) l s);have Zq:=Qi;unfold Zct at Zq;obtain ⟨i0,ss0,e0⟩:=s;simp only at o0;cases hc;refine W5 4 ?_;cases Qo:Ox l ⟨i0,ss0,e0⟩ 5 [125] with
 | true =>
  rw [Qo,if_pos rfl] at Zq;have K9:X3 ⟨i0,ss0,e0⟩=⟨i0+1,ss0,e0⟩:=rfl;rw [K9] at Zq;subst Zq;have Jb:=@Jt.eq_def;have Z3:=@jA.eq_def;have Z6:=@Zy;have Z7:=@Z8;have Qq:=@Z9;exact Gx
 | false =>
  rw [Qo,if_neg (by simp)] at Zq
  have Jb:=@Jt.eq_def;have Z3:=@jA.eq_def;have Z6:=@Zy;have Z7:=@Z8;have Qq:=@Z9;have Kq:KfK:=⟨⟩;exact jW
theorem Zdg {p:Part} {A:List Part}:W4 p [⟨A⟩]=p::A:=by simp [W4,Sc]
class KfO:Prop
theorem KfO.k (_:KfO) (h:p:=by
 first|exact m2|rfl|(simp [Z5];done)|trivial|skip):p:=h
class KfP:Prop
theorem KfP.k (_:KfP) (h:p:=by
 first|exact m2|rfl|trivial|exact ⟨(f,j3+1,us3,0,had++[x],body++⟨8,x,[],y,0,0,[],[]⟩::A),by (have Vc:=@Z5;exact Qt),hL,by simp;omega,by simp;omega,by simp;omega,m4,by omega⟩|skip):p:=h
class KfN:Prop
theorem KfN.k (_:KfN) (h:p:=by
 first|exact hS|skip
 refine Zm [6,11,12,13,14,31,32,33,34,35,36,37,38,39,40,41,42,43,44,45,46,47,48,49,50,51,52,53,54,55,56,57,58,59,60,61,62,63,64,65,66,67,68,69,70,71,72,73,74,75,76,77,78,79,80,81,82,83,84,85,86,87,88,89,90] (fun p:Nat×Int×List Site×Int×List (List UInt8)×List Part=>[(9,.sl 29 (enc (⟨7,[],[],[],(p.2.2.2.2.1.length:Int),0,[],[]⟩:Part)::p.2.2.2.2.2.map (enc:Part→D)).length),(10,.sl 30 (p.2.2.2.2.1.map (enc:List UInt8→D)).length)]) (fun p:Nat×Int×List Site×Int×List (List UInt8)×List Part=>[(4,.box true [.d (.int .i64 p.2.1),.d (.list 3 (p.2.2.1.map enc)),.d (.int .i64 p.2.2.2.1)]),(29,.row 8 (enc (⟨7,[],[],[],(p.2.2.2.2.1.length:Int),0,[],[]⟩:Part)::p.2.2.2.2.2.map (enc:Part→D)) 0),(30,.row 1 (p.2.2.2.2.1.map enc) (p.2.2.2.2.1.length-1))]) (fun p:Nat×Int×List Site×Int×List (List UInt8)×List Part=>sB (J1 l d) l p.1 ⟨p.2.1,p.2.2.1,p.2.2.2.1⟩ p.2.2.2.2.1 p.2.2.2.2.2=R∧p.1+p.2.2.2.2.1.length=51∧p.2.2.2.2.1.length≤50∧p.2.2.2.2.2.length≤300001*(p.2.2.2.2.1.length+1)∧St6In l ⟨p.2.1,p.2.2.1,p.2.2.2.1⟩) (fun p:Nat×Int×List Site×Int×List (List UInt8)×List Part=>p.1) (51,i2,ss2,e2,[],C0) ?_ ?_ ?_
 ·exact ⟨Zq,by simp,by simp,by simp;omega,n2⟩
 ·have Vc:=@Z5;exact Qt
 rintro ⟨f,j,us,g,had,body⟩ ⟨hL,hf,hh,Zzz,m0⟩;simp only at hL hf hh Zzz m0;obtain ⟨f,rfl⟩:∃ k,f=k+1:=⟨f-1,by omega⟩
 rw [sB] at hL;unfold Gw at hL;have k0:=m0.nums;simp only at k0;have m1:=m0.label 2 had;have Sf:=Av (l:=l) (s:=⟨j,us,g⟩) (k:=2) (had:=had);have m1b:=m1.named 1;have m2:=m1b.needs 5 [45,62];have hx:=Xg m2 (Jm hT d Aa _ m2.pos);have Ze3:=Jm hT d Aa _ m2.pos;have m3:=m2.expr Aa;have Qoc:=(Tk m1.pos 1);have wQ:=(Lb m1b.pos 5 [45,62]);obtain ⟨⟨x,⟨j1,us1,g1⟩⟩,Qp⟩:=exq (Yg l ⟨j,us,g⟩ 2 had);rw [Qp] at hL m1 Sf m1b m2 hx Ze3 m3 Qoc wQ;simp only at hL m1 Sf m1b m2 hx Ze3 m3 Qoc wQ;obtain ⟨⟨y,⟨j1b,us1b,g1b⟩⟩,Qv⟩:=exq (Jn l ⟨j1,us1,g1⟩ 1);rw [Qv] at hL m1b m2 hx Ze3 m3 Qoc wQ;simp only at hL m1b m2 hx Ze3 m3 Qoc wQ;obtain ⟨⟨j2,us2,g2⟩,Q3⟩:=exq (Qy l ⟨j1b,us1b,g1b⟩ 5 [45,62]);rw [Q3] at hL m2 hx Ze3 m3 wQ;obtain ⟨⟨A,⟨j3,us3,g3⟩⟩,Jh⟩:=exq (J1 l d ⟨j2,us2,g2⟩);rw [Jh] at hL hx Ze3 m3;simp only at hL hx Ze3 m3;have k1:=m1.nums;have k1b:=m1b.nums;have k2:=m2.nums;have k3:=m3.nums;simp only at k1 k1b k2 k3;by_cases hg:g3=0
 case neg =>
  rw [if_pos hg] at hL;have Jb:(g3 != 0)=true:=bne_iff_ne.2 hg;subst hL;clear Qoc wQ Ze3;have Qj:=@Jt.eq_def;have Qx:=@Up.eq_def;have Qm:=@jA.eq_def;have Qg:=@Zy;have Qr:=@Z8;have Qw:=@Z9;exact Gx
 subst hg;rw [if_neg (by simp)] at hL
 have Jb:((0:Int) != 0)=false:=rfl;have Qtn:g1=0:=Qoc.ok0 (wQ.ok0 (Ze3.adv.ok0 rfl));have Sf:=Sf Qtn;clear Qoc wQ Ze3;have Qq:=Zdg (p:=⟨8,x,[],y,0,0,[],[]⟩) (A:=A);rw [Qq] at hL;have Qjf:A.length≤1000000:=by omega
 cases Z7:Ox l ⟨j3,us3,0⟩ 5 [124] with
 | false =>
  rw [if_pos Z7] at hL;obtain ⟨⟨j4,us4,g4⟩,Z6⟩:=exq (Qy l ⟨j3,us3,0⟩ 6 [101,110,100]);rw [Z6] at hL;subst hL;have Qj:=@Jt.eq_def;have Qx:=@Up.eq_def;have Qm:=@jA.eq_def;have Qg:=@Vh;have Qr:=@Vk;have Qw:=@Yh;have Q4:=@Yk;have Jf:=@Y4;have Jk:=@Y6;have Ju:=@Vi;have Xf:=@Vl;have Xe:=@Zy;have Wm:=@Z8;have Wz:=@Z9;have Kq:KfO:=⟨⟩;exact jW
 | true =>
  rw [if_neg (by rw [Z7];simp)] at hL
  have K9:X3 ⟨j3,us3,0⟩=⟨j3+1,us3,0⟩:=rfl;rw [K9] at hL;have m4:=m3.is Z7;rw [K9] at m4;have Qj:=@Jt.eq_def;have Qx:=@Up.eq_def;have Qm:=@jA.eq_def;have Qg:=@Vh;have Qr:=@Vk;have Qw:=@Yh;have Q4:=@Yk;have Jf:=@Y4;have Jk:=@Y6;have Ju:=@Vi;have Xf:=@Vl;have Xe:=@Zy;have Wm:=@Z8;have Wz:=@Z9;have Kq:KfP:=⟨⟩;exact jW):p:=h
theorem stepi_cases6 (n:Nat) (ih:IH6 n):Qc Tryz.prog (229,(Bw (n+1))):=by
 obtain ⟨Kx,Kt,Kc,Kd,Kb,Ku,Kw,K,X4,V2,Mo,Tx,jB,vK,Za6,_⟩:=J7 Zx Zo [] false (Q1 Cd jF (Q1 tO Ro.eq_def (Q1 U7 Ml (Q1 Gn Lf (Q1 gC Rp.eq_def (Q1 good_made6 Hk (Q1 ih.expr (Ac n) J5)))))));have Ko:=(Bw.eq_def (n+1));refine J9 K Tryz.func229 [.tmp 6,.cell 7 137] rfl 91 rfl (fun c hc Ji Zh=>?_);unfold Bw at Zh;obtain ⟨⟨l⟩,s,v,rfl,hS,aW,jD,hn⟩:=Xc Zh;simp only at hS;clear Zh;obtain ⟨d,hd⟩:∃ d:Nat,v=100-d:=⟨(100-v).toNat,by omega⟩
 subst hd;have Qk:(100-(100-(d:Int))).toNat=d:=by omega
 have Qo:(101-(100-(d:Int)+1)).toNat=d:=by omega
 have Aa:d≤100:=by omega
 have hT:=hS.toks;have o0:=hS.nums;obtain ⟨R,Z3⟩:=exq (Zad (J1 l d) l s);have Zq:=Z3;unfold Zad at Zq;have sI:=Xg hS (Jm hT d Aa _ hS.pos);have n1:=hS.expr Aa;have n2:=n1.needs 6 [111,102];obtain ⟨⟨C0,⟨i1,ss1,e1⟩⟩,Qi⟩:=exq (J1 l d s);rw [Qi] at Zq sI n1 n2;simp only at Zq sI n1 n2;obtain ⟨⟨i2,ss2,e2⟩,Qn⟩:=exq (Qy l ⟨i1,ss1,e1⟩ 6 [111,102]);rw [Qn] at Zq n2;have o1:=n1.nums;simp only at o1;have Qu1:C0.length≤1000000:=by omega
 have Ql:=Zdg (p:=⟨7,[],[],[],0,0,[],[]⟩) (A:=C0);obtain ⟨i0,ss0,e0⟩:=s;simp only at o0;cases hc;refine W5 5 ?_;have Qj:=@Jt.eq_def;have Qx:=@Up.eq_def;have Qm:=@jA.eq_def;have Qg:=@Vh;have Qr:=@Vk;have Qw:=@Yh;have Q4:=@Yk;have Jf:=@Y4;have Jk:=@Y6;have Ju:=@Vi;have Xf:=@Vl;have Xe:=@Zy;have Wm:=@Z8;have Wz:=@Z9;have Kq:KfN:=⟨⟩;exact jW
theorem Ziv (n:Nat) (ih:IH6 n):Qc Tryz.prog (186,(W9 (n+1))):=by
 obtain ⟨Kx,Kt,Kc,Kd,Kb,Ku,Kw,K,X4,V2,Mo,Tx,jB,vK,Za6,_⟩:=J7 Zx Zo [] false (Q1 Gb T1 (Q1 ih.fun_ (Rr.eq_def n) (Q1 ih.let_ (Rn.eq_def n) (Q1 ih.rec_ (Rk.eq_def n) (Q1 ih.cond (Tb.eq_def n) (Q1 ih.cases (Bw.eq_def n) (Q1 ih.ops (Ci.eq_def n) J5)))))));have Ko:=(Ac (n+1));refine J9 K Tryz.func186 [.tmp 6,.cell 7 137] rfl 95 rfl (fun c hc Ji Zh=>?_);unfold W9 at Zh;obtain ⟨⟨l⟩,⟨i,ss,e⟩,v,rfl,hS,aW,jD,hn⟩:=Xc Zh;simp only at hS;clear Zh;have hT:=hS.toks;have o0:=hS.nums;simp only at o0;obtain ⟨i,rfl⟩:∃ n:Nat,i=n:=⟨i.toNat,by omega⟩
 cases hc;refine W5 5 ?_;obtain ⟨d,hd⟩:∃ d:Nat,v=101-d:=⟨(101-v).toNat,by omega⟩
 subst hd;have Qk:(101-(101-(d:Int))).toNat=d:=by omega
 have Aa:d≤100:=by omega
 by_cases he:e=0
 case neg =>
  have Qo:(e==0)=false:=by rw [Za];exact he
  have Qi:(e != 0)=true:=bne_iff_ne.2 he;have Qn:J1 l d ⟨i,ss,e⟩=([],⟨i,ss,e⟩):=by
   cases d with
   | zero =>
    show (([]:List Part),J8 ⟨(i:Int),ss,e⟩ 4)=_;unfold J8;rw [if_neg (by simpa using he)]
   | succ d=>rw [J1,Zlm,if_pos (by simpa using he)]
  have Qg:=@Jt.eq_def;have Qr:=@O7.eq_def;have Qw:=@Zy;have Q4:=@Z8;have Jf:=@Z9;exact Gx
 subst he;have Qo:((0:Int)==0)=true:=rfl;have Qi:((0:Int) != 0)=false:=rfl;cases d with
 | zero =>
  have Ql:Wd 100 (101-((0:Nat):Int))=true:=by rw [Jj];omega
  have Qn:J1 l 0 ⟨i,ss,0⟩=([],⟨i,ss,4⟩):=rfl;have Qp:J8 ⟨(i:Int),ss,0⟩ 4=⟨i,ss,4⟩:=rfl;have Qg:=@Jt.eq_def;have Qr:=@O7.eq_def;have Qw:=@Zy;have Q4:=@Z8;have Jf:=@Z9;exact Gx
 | succ d =>
  have Ql:Wd 100 (101-((d+1:Nat):Int))=false:=by rw [←Bool.not_eq_true,Jj];omega
  have Qv:(100-(101-((d+1:Nat):Int))).toNat=d:=by omega
  have Qu0:101-((d+1:Nat):Int)=100-d:=by omega
  obtain ⟨⟨A,⟨i2,ss2,e2⟩⟩,Qn⟩:=exq (J1 l (d+1) ⟨(i:Int),ss,0⟩);have Jb:=Qn;rw [J1,Zlm,if_neg (by simp)] at Jb
  simp only [Hh] at Jb;have Jh:Int.toNat 5=5:=rfl;rcases Zn i l.length with ⟨Zv,Q3⟩|⟨Zv,Q3⟩
  rotate_left
  ·rw [if_neg (by omega)] at Jb
   rw [Qu0] at Qk Qv Ql;rw [Qu0];have Qg:=@Jt.eq_def;have Qr:=@O7.eq_def;have Qw:=@Zy;have Q4:=@Z8;have Jf:=@Z9;exact Gx
  have Z3:=Zp Us Zv;have K9:X3 ⟨(i:Int),ss,0⟩=⟨(i:Int)+1,ss,0⟩:=rfl;have m1:=hS.adv rfl (by show (i:Int)<l.length;omega)
  rw [K9] at m1 Jb;obtain ⟨t,ht⟩:=exq (l.getD i Us);rw [ht] at Z3 Jb;rw [Qu0] at Qk Qv Ql;rw [Qu0];by_cases h6:t.kind=6
  case neg =>
   rw [if_neg (fun h=>h6 h.2)] at Jb;have Z6:(t.kind==6)=false:=by rw [Za];exact h6
   have Qg:=@Jt.eq_def;have Qr:=@O7.eq_def;have Qw:=@Zy;have Q4:=@Z8;have Jf:=@Z9;exact Gx
  rw [if_pos ⟨by omega,h6⟩] at Jb
  have Z6:(t.kind==6)=true:=by rw [Zj];exact h6
  by_cases sI:t.text=[102,117,110]
  ·rw [if_pos sI] at Jb;have Z7:(t.text==[102,117,110])=true:=by rw [Zj];exact sI
   have Qg:=@Jt.eq_def;have Qr:=@O7.eq_def;have Qw:=@Zy;have Q4:=@Z8;have Jf:=@Z9;exact Gx
  rw [if_neg sI] at Jb;have Z7:(t.text==[102,117,110])=false:=by rw [Za];exact sI
  by_cases Zb4:t.text=[108,101,116]
  ·rw [if_pos Zb4] at Jb;have Qq:(t.text==[108,101,116])=true:=by rw [Zj];exact Zb4
   have Qg:=@Jt.eq_def;have Qr:=@O7.eq_def;have Qw:=@Zy;have Q4:=@Z8;have Jf:=@Z9;exact Gx
  rw [if_neg Zb4] at Jb;have Qq:(t.text==[108,101,116])=false:=by rw [Za];exact Zb4
  by_cases aZ:t.text=[114,101,99]
  ·rw [if_pos aZ] at Jb;have Qj:(t.text==[114,101,99])=true:=by rw [Zj];exact aZ
   have Qg:=@Jt.eq_def;have Qr:=@O7.eq_def;have Qw:=@Zy;have Q4:=@Z8;have Jf:=@Z9;exact Gx
  rw [if_neg aZ] at Jb;have Qj:(t.text==[114,101,99])=false:=by rw [Za];exact aZ
  by_cases Qe4:t.text=[105,102]
  ·rw [if_pos Qe4] at Jb;have Qx:(t.text==[105,102])=true:=by rw [Zj];exact Qe4
   have Qg:=@Jt.eq_def;have Qr:=@O7.eq_def;have Qw:=@Zy;have Q4:=@Z8;have Jf:=@Z9;exact Gx
  rw [if_neg Qe4] at Jb;have Qx:(t.text==[105,102])=false:=by rw [Za];exact Qe4
  by_cases Quo:t.text=[99,97,115,101]
  ·rw [if_pos Quo] at Jb;have Qm:(t.text==[99,97,115,101])=true:=by rw [Zj];exact Quo
   have Qg:=@Jt.eq_def;have Qr:=@O7.eq_def;have Qw:=@Zy;have Q4:=@Z8;have Jf:=@Z9;exact Gx
  rw [if_neg Quo] at Jb;have Qm:(t.text==[99,97,115,101])=false:=by rw [Za];exact Quo
  have Qg:=@Jt.eq_def;have Qr:=@O7.eq_def;have Qw:=@Zy;have Q4:=@Z8;have Jf:=@Z9;exact Gx
theorem Qa5:∀ n,IH6 n
 | 0=>IH6.mk
  (X1 (Jv Tryz.func186 (by kernel_rfl) rfl) zR)
  (X1 (Jv Tryz.func225 (by kernel_rfl) rfl) Zbw)
  (X1 (Jv Tryz.func226 (by kernel_rfl) rfl) Zbv)
  (X1 (Jv Tryz.func227 (by kernel_rfl) rfl) Zbs)
  (X1 (Jv Tryz.func228 (by kernel_rfl) rfl) zS)
  (X1 (Jv Tryz.func229 (by kernel_rfl) rfl) vJ)
  (X1 (Jv Tryz.func254 (by kernel_rfl) rfl) pB)
  (X1 (Jv Tryz.func260 (by kernel_rfl) rfl) zN)
  (X1 (Jv Tryz.func266 (by kernel_rfl) rfl) zT)
  (X1 (Jv Tryz.func271 (by kernel_rfl) rfl) vX)
  (X1 (Jv Tryz.func272 (by kernel_rfl) rfl) zL)
  (X1 (Jv Tryz.func273 (by kernel_rfl) rfl) sW)
  (X1 (Jv Tryz.func230 (by kernel_rfl) rfl) Zbu)
 | n+1=>IH6.mk (Ziv n (Qa5 n)) (Zw8 n (Qa5 n)) (Zw7 n (Qa5 n)) (Zw6 n (Qa5 n)) (Ziw n (Qa5 n)) (stepi_cases6 n (Qa5 n)) (stepi_operand6 n (Qa5 n)) (stepi_part6 n (Qa5 n)) (Zix n (Qa5 n)) (Zfn n (Qa5 n)) (stepi_rows6 n (Qa5 n)) (Zbd n (Qa5 n)) (stepi_ops6 n (Qa5 n))
def mY:Con:=W9 3000
theorem Zg0:mY=W9 3000:=rfl
theorem Zk1:Qc Tryz.prog (186,mY):=(Qa5 3000).expr
structure Def6 where
 name:List UInt8
 t:List Node
 e:List Part
 deriving DecidableEq
instance encDef6:Enc Def6:=⟨fun a=>.agg [.str a.name,.list 3 (a.t.map enc),.list 8 (a.e.map enc)],fun x=>match x with
 | .agg [a,b,c]=>⟨a.s,b.l.map dec,c.l.map dec⟩
 | _=>⟨[],[],[]⟩,fun a=>by
  have h1:∀ l:List Node,(l.map (enc:Node→D)).map dec=l:=fun l=>Jx;have h2:∀ l:List Part,(l.map (enc:Part→D)).map dec=l:=fun l=>Jx;cases a;simp [D.l,D.s,h1,h2]⟩
instance szDef6:Sz Def6:=⟨3⟩
theorem wH:Sz.sz Def6=3:=rfl
theorem Md {a:List UInt8} {b:List Node} {c:List Part}:(enc (Def6.mk a b c):D)=.agg [.str a,.list 3 (b.map enc),.list 8 (c.map enc)]:=rfl
theorem pJ {a:Def6}:(enc a:D)=.agg [.str a.name,.list 3 (a.t.map enc),.list 8 (a.e.map enc)]:=rfl
theorem Rh {a:List UInt8} {b:List Node} {c:List Part}:(dec (.agg [.str a,.list 3 (b.map enc),.list 8 (c.map enc)]):Def6)=⟨a,b,c⟩:=Enc.dec_enc (Def6.mk a b c)
theorem F7 {a:List UInt8} {b:List Node} {c:List Part}:Ul Def6 (.agg [.str a,.list 3 (b.map enc),.list 8 (c.map enc)])=True:=eq_true (Wc (Def6.mk a b c))
structure Mod6 where
 name:List UInt8
 imps:List (List UInt8)
 defs:List Def6
 sites:List Site
 deriving DecidableEq
instance encMod6:Enc Mod6:=⟨fun a=>.agg [.str a.name,.list 1 (a.imps.map enc),.list 3 (a.defs.map enc),.list 3 (a.sites.map enc)],fun x=>match x with
 | .agg [a,b,c,d]=>⟨a.s,b.l.map dec,c.l.map dec,d.l.map dec⟩
 | _=>⟨[],[],[],[]⟩,fun a=>by
  have h0:∀ l:List (List UInt8),(l.map (enc:List UInt8→D)).map dec=l:=fun l=>Jx;have h1:∀ l:List Def6,(l.map (enc:Def6→D)).map dec=l:=fun l=>Jx;have h2:∀ l:List Site,(l.map (enc:Site→D)).map dec=l:=fun l=>Jx;cases a;simp [D.l,D.s,h0,h1,h2]⟩
instance szMod6:Sz Mod6:=⟨4⟩
theorem Zw4:Sz.sz Mod6=4:=rfl
theorem Wn {a:List UInt8} {b:List (List UInt8)} {c:List Def6} {d:List Site}:(enc (Mod6.mk a b c d):D)=.agg [.str a,.list 1 (b.map enc),.list 3 (c.map enc),.list 3 (d.map enc)]:=rfl
theorem Zlo {a:Mod6}:(enc a:D)=.agg [.str a.name,.list 1 (a.imps.map enc),.list 3 (a.defs.map enc),.list 3 (a.sites.map enc)]:=rfl
theorem Rg {a:List UInt8} {b:List (List UInt8)} {c:List Def6} {d:List Site}:(dec (.agg [.str a,.list 1 (b.map enc),.list 3 (c.map enc),.list 3 (d.map enc)]):Mod6)=⟨a,b,c,d⟩:=Enc.dec_enc (Mod6.mk a b c d)
theorem F6 {a:List UInt8} {b:List (List UInt8)} {c:List Def6} {d:List Site}:Ul Mod6 (.agg [.str a,.list 1 (b.map enc),.list 3 (c.map enc),.list 3 (d.map enc)])=True:=eq_true (Wc (Mod6.mk a b c d))
def Q6:Def6:=⟨[],[],[]⟩
def Je:Mod6:=⟨[],[],[],[]⟩
def Qg6 (had:List Def6) (x:List UInt8):Bool:=had.any fun d=>d.name==x
def uU (l:List Tok) (s:St6) (had:List Def6):Def6×St6 :=
 let x:=Jn l s 1
 if x.2.e=0∧Qg6 had x.1=true then (Q6,J8 s 7)
 else
  let t:=Kf l x.2 1
  let r:=J1 l 100 (Qy l t.2 5 [61])
  (⟨x.1,t.1,r.1⟩,Qy l r.2 5 [59])
def pF:Con:=Yy (fun (l:Sl Tok) (s:St6) (had:Sl Def6)=>St6In l.l s∧had.l.length≤1000) (fun l s had=>uU l.l s had.l)
class KfR:Prop
theorem KfR.k (_:KfR) (h:p:=by
 first|exact ⟨k+1,by exact Qt,by omega,fun h=>absurd h he,by omega⟩|skip):p:=h
class KfS:Prop
theorem KfS.k (_:KfS) (h:p:=by
 first|exact ⟨k+1,by exact Qt,by omega,(by first|exact Qn7|exact fun _=>Qn7|exact fun m hm=>Za.1 (Qn7 m hm)),by omega⟩|skip):p:=h
class KfQ:Prop
theorem KfQ.k (_:KfQ) (h:p:=by
 refine Zm [19,20,21,22,23,24,25,26,27,28,29,30,31,32,33,34,35,36,37,38,39] (fun k:Nat=>[(10,.d (.int .i64 k))]) (fun k:Nat=>[]) (fun k:Nat=>k≤had.length∧(e1=0→∀ m,m<k→((had.getD m Q6).name==x)=false)) (fun k:Nat=>had.length-k) 0 ?_ ?_ ?_
 ·exact ⟨by omega,fun _ m hm=>absurd hm (Nat.not_lt_zero m)⟩
 ·exact Qt
 rintro k ⟨hk,Jl⟩;rcases Zn k had.length with ⟨Zv,Qo⟩|⟨Zv,Qo⟩
 ·have Qn:=Zp Q6 Zv;have Jg:((had.getD k Q6).name==x)=false→∀ m,m<k+1→e1=0→((had.getD m Q6).name==x)=false:=fun h m hm he=>by
   by_cases e:m=k
   ·subst e;exact h
   ·exact Jl he m (by omega)
  have L9:e1=0→((had.getD k Q6).name==x)=true→Qg6 had x=true:=fun _ h=>by
   unfold Qg6;rw [List.any_eq_true];refine ⟨had.getD k Q6,by simp [Zv],h⟩
  obtain ⟨y,hy⟩:=exq (had.getD k Q6);rw [hy] at Qn Jg L9;by_cases he:e1=0
  case neg =>
   have Qi:(e1==0)=false:=by rw [Za];exact he
   have Z7:=@wH;have Qq:=@Jt.eq_def;have Qj:=@Zy;have Qx:=@Z8;have Qm:=@Z9;have Kq:KfR:=⟨⟩;exact jW
  subst he;have Qi:((0:Int)==0)=true:=rfl;cases Ql:(y.name==x) with
  | true =>
   rw [if_pos ⟨rfl,L9 rfl Ql⟩] at Zq;subst Zq;have Z7:=@wH;have Qq:=@pJ;have Qj:=@Jt.eq_def;have Qx:=@Zy;have Qm:=@Z8;have Qg:=@Z9;exact Gx
  | false =>
   have Qn7:∀ m,m<k+1→((had.getD m Q6).name==x)=false:=fun m hm=>Jg Ql m hm rfl;clear Jg;have Z7:=@wH;have Qq:=@pJ;have Qj:=@Jt.eq_def;have Qx:=@Zy;have Qm:=@Z8;have Qg:=@Z9;have Kq:KfS:=⟨⟩;exact jW
 ·have Ni:k=had.length:=by omega
  have Zzs:¬ (e1=0∧Qg6 had x=true):=fun h=>by
   unfold Qg6 at h;rw [List.any_eq_true] at h;obtain ⟨he,y,hy,Jai⟩:=h;obtain ⟨m,hm,rfl⟩:=List.getElem_of_mem hy;have:=Jl he m (by omega)
   rw [Zd,Zk hm,Option.getD_some,Jai] at this;exact Bool.noConfusion this
  rw [if_neg Zzs] at Zq;clear Jl;obtain ⟨⟨u,⟨i2,ss2,e2⟩⟩,Q3⟩:=exq (Kf l ⟨i1,ss1,e1⟩ 1);rw [Q3] at Zq m2 hu;simp only at Zq m2;have m3:=m2.needs 5 [61];obtain ⟨⟨i3,ss3,e3⟩,Jh⟩:=exq (Qy l ⟨i2,ss2,e2⟩ 5 [61]);rw [Jh] at Zq m3;have m4:=m3.expr (d:=100) (by omega)
  obtain ⟨⟨A,⟨i4,ss4,e4⟩⟩,Jb⟩:=exq (J1 l 100 ⟨i3,ss3,e3⟩);rw [Jb] at Zq m4;simp only at Zq m4;obtain ⟨⟨i5,ss5,e5⟩,Z3⟩:=exq (Qy l ⟨i4,ss4,e4⟩ 5 [59]);rw [Z3] at Zq;have o2:=m2.nums;have o4:=m4.nums;simp only at o2 o4;have Z6:Int.toNat 100=100:=rfl;clear hu;subst Zq;have Z7:=@wH;have Qq:=@Zg0;have Qj:=@W9.eq_def;have Qx:=@Jt.eq_def;have Qm:=@Zy;have Qg:=@Z8;have Qr:=@Z9;exact Gx):p:=h
theorem good_def6:Qc Tryz.prog (149,pF):=by
 obtain ⟨Kx,Kt,Kc,Kd,Kb,Ku,Kw,K,X4,V2,Mo,Tx,jB,_⟩:=J7 Zx Zo [] false (Q1 U7 Ml (Q1 Gb T1 (Q1 A1 Bv.eq_def (Q1 Gn Lf (Q1 Zk1 mY.eq_def J5)))));have Ko:=pF.eq_def;refine J9 K Tryz.func149 [.cell 6 49,.cell 7 137] rfl 62 rfl (fun c hc Ji Zh=>?_);unfold pF at Zh;obtain ⟨⟨l⟩,s,⟨had⟩,rfl,hS,hh⟩:=Mi Zh;simp only at hS hh;clear Zh;have hT:=hS.toks;have o0:=hS.nums;obtain ⟨R,Qv⟩:=exq (uU l s had);have Zq:=Qv;unfold uU at Zq;have m1:=hS.named 1;have Iu:=Tk hS.pos 1;obtain ⟨⟨x,⟨i1,ss1,e1⟩⟩,Qk⟩:=exq (Jn l s 1);rw [Qk] at Zq m1 Iu;simp only at Zq m1 Iu;have Qzi:e1=0→1≤i1:=fun h=>by have Qk:=(Iu.gain h).2;have Q3:=(Iu.gain h).1;have:=hS.pos.lo;simp only at Qk Q3;omega
 have o1:=m1.nums;simp only at o1;obtain ⟨⟨Wa,Ws,We⟩,Qp⟩:=exq (J8 s 7);rw [Qp] at Zq;have hu:=Np hT m1.pos (v:=1) fun _=>⟨by omega,by omega⟩
 have m2:=hS.go (Iu.trans hu.adv (m:=0) (q:=0) (by omega) (by omega) (by omega)) (by omega) (by omega)
 have m1o:=m1.ok6;clear Iu;obtain ⟨i0,ss0,e0⟩:=s;simp only at o0;cases hc;refine W5 3 ?_;have Z7:=@Jt.eq_def;have Qq:=@Zy;have Qj:=@Z8;have Qx:=@Z9;have Kq:KfQ:=⟨⟩;exact jW
def C1 (z:Int) (d:Def6):Nat:=J0 (Ys z) d.t+Wh z d.e
def A4 (z:Int) (l:List Def6):Nat:=(l.map (C1 z)).sum
structure FitD (d:Def6):Prop where
 name:d.name.length≤1000000
 t:d.t.length≤100001
 named:Ym d.t
 e:d.e.length≤300000
 fit:∀ p∈d.e,aQ p
structure Defd (l:List Tok) (s:St6) (r:Def6×St6):Prop where
 adv:Adv l 1 0 s r.2
 cnt:r.2.e=0→∀ z,C1 z r.1=if (s.sites.length:Int)+1≤z∧z<(r.2.sites.length:Int)+1 then 1 else 0
 fit:FitD r.1
 ok:r.2.e=0→r.1.t≠[]∧Wg r.1.t=true∧r.1.e≠[]
theorem Ej {s:St6} {e:Int} (he:e≠0):(J8 s e).e≠0:=by
 unfold J8;split
 ·exact he
 ·assumption
theorem Zcz {l:List Tok} (hT:Toks l) {s:St6} (h:Pos l s) (had:List Def6):Defd l s (uU l s had):=by
 unfold uU;simp only;split
 ·have hw:=T6 h (e:=7) (by decide)
  have he:(J8 s 7).e≠0:=Ej (by decide)
  exact ⟨hw.adv,fun h0=>absurd h0 he,⟨by simp [Q6],by simp [Q6],Qz,by simp [Q6],fun p hp=>(by cases hp)⟩,fun h0=>absurd h0 he⟩
 ·have q1:=(Sq.refl h).tok (by omega) (Li h 1)
  have hx:=Yf hT s 1;have hu:=Np hT q1.adv.pos (v:=1) fun _=>⟨by omega,by omega⟩
  have q2:=q1.note hu (by omega) (by omega)
  have q3:=q2.tok (by omega) (Xr q2.adv.pos 5 [61])
  have hr:=Jm hT 100 (by omega) _ q3.adv.pos
  have q4:=q3.read (by omega) hr
  have q5:=q4.tok (by omega) (Xr q4.adv.pos 5 [59])
  have hl:(J1 l 100 (Qy l (Kf l (Jn l s 1).2 1).2 5 [61])).1.length≤300000:=by
   have h1:=hr.len;have h2:=hT.len;have h3:=q3.adv.lo;omega
  have back:(Qy l (J1 l 100 (Qy l (Kf l (Jn l s 1).2 1).2 5 [61])).2 5 [59]).e=0→(J1 l 100 (Qy l (Kf l (Jn l s 1).2 1).2 5 [61])).2.e=0:=fun h0=>(Lb q4.adv.pos 5 [59]).ok0 h0;refine ⟨q5.adv.weak (by omega) (Int.le_refl _),fun h0 z=>?_,⟨hx,hu.len,hu.named,hl,hr.fit⟩,fun h0=>?_⟩
  ·have:=q5.cnt h0 z;unfold C1;simp only;omega
  ·have h1:=back h0;have h2:=(Lb q2.adv.pos 5 [61]).ok0 (hr.adv.ok0 h1);exact ⟨(hu.ok h2).1,(hu.ok h2).2,(hr.ok h1).1⟩
def Zks (l:List Tok):Nat→St6→List (List UInt8)→Bool×List (List UInt8)×St6
 | 0,s,imps=>(true,imps,s)
 | f+1,s,imps =>
  if Ox l s 6 [105,109,112,111,114,116]=false then (false,imps,s)
  else if (Jn l (X3 s) 1).2.e=0∧in6 imps (Jn l (X3 s) 1).1=true then (true,imps,J8 (X3 s) 7)
  else Zks l f (Qy l (Jn l (X3 s) 1).2 5 [59]) (imps++[(Jn l (X3 s) 1).1])
def Zbr (l:List Tok):Nat→St6→List Def6→List Int→Bool×List Def6×List Int×St6
 | 0,s,defs,pl=>(true,defs,[],s)
 | f+1,s,defs,pl =>
  if Ox l s 6 [100,101,102]=false then (false,defs,pl,s)
  else if defs.length=200 then (true,defs,[],J8 s 3)
  else Zbr l f (uU l (X3 s) defs).2 (defs++[(uU l (X3 s) defs).1]) (pl++[s.at_])
def tE (l:List Tok) (s:St6):St6:=if s.e=0∧((l.length:Int)≤s.at_∨(tk l s.at_).kind≠0) then J8 s 2 else s
def Y9 (l:List Tok) (name:List UInt8):Mod6×St6×List Int :=
 let a:=Zks l (l.length+1) ⟨0,[],0⟩ []
 if a.1=true then (⟨name,a.2.1,[],[]⟩,a.2.2,[])
 else
  let b:=Zbr l 201 a.2.2 [] []
  if b.1=true then (⟨name,a.2.1,b.2.1,[]⟩,b.2.2.2,[])
  else (⟨name,a.2.1,b.2.1,(tE l b.2.2.2).sites⟩,tE l b.2.2.2,b.2.2.1)
theorem Ef (s:St6) (e:Int):(J8 s e).at_=s.at_∧(J8 s e).sites=s.sites:=by
 unfold J8;split<;>exact ⟨rfl,rfl⟩
theorem bZ (l:List Tok) (s:St6) (k:Int) (x:List UInt8):(Qy l s k x).sites=s.sites:=by
 unfold Qy;split
 ·rfl
 split
 ·exact (Ef s 2).2
 ·rfl
theorem bJ (l:List Tok) (s:St6) (k:Int):(Jn l s k).2.sites=s.sites:=by
 unfold Jn;split
 ·rfl
 split
 ·exact (Ef s 2).2
 ·rfl
structure Imps (l:List Tok) (r:Bool×List (List UInt8)×St6):Prop where
 pos:Pos l r.2.2
 stop:r.1=true→r.2.2.e≠0
 sites:r.2.2.sites=[]
 short:∀ x∈r.2.1,x.length≤1000000
 len:r.2.1.length≤l.length+1
theorem Qa4 {l:List Tok} (hT:Toks l):∀ (f:Nat) (s:St6) (imps:List (List UInt8)),Pos l s→s.sites=[]→(s.e=0→(l.length:Int)+1≤f+s.at_)→imps.length+f≤l.length+1→(∀ x∈imps,x.length≤1000000)→Imps l (Zks l f s imps)
 | 0,s,imps,hP,hs,h0,hf,hi=>⟨hP,fun _ he=>by have:=h0 he;have:=hP.hi;omega,hs,hi,by show imps.length≤_;omega⟩
 | f+1,s,imps,hP,hs,h0,hf,hi=>by
  rw [Zks];split
  ·exact ⟨hP,fun h=>by simp at h,hs,hi,by show imps.length≤_;omega⟩
  rename_i Zhv;have Zhv:Ox l s 6 [105,109,112,111,114,116]=true:=by simpa using Zhv
  have q1:=(Sq.refl hP).tok (by omega) (jI hP Zhv)
  split
  ·refine ⟨?_,fun _=>Ej (by decide),?_,hi,by show imps.length≤_;omega⟩
   ·show Pos l (J8 (X3 s) 7);obtain ⟨e1,e2⟩:=Ef (X3 s) 7;exact ⟨by rw [e1];exact q1.adv.lo,by rw [e1];exact q1.adv.hi⟩
   ·show (J8 (X3 s) 7).sites=[];rw [(Ef (X3 s) 7).2];exact hs
  ·have q2:=q1.tok (by omega) (Li q1.adv.pos 1)
   have q3:=q2.tok (by omega) (Xr q2.adv.pos 5 [59])
   refine Qa4 hT f _ _ q3.adv.pos ?_ (fun he=>?_) (by simp only [Ze,Zi,List.length_nil];omega) (fun x hx=>?_)
   ·rw [bZ,bJ];exact hs
   ·have h1:=h0 (q3.adv.ok0 he);have h2:=(q3.adv.gain he).2;have h3:=(q3.adv.gain he).1;omega
   ·rcases List.mem_append.1 hx with hx|hx
    ·exact hi x hx
    ·rw [Zt] at hx;subst hx;exact Yf hT _ _
theorem Qkd {l:List Tok} (hT:Toks l) {s:St6} (hP:Pos l s) (hs:s.sites=[]):St6In l s:=⟨hT,hP,by rw [hs];simp,fun _=>by rw [hs];have:=hP.lo;simp;omega⟩
structure Defs (l:List Tok) (s0:St6) (r:Bool×List Def6×List Int×St6):Prop where
 adv:Adv l 0 0 s0 r.2.2.2
 stop:r.1=true→r.2.2.2.e≠0
 cnt:r.2.2.2.e=0→∀ z,A4 z r.2.1=if (s0.sites.length:Int)+1≤z∧z<(r.2.2.2.sites.length:Int)+1 then 1 else 0
 fit:∀ d∈r.2.1,FitD d
 ok:r.2.2.2.e=0→∀ d∈r.2.1,d.t≠[]∧Wg d.t=true∧d.e≠[]
 len:r.2.1.length≤200
 pl:r.1=false→r.2.2.1.length=r.2.1.length∧∀ x∈r.2.2.1,0≤x∧x<l.length
theorem Qbk {l:List Tok} (hT:Toks l) {s0:St6}:∀ (f:Nat) (s:St6) (defs:List Def6) (pl:List Int),Defs l s0 (false,defs,pl,s)→defs.length+f=201→Defs l s0 (Zbr l f s defs pl)
 | 0,s,defs,pl,h,hf=>by have:=h.len;simp only at this;omega
 | f+1,s,defs,pl,h,hf=>by
  rw [Zbr];split
  ·exact h
  rename_i Zhv;have Zhv:Ox l s 6 [100,101,102]=true:=by simpa using Zhv
  have Zv:=F8 Zhv;have hP:=h.adv.pos;have K9:=h.adv;have Qtr:=h.cnt;have Vt:=h.ok;have Q5:=h.len;have qE:=h.pl rfl;simp only at hP K9 Qtr Vt Q5 qE;split
  ·have hw:=T6 hP (e:=3) (by decide)
   exact ⟨K9.trans hw.adv (by omega) (by omega) (by omega),fun _=>Ej (by decide),fun he=>absurd he (Ej (by decide)),h.fit,fun he=>absurd he (Ej (by decide)),h.len,fun h=>by simp at h⟩
  rename_i Qll;have t1:=(jI hP Zhv).adv;have hd:=Zcz hT t1.pos defs;have a2:=t1.trans hd.adv (m:=0) (q:=0) (by omega) (by omega) (by omega)
  refine Qbk hT f _ _ _ ⟨K9.trans a2 (by omega) (by omega) (by omega),fun h=>by simp at h,fun he z=>?_,fun d hx=>?_,fun he d hx=>?_,?_,fun _=>⟨?_,fun x hx=>?_⟩⟩ ?_
  ·have e1:=Qtr Zv.1 z;have e2:=hd.cnt he z;have g1:=(K9.gain Zv.1).1;have g2:=(hd.adv.gain he).1;have Zm9:(X3 s).sites=s.sites:=rfl;rw [Zm9] at e2 g2;show A4 z (defs++[_])=_;unfold A4 at e1 ⊢;rw [List.map_append,List.sum_append];simp only [List.map_cons,List.map_nil,List.sum_cons,List.sum_nil,Nat.add_zero];rw [e1,e2];exact fA (by omega) (by omega)
  ·rcases List.mem_append.1 hx with hx|hx
   ·exact h.fit d hx
   ·rw [Zt] at hx;subst hx;exact hd.fit
  ·rcases List.mem_append.1 hx with hx|hx
   ·exact Vt Zv.1 d hx
   ·rw [Zt] at hx;subst hx;exact hd.ok he
  ·show (defs++[_]).length≤200;simp only [Ze,Zi,List.length_nil];omega
  ·show (pl++[_]).length=(defs++[_]).length;simp only [Ze,Zi,List.length_nil];omega
  ·rcases List.mem_append.1 hx with hx|hx
   ·exact qE.2 x hx
   ·rw [Zt] at hx;subst hx;exact ⟨hP.lo,Zv.2⟩
  ·simp only [Ze,Zi,List.length_nil];omega
theorem tD (l:List Tok) (s:St6):(tE l s).at_=s.at_∧(tE l s).sites=s.sites∧((tE l s).e=0→tE l s=s):=by
 unfold tE;split
 ·obtain ⟨h1,h2⟩:=Ef s 2;exact ⟨h1,h2,fun h=>absurd h (Ej (by decide))⟩
 ·exact ⟨rfl,rfl,fun _=>rfl⟩
structure Modd (l:List Tok) (name:List UInt8) (m:Mod6):Prop where
 name:m.name=name
 short:∀ x∈m.imps,x.length≤1000000
 ilen:m.imps.length≤l.length+1
 dlen:m.defs.length≤200
 fit:∀ d∈m.defs,FitD d
 ok:∀ d∈m.defs,d.t≠[]∧Wg d.t=true∧d.e≠[]
 slen:m.sites.length≤l.length
 cnt:∀ z,A4 z m.defs=if 1≤z∧z<(m.sites.length:Int)+1 then 1 else 0
theorem xP {l:List Tok} (hT:Toks l) (name:List UInt8):Pos l (Y9 l name).2.1∧(Y9 l name).1.defs.length≤200∧(∀ d∈(Y9 l name).1.defs,FitD d) ∧
  ((Y9 l name).2.1.e=0→Modd l name (Y9 l name).1∧(Y9 l name).2.2.length=(Y9 l name).1.defs.length∧∀ x∈(Y9 l name).2.2,0≤x∧x<l.length):=by
 have hI:=Qa4 hT (l.length+1) ⟨0,[],0⟩ [] ⟨by simp,by simp⟩ rfl (fun _=>by simp) (by simp) (fun x hx=>by cases hx)
 unfold Y9;simp only;obtain ⟨a,ha⟩:=exq (Zks l (l.length+1) ⟨0,[],0⟩ []);rw [ha] at hI ⊢;split
 ·rename_i h1;exact ⟨hI.pos,by simp,fun d hd=>(by cases hd),fun he=>absurd he (hI.stop h1)⟩
 have hD:=Qbk hT (s0:=a.2.2) 201 a.2.2 [] [] ⟨(Adv.refl hI.pos).weak (by omega) (by omega),fun h=>by simp at h,fun _ z=>(by show 0=if (a.2.2.sites.length:Int)+1≤z∧z<(a.2.2.sites.length:Int)+1 then 1 else 0;rw [if_neg (by omega)]),fun d hd=>(by cases hd),fun _ d hd=>(by cases hd),by simp,fun _=>⟨rfl,fun x hx=>(by cases hx)⟩⟩ (by simp)
 obtain ⟨b,hb⟩:=exq (Zbr l 201 a.2.2 [] []);rw [hb] at hD ⊢;split
 ·rename_i h1;exact ⟨hD.adv.pos,hD.len,hD.fit,fun he=>absurd he (hD.stop h1)⟩
 rename_i h1;have h1:b.1=false:=by simpa using h1
 obtain ⟨k1,k2,k3⟩:=tD l b.2.2.2;refine ⟨⟨by rw [k1];exact hD.adv.lo,by rw [k1];exact hD.adv.hi⟩,hD.len,hD.fit,fun he=>?_⟩
 have Ni:=k3 he;simp only at he;rw [Ni] at he ⊢;have hc:=hD.cnt he;have hs:=hI.sites;have Sf:=hD.adv.room (hD.adv.ok0 he);have mN:=hI.pos.lo;refine ⟨⟨rfl,hI.short,hI.len,hD.len,hD.fit,hD.ok he,?_,fun z=>?_⟩,(hD.pl h1).1,(hD.pl h1).2⟩
 ·show b.2.2.2.sites.length≤l.length;rw [hs] at Sf;simp only [List.length_nil] at Sf;omega
 ·have:=hc z;rw [hs] at this;simpa using this
end Go.Am.Ty
