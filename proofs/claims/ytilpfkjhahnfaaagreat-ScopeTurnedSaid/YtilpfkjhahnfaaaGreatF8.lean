/- Contracts of functions that the law reaches, and plain laws. Conditions: those that each contract states. -/
import Derived.Test.YtilpfkjhahnfaaaGreatF7
set_option maxHeartbeats 4000000
set_option linter.unusedVariables false
set_option linter.unusedSimpArgs false
variable {p:Prop}
set_option maxRecDepth 100000
namespace Go.Am.Ty
open Go.Proofs
open Enc (enc dec)
abbrev Zxm:=St6→List Part×St6
section
variable (ex:Zxm) (l:List Tok) (v:Int)
def Zs0 (s:St6):List Part×St6 :=
 let b:=Pr l (Qs l s 5 [40]) v
 let r:=ex (Qs l (Qs l b.2.2 5 [41]) 5 [45,62])
 (Wu ⟨2,[],[],b.1,0,0,b.2.1,[]⟩ [⟨r.1⟩],r.2)
def Zsr (s:St6):List Part×St6 :=
 let b:=Pr l s v
 let a:=ex (Qs l b.2.2 5 [61])
 let c:=ex (Qs l a.2 6 [105,110])
 (Wu ⟨4,[],[],b.1,0,0,b.2.1,[]⟩ [⟨a.1⟩,⟨c.1⟩],c.2)
def Zrz (s:St6):List Part×St6 :=
 let f:=Jm l s 1
 let b:=Pr l (Qs l f.2 5 [40]) v
 let u:=G6 l (Qs l b.2.2 5 [41]) v
 let a:=ex (Qs l u.2 5 [61])
 let c:=ex (Qs l a.2 6 [105,110])
 (Wu ⟨5,[],f.1,b.1,0,0,b.2.1,u.1⟩ [⟨a.1⟩,⟨c.1⟩],c.2)
def Zh9 (s:St6):List Part×St6 :=
 let a:=ex s
 let b:=ex (Qs l a.2 6 [116,104,101,110])
 let c:=ex (Qs l b.2 6 [101,108,115,101])
 (Wu ⟨6,[],[],[],0,0,[],[]⟩ [⟨a.1⟩,⟨b.1⟩,⟨c.1⟩],c.2)
def He (s:St6) (had:List (List UInt8)):List UInt8×List UInt8×(List Part×St6) :=
 let tag:=Yc l s 2 had
 let x:=Jm l tag.2 1
 (tag.1,x.1,ex (Qs l x.2 5 [45,62]))
def lT:Nat→St6→List (List UInt8)→List Part→List Part×St6
 | 0,s,_,_=>([],s)
 | f+1,s,had,body =>
  let b:=He ex l s had
  if b.2.2.2.e≠0 then ([],b.2.2.2)
  else if Fk l b.2.2.2 5 [124]=false then (⟨7,[],[],[],(had.length:Int)+1,0,[],[]⟩::(body++Wu ⟨8,b.1,[],b.2.1,0,0,[],[]⟩ [⟨b.2.2.1⟩]),Qs l b.2.2.2 6 [101,110,100])
  else lT f (X3 b.2.2.2) (had++[b.1]) (body++Wu ⟨8,b.1,[],b.2.1,0,0,[],[]⟩ [⟨b.2.2.1⟩])
def Zet (s:St6):List Part×St6 :=
 let a:=ex s
 lT ex l 51 (Qs l a.2 6 [111,102]) [] a.1
def Zjh (x:List UInt8):List Part→List Part
 | []=>[]
 | p::r=>⟨p.kind,x,p.name,p.bind,p.many,p.num,p.t,p.u⟩::r
def kP:Nat→St6→List (List UInt8)→List Part→List Part×St6
 | 0,s,_,_=>([],s)
 | f+1,s,had,body =>
  let x:=Yc l s 1 had
  let r:=ex (Qs l x.2 5 [61])
  if r.2.e≠0 then ([],r.2)
  else if Fk l r.2 5 [44]=false then (⟨10,[],[],[],(had.length:Int)+1,0,[],[]⟩::(body++Zjh x.1 r.1),Qs l r.2 5 [125])
  else kP f (X3 r.2) (had++[x.1]) (body++Zjh x.1 r.1)
def Zgj (s:St6):List Part×St6 :=
 if Fk l s 5 [125]=true then ([⟨10,[],[],[],0,0,[],[]⟩],X3 s)
 else kP ex l 51 s [] []
def bQ (s:St6):List Part×St6 :=
 let x:=Jm l s 2
 let r:=ex (Qs l x.2 5 [61])
 let t:=G6 l r.2 v
 (Wu ⟨12,[],x.1,[],0,0,t.1,[]⟩ [⟨r.1⟩],Qs l t.2 5 [93])
def kU (s:St6):List Part×St6 :=
 if Fk l s 5 [41]=true then ([⟨0,[],[],[],0,0,[⟨4,[],0⟩],[]⟩],X3 s)
 else
  let r:=ex s
  if Fk l r.2 5 [58]=true then
   let t:=F5 l (X3 r.2) v
   (Wu ⟨13,[],[],[],0,0,t.1,[]⟩ [⟨r.1⟩],Qs l t.2 5 [41])
  else (r.1,Qs l r.2 5 [41])
def Ze2 (s:St6):List Part×St6 :=
 if s.e≠0∨Mw l s=false then ([],J8 s 2)
 else
  let t:=tk l s.at_
  if t.kind=3 then ([⟨0,[],[],[],0,gY t.text,[⟨1,[],0⟩],[]⟩],X3 s)
  else if t.kind=4 then ([⟨0,[],t.text,[],0,0,[⟨3,[],0⟩],[]⟩],X3 s)
  else if t.kind=6 then ([⟨0,[],[],[],0,(if t.text=[116,114,117,101] then 1 else 0),[⟨2,[],0⟩],[]⟩],X3 s)
  else if t.kind=1 then
   (if Fk l (X3 s) 5 [33]=false then ([⟨1,[],t.text,[],0,0,[],[]⟩],X3 s)
    else ([⟨1,[],t.text++[33]++(Jm l (X3 (X3 s)) 1).1,[],0,0,[],[]⟩],(Jm l (X3 (X3 s)) 1).2))
  else if t.text=[40] then kU ex l v (X3 s)
  else if t.text=[123] then Zgj ex l (X3 s)
  else bQ ex l v (X3 s)
def fO:Nat→List Part×St6→List Part×St6
 | 0,r=>r
 | f+1,r=>if Fk l r.2 5 [46]=false then r else
  let x:=Jm l (X3 r.2) 1
  fO f (Wu ⟨11,[],x.1,[],0,0,[],[]⟩ [⟨r.1⟩],x.2)
def mH (s:St6):List Part×St6:=fO l (l.length+1) (Ze2 ex l v s)
def Bc:Nat→List Part×St6→List Part×St6
 | 0,r=>r
 | f+1,r=>if Mw l r.2=false then r else
  let x:=mH ex l v r.2
  Bc f (Wu ⟨3,[],[],[],0,0,[],[]⟩ [⟨r.1⟩,⟨x.1⟩],x.2)
def Ff (s:St6):List Part×St6:=Bc ex l v (l.length+1) (mH ex l v s)
def Dn (b:Int) (s:St6):Bool:=(s.e==0)&&(Yi s.at_ l.length&&((tk l s.at_).kind==5&&R0 (Rd b) (tk l s.at_).text))
def Zjd (b:Int) (sub:Zxm):Nat→List Part×St6→List Part×St6
 | 0,r=>r
 | f+1,r=>if Dn l b r.2=false then r else
  let x:=sub (X3 r.2)
  Zjd b sub f (Wu ⟨9,[],(tk l r.2.at_).text,[],0,0,[],[]⟩ [⟨r.1⟩,⟨x.1⟩],x.2)
def Zfm:Nat→Zxm
 | 0=>Ff ex l v
 | m+1=>fun s=>Zjd l (4-(m:Int)) (Zfm m) (l.length+1) (Zfm m s)
def Zmq (s:St6):List Part×St6 :=
 if s.e≠0 then ([],s)
 else if s.at_<l.length∧(tk l s.at_).kind=6 then
  (if (tk l s.at_).text=[102,117,110] then Zs0 ex l v (X3 s)
   else if (tk l s.at_).text=[108,101,116] then Zsr ex l v (X3 s)
   else if (tk l s.at_).text=[114,101,99] then Zrz ex l v (X3 s)
   else if (tk l s.at_).text=[105,102] then Zh9 ex l (X3 s)
   else if (tk l s.at_).text=[99,97,115,101] then Zet ex l (X3 s)
   else Zfm ex l v 5 s)
 else Zfm ex l v 5 s
end
def J5 (l:List Tok):Nat→Zxm
 | 0=>fun s=>([],J8 s 4)
 | d+1=>Zmq (J5 l d) l (100-(d:Int))
def Zip (t:Tok):Prop:=t.text.length≤1000000∧(t.kind=3→Zy8 t.text)
theorem Zwx {s:List UInt8} (hs:s.length≤100000) {i:Nat} (hi:i<s.length) (h:(fU s i).2=true):Zip (fU s i).1:=by
 unfold fU at h ⊢;have hw:=fK (s.drop i);rw [List.length_drop] at hw;have hpl:(Gp s i).length=Gi (s.drop i):=by unfold Gp;rw [List.length_drop,List.length_take];omega
 split at h
 ·rename_i a;rw [if_pos a];have hU:=Zix (s:=s.drop i) (by simpa using h)
  rw [List.length_drop] at hU;exact ⟨by show (Ik (s.drop i)).1.length≤_;omega,fun e=>absurd e (by show ¬ (4:Int)=3;decide)⟩
 rename_i a;rw [if_neg a];split at h
 ·rename_i a;rw [if_pos a];exact ⟨by show (Gp s i).length≤_;omega,fun e=>absurd e (by show ¬ (2:Int)=3;decide)⟩
 rename_i a;rw [if_neg a];split at h
 ·rename_i a;rw [if_pos a];exact ⟨by show (Gp s i).length≤_;omega,fun e=>absurd e (by show ¬ (6:Int)=3;decide)⟩
 rename_i a;rw [if_neg a];split at h
 ·rename_i a;rw [if_pos a];exact ⟨by show (Gp s i).length≤_;omega,fun e=>absurd e (by show ¬ (1:Int)=3;decide)⟩
 rename_i a;rw [if_neg a];split at h
 ·rename_i a;rw [if_pos a];split at h
  ·rename_i b;rw [if_pos b];simp only [Qx] at h;exact ⟨by show (Gp s i).length≤_;omega,fun _=>⟨by show (Gp s i).length≤18;omega,fun c hc=>List.all_eq_true.1 b c hc⟩⟩
  ·cases h
 ·rename_i a;rw [if_neg a];have:=Zcq (s:=s) (i:=i);exact ⟨by show (S3 s i).length≤_;omega,fun e=>absurd e (by show ¬ (5:Int)=3;decide)⟩
theorem kF {s:List UInt8} (hs:s.length≤100000):∀ (f i:Nat) (out:List Tok),(∀ t∈out,Zip t)→i≤s.length→out.length≤i→(∀ t∈(Em f s i out).1,Zip t)∧(Em f s i out).1.length≤s.length+1∧((Em f s i out).2.2=0→1≤(Em f s i out).1.length)
 | 0,i,out,_,_,_=>⟨fun t ht=>(by cases ht),by simp [Em],fun h=>absurd h (by show ¬ (2:Int)=0;decide)⟩
 | f+1,i,out,h,hi,hl=>by
  rw [Em];split
  ·refine ⟨fun t ht=>?_,by simp only [Zh,Zj,List.length_nil];omega,fun _=>by simp⟩
   rcases List.mem_append.1 ht with ht|ht
   ·exact h t ht
   ·rw [Zp] at ht;subst ht;exact ⟨by simp,fun e=>absurd e (by show ¬ (0:Int)=3;decide)⟩
  ·rename_i hlt;split
   ·exact ⟨fun t ht=>(by cases ht),by simp,fun h=>absurd h (by show ¬ (2:Int)=0;decide)⟩
   ·rename_i hok;have hok':(fU s i).2=true:=by simpa using hok
    obtain ⟨n,hn,hn1,hn2⟩:=Zp9 (show i<s.length by omega) hok'
    have hb:=aV (s:=s) (i:=n) hn2;have hto:=Zwx hs (show i<s.length by omega) hok'
    rw [hn,Zf];refine kF hs f _ _ (fun t ht=>?_) hb.2 (by simp only [Zh,Zj,List.length_nil];omega)
    rcases List.mem_append.1 ht with ht|ht
    ·exact h t ht
    ·rw [Zp] at ht;subst ht;exact hto
theorem Zkk (s:List UInt8):(∀ t∈(Ba s).1,Zip t)∧(Ba s).1.length≤100001∧((Ba s).2.2=0→1≤(Ba s).1.length):=by
 unfold Ba;split
 ·exact ⟨fun t ht=>(by cases ht),by simp,fun h=>absurd h (by show ¬ (3:Int)=0;decide)⟩
 ·rename_i h;have hb:=aV (s:=s) (i:=0) (by omega)
  obtain ⟨h1,h2,h3⟩:=kF (s:=s) (by omega) (s.length+1) (Ij s 0) [] (fun t ht=>by cases ht) hb.2 (by simp)
  exact ⟨h1,by omega,h3⟩
structure Adv (l:List Tok) (m q:Int) (s r:St6):Prop where
 err:s.e≠0→r=s
 lo:0≤r.at_
 hi:r.at_≤l.length
 mono:r.e=0→s.at_≤r.at_
 room:s.e=0→(r.sites.length:Int)≤s.sites.length+(l.length-s.at_)+q
 gain:r.e=0→s.sites.length≤r.sites.length∧(r.sites.length:Int)-s.sites.length+m≤r.at_-s.at_
structure Pos (l:List Tok) (s:St6):Prop where
 lo:0≤s.at_
 hi:s.at_≤l.length
theorem Adv.pos {l:List Tok} {m q:Int} {s r:St6} (h:Adv l m q s r):Pos l r:=⟨h.lo,h.hi⟩
theorem Adv.ok0 {l:List Tok} {m q:Int} {s r:St6} (h:Adv l m q s r) (he:r.e=0):s.e=0:=Classical.byContradiction fun hn=>by
 have:=h.err hn;rw [this] at he;exact hn he
theorem Adv.refl {l:List Tok} {s:St6} (h:Pos l s):Adv l 0 0 s s:=⟨fun _=>rfl,h.lo,h.hi,fun _=>Int.le_refl _,fun _=>by have:=h.hi;omega,fun _=>⟨Zl _,by omega⟩⟩
theorem Adv.trans {l:List Tok} {m1 q1 m2 q2 m q:Int} {a b c:St6} (h1:Adv l m1 q1 a b) (h2:Adv l m2 q2 b c) (hm:m≤m1+m2) (hq1:q1≤q) (hq2:q2-m1≤q):Adv l m q a c:=by
 refine ⟨fun he=>?_,h2.lo,h2.hi,fun he=>?_,fun he=>?_,fun he=>?_⟩
 ·have e1:=h1.err he;subst e1;exact h2.err he
 ·have:=h1.mono (h2.ok0 he);have:=h2.mono he;omega
 ·have hr:=h1.room he;by_cases hb:b.e=0
  ·have h3:=h2.room hb;have h4:=(h1.gain hb).2;omega
  ·have:=h2.err hb;rw [this];omega
 ·obtain ⟨g1,g2⟩:=h1.gain (h2.ok0 he);obtain ⟨g3,g4⟩:=h2.gain he;exact ⟨by omega,by omega⟩
theorem Adv.weak {l:List Tok} {m1 q1 m q:Int} {a b:St6} (h:Adv l m1 q1 a b) (hm:m≤m1) (hq:q1≤q):Adv l m q a b :=
 ⟨h.err,h.lo,h.hi,h.mono,fun he=>by have:=h.room he;omega,fun he=>by obtain ⟨g1,g2⟩:=h.gain he;exact ⟨g1,by omega⟩⟩
theorem Cw {l:List Tok} {s:St6} {k:Int} {x:List UInt8} (h:Fk l s k x=true):s.e=0∧s.at_<l.length:=by
 unfold Fk at h;simp only [Zk,Zm,Xa] at h;exact ⟨h.1,h.2.1⟩
theorem P2 {l:List Tok} {s:St6} (h:Pos l s) (k:Int) (x:List UInt8):Adv l 1 0 s (Qs l s k x):=by
 have h0:=h.lo;have h1:=h.hi;rcases Ro l s k x with ⟨e,h2⟩|⟨e,_,h2⟩|⟨e,hi,h2⟩
 ·rw [h2];exact ⟨fun _=>rfl,h0,h1,fun he=>absurd he e,fun he=>absurd he e,fun he=>absurd he e⟩
 ·rw [h2];exact ⟨fun he=>absurd e he,h0,h1,fun he=>absurd he (by show ¬ (2:Int)=0;decide),fun _=>by show (s.sites.length:Int)≤_;omega,fun he=>absurd he (by show ¬ (2:Int)=0;decide)⟩
 ·have:=(Cw hi).2;rw [h2];exact ⟨fun he=>absurd e he,by show 0≤s.at_+1;omega,by show s.at_+1≤_;omega,fun _=>by show s.at_≤s.at_+1;omega,fun _=>by show (s.sites.length:Int)≤_;omega,fun _=>⟨Zl _,by show (s.sites.length:Int)-s.sites.length+1≤s.at_+1-s.at_;omega⟩⟩
theorem Zj7 {l:List Tok} {s:St6} (h:Pos l s) (hl:s.at_<l.length):Adv l 1 0 s (X3 s)∨s.e≠0:=by
 by_cases he:s.e=0
 ·left;have h0:=h.lo;exact ⟨fun hn=>absurd he hn,by show 0≤s.at_+1;omega,by show s.at_+1≤_;omega,fun _=>by show s.at_≤s.at_+1;omega,fun _=>by show (s.sites.length:Int)≤_;omega,fun _=>⟨Zl _,by show (s.sites.length:Int)-s.sites.length+1≤s.at_+1-s.at_;omega⟩⟩
 ·exact .inr he
theorem Lm {l:List Tok} {s:St6} (h:Pos l s) (k:Int):Adv l 1 0 s (Jm l s k).2:=by
 have h0:=h.lo;have h1:=h.hi;rcases G7 l s k with ⟨e,h2⟩|⟨e,_,h2⟩|⟨e,_,_,h2⟩|⟨e,hi,_,h2⟩
 ·rw [h2];exact ⟨fun _=>rfl,h0,h1,fun he=>absurd he e,fun he=>absurd he e,fun he=>absurd he e⟩
 ·rw [h2];exact ⟨fun he=>absurd e he,h0,h1,fun he=>absurd he (by show ¬ (2:Int)=0;decide),fun _=>by show (s.sites.length:Int)≤_;omega,fun he=>absurd he (by show ¬ (2:Int)=0;decide)⟩
 ·rw [h2];exact ⟨fun he=>absurd e he,h0,h1,fun he=>absurd he (by show ¬ (2:Int)=0;decide),fun _=>by show (s.sites.length:Int)≤_;omega,fun he=>absurd he (by show ¬ (2:Int)=0;decide)⟩
 ·rw [h2];exact ⟨fun he=>absurd e he,by show 0≤s.at_+1;omega,by show s.at_+1≤_;omega,fun _=>by show s.at_≤s.at_+1;omega,fun _=>by show (s.sites.length:Int)≤_;omega,fun _=>⟨Zl _,by show (s.sites.length:Int)-s.sites.length+1≤s.at_+1-s.at_;omega⟩⟩
theorem mX {l:List Tok} {s:St6} (h:Pos l s) (k:Int) (had:List (List UInt8)):Adv l 1 0 s (Yc l s k had).2:=by
 have hN:=Lm h k;have h0:=h.lo;have h1:=h.hi;unfold Yc;split
 ·exact hN
 rename_i he;have hse:=hN.ok0 (by simpa using he)
 split
 ·exact ⟨fun hn=>absurd hse hn,h0,h1,fun he=>absurd he (by show ¬ (7:Int)=0;decide),fun _=>by show (s.sites.length:Int)≤_;omega,fun he=>absurd he (by show ¬ (7:Int)=0;decide)⟩
 split
 ·exact ⟨fun hn=>absurd hse hn,h0,h1,fun he=>absurd he (by show ¬ (3:Int)=0;decide),fun _=>by show (s.sites.length:Int)≤_;omega,fun he=>absurd he (by show ¬ (3:Int)=0;decide)⟩
 ·exact hN
structure Toks (l:List Tok):Prop where
 len:l.length≤100000
 ok:∀ t∈l,Zip t
theorem Toks.long {l:List Tok} (h:Toks l):∀ t∈l,t.text.length≤9223372036854775807:=fun t ht=>Nat.le_trans (h.ok t ht).1 (by omega)
structure Noted (l:List Tok) (m q:Int) (s:St6) (r:List Node×St6):Prop where
 adv:Adv l m q s r.2
 nil:s.e≠0→r.1=[]
 len:r.1.length≤100001
 named:Y5 r.1
 ok:r.2.e=0→r.1≠[]∧Y6 r.1=true
 cnt:r.2.e=0→∀ z,Xl (Ms z) r.1=if (s.sites.length:Int)+1≤z∧z<(r.2.sites.length:Int)+1 then 1 else 0
theorem Oe {l:List Tok} (hT:Toks l) {s:St6} (h:Pos l s) {v:Int} (hv:s.e=0→1≤v∧v≤100):Noted l 0 0 s (F5 l s v):=by
 have h0:=h.lo;have h1:=h.hi;have hl:=hT.len;unfold F5;by_cases he:s.e=0
 case neg =>
  rw [if_pos he];exact ⟨⟨fun _=>rfl,h0,h1,fun e=>absurd e he,fun e=>absurd e he,fun e=>absurd e he⟩,fun _=>rfl,by simp,Qt,fun e=>absurd e he,fun e=>absurd e he⟩
 rw [if_neg (by simpa using he)]
 obtain ⟨v1,v2⟩:=hv he;obtain ⟨f1,f2,f3⟩:=mG hl hT.long h0 h1 (site:=(s.sites.length:Int)+1) (by omega) v1 v2
 obtain ⟨⟨t,a,qs,bad,re⟩,hr⟩:=exq (U7 l s.at_ ((s.sites.length:Int)+1) v);rw [hr] at f1 f2 f3 ⊢;simp only at f1 f2 f3 ⊢;by_cases hre:re=0
 case neg =>
  rw [if_pos hre];exact ⟨⟨fun e=>absurd he e,f1,f2,fun e=>absurd e hre,fun _=>by show (s.sites.length:Int)≤_;omega,fun e=>absurd e hre⟩,fun e=>absurd he e,by simp,Qt,fun e=>absurd e hre,fun e=>absurd e hre⟩
 rw [if_neg (by simpa using hre)]
 obtain ⟨g1,g2,g3,g4,g5,g6,g7⟩:=f3 hre;have hcat:((s.sites++qs).length:Int)=s.sites.length+qs.length:=by simp
 refine ⟨⟨fun e=>absurd he e,by show 0≤a;omega,g2,fun _=>by show s.at_≤a;omega,fun _=>by show ((s.sites++qs).length:Int)≤_;omega,fun _=>⟨by simp,by show ((s.sites++qs).length:Int)-s.sites.length+0≤a-s.at_;omega⟩⟩,fun e=>absurd he e,by show t.length≤_;omega,g5,fun _=>⟨fun e=>?_,g4⟩,fun _ z=>?_⟩
 ·have:=Zoa g4;simp only at e;rw [e] at this;simp at this
 ·show Xl (Ms z) t=if (s.sites.length:Int)+1≤z∧z<((s.sites++qs).length:Int)+1 then 1 else 0
  rw [g7,hcat];by_cases hz:(s.sites.length:Int)+1≤z∧z<(s.sites.length:Int)+1+qs.length
  ·rw [if_pos hz,if_pos (by omega)]
  ·rw [if_neg hz,if_neg (by omega)]
theorem Nz {l:List Tok} (hT:Toks l) {s:St6} (h:Pos l s) {v:Int} (hv:s.e=0→1≤v∧v≤100):Noted l (-1) 1 s (G6 l s v):=by
 have h0:=h.lo;have h1:=h.hi;unfold G6;by_cases he:s.e=0
 case neg =>
  rw [if_pos he];exact ⟨⟨fun _=>rfl,h0,h1,fun e=>absurd e he,fun e=>absurd e he,fun e=>absurd e he⟩,fun _=>rfl,by simp,Qt,fun e=>absurd e he,fun e=>absurd e he⟩
 rw [if_neg (by simpa using he)]
 cases hi:Fk l s 5 [58] with
 | true =>
  rw [if_pos rfl];have hlt:=(Cw hi).2;rcases Zj7 h hlt with hA|hA
  ·have hN:=Oe hT hA.pos (v:=v) (fun _=>hv he);exact ⟨hA.trans hN.adv (by omega) (by omega) (by omega),fun e=>absurd he e,hN.len,hN.named,hN.ok,fun e z=>hN.cnt e z⟩
  ·exact absurd he hA
 | false =>
  rw [if_neg (by simp)]
  have hcat:∀ x:Site,((s.sites++[x]).length:Int)=s.sites.length+1:=fun x=>by simp
  refine ⟨⟨fun e=>absurd he e,h0,h1,fun _=>Int.le_refl _,fun _=>by show ((s.sites++[_]).length:Int)≤_;rw [hcat];omega,fun _=>⟨by simp,by show ((s.sites++[_]).length:Int)-s.sites.length+-1≤s.at_-s.at_;rw [hcat];omega⟩⟩,fun e=>absurd he e,by simp,T7,fun _=>⟨by simp,?_⟩,fun _ z=>?_⟩
  ·have:∀ n:Nat,Y6 [⟨0,[],(n:Int)+1⟩]=true:=by
    intro n;refine Zry (x:=Go.Rose.Rose.mk ⟨0,[],(n:Int)+1⟩ []) ⟨⟨rfl,trivial⟩,fun m hm=>?_,by show Go.Rose.Rose.depth _≤100;unfold Go.Rose.Rose.depth;simp [Go.Rose.Rose.depths],by rfl,rfl,by show ¬ (0:Int)=9;decide,by simp [Go.Rose.Rose.nds,Go.Rose.Rose.ndss]⟩
    simp [Go.Rose.Rose.nds,Go.Rose.Rose.ndss] at hm;subst hm;unfold Dt;rw [if_pos (.inl rfl)];simp only [decide_eq_true_eq];omega
   exact this _
  ·show Xl (Ms z) [⟨0,[],(s.sites.length:Int)+1⟩]=if (s.sites.length:Int)+1≤z∧z<((s.sites++[_]).length:Int)+1 then 1 else 0
   rw [hcat];unfold Xl Ms;simp only [List.map_cons,List.map_nil,List.sum_cons,List.sum_nil,true_and,Nat.add_zero];by_cases hq:(s.sites.length:Int)+1=z
   ·rw [if_pos hq,if_pos (by omega)]
   ·rw [if_neg hq,if_neg (by omega)]
theorem Ce {l:List Tok} (hT:Toks l) {s:St6} (h:Pos l s) {v:Int} (hv:s.e=0→1≤v∧v≤100):Noted l 0 0 s (Pr l s v).2:=by
 have hA:=Lm h 1;have hN:=Nz hT hA.pos (v:=v) (fun e=>hv (hA.ok0 e));unfold Pr;refine ⟨hA.trans hN.adv (by omega) (by omega) (by omega),fun e=>?_,hN.len,hN.named,hN.ok,fun e z=>?_⟩
 ·refine hN.nil ?_;rw [hA.err e];exact e
 ·have e1:=hN.adv.ok0 e;have hs:(Jm l s 1).2.sites=s.sites:=by
   rcases G7 l s 1 with ⟨_,h2⟩|⟨_,_,h2⟩|⟨_,_,_,h2⟩|⟨_,_,_,h2⟩<;>rw [h2]
  have:=hN.cnt e z;rw [hs] at this;exact this
def G5 (z:Int) (p:Part):Nat:=Xl (Ms z) p.t+Xl (Ms z) p.u
def Y7 (z:Int) (e:List Part):Nat:=(e.map (G5 z)).sum
theorem Et (z:Int) (a b:List Part):Y7 z (a++b)=Y7 z a+Y7 z b:=by unfold Y7;rw [List.map_append,List.sum_append]
theorem Dr (z:Int) (p:Part) (b:List Part):Y7 z (p::b)=G5 z p+Y7 z b:=by unfold Y7;rw [List.map_cons,List.sum_cons]
def F3 (p:Part):Prop:=(p.t.length≤100001∧Y5 p.t)∧(p.u.length≤100001∧Y5 p.u)∧p.label.length≤1000000∧p.name.length≤3000000∧p.bind.length≤1000000
def Qbv (s r:St6) (e:List Part):Prop:=∀ z,Y7 z e=if (s.sites.length:Int)+1≤z∧z<(r.sites.length:Int)+1 then 1 else 0
structure Reads (l:List Tok) (s:St6) (r:List Part×St6):Prop where
 adv:Adv l 1 0 s r.2
 nil:s.e≠0→r.1=[]
 len:(r.1.length:Int)≤2*(l.length-s.at_)+1
 ok:r.2.e=0→r.1≠[]∧(r.1.length:Int)≤2*(r.2.at_-s.at_)-1
 cnt:r.2.e=0→Qbv s r.2 r.1
 fit:∀ p∈r.1,F3 p
structure Tk6 (l:List Tok) (s r:St6):Prop where
 adv:Adv l 1 0 s r
 same:r.e=0→r.sites=s.sites
theorem Xk {l:List Tok} {s:St6} (h:Pos l s) (k:Int) (x:List UInt8):Tk6 l s (Qs l s k x):=⟨P2 h k x,fun he=>by
 rcases Ro l s k x with ⟨_,h2⟩|⟨_,_,h2⟩|⟨_,_,h2⟩<;>rw [h2]⟩
theorem Bb {l:List Tok} {s:St6} (h:Pos l s) (k:Int):Tk6 l s (Jm l s k).2:=⟨Lm h k,fun he=>by
 rcases G7 l s k with ⟨_,h2⟩|⟨_,_,h2⟩|⟨_,_,_,h2⟩|⟨_,_,_,h2⟩<;>rw [h2]⟩
theorem Zkl {l:List Tok} {s:St6} (h:Pos l s) (k:Int) (had:List (List UInt8)):Tk6 l s (Yc l s k had).2:=⟨mX h k had,fun he=>by
 have hN:=(Bb h k).same;unfold Yc at he ⊢;split
 ·rename_i a;exact absurd (by rw [if_pos a] at he;exact he) a
 rename_i a;split
 ·rfl
 split
 ·rfl
 ·exact hN (by simpa using a)⟩
theorem Yb {l:List Tok} (hT:Toks l) (s:St6) (k:Int):(Jm l s k).1.length≤1000000:=by
 have ht:(tk l s.at_).text.length≤1000000:=by
  unfold tk;rw [Zd];cases hk:l[s.at_.toNat]? with
  | none=>simp [Kg]
  | some x=>exact (hT.ok x (List.mem_of_getElem? hk)).1
 rcases G7 l s k with ⟨_,h2⟩|⟨_,_,h2⟩|⟨_,_,_,h2⟩|⟨_,_,_,h2⟩<;>rw [h2]
 ·simp
 ·simp
 ·simp
 ·exact ht
theorem gH {l:List Tok} (hT:Toks l) (s:St6) (k:Int) (had:List (List UInt8)):(Yc l s k had).1.length≤1000000:=by
 have:=Yb hT s k;unfold Yc;repeat' split
 all_goals exact this
theorem A5 {l:List Tok} (hT:Toks l) (s:St6) (v:Int):(Pr l s v).1.length≤1000000:=Yb hT s 1
structure Sq (l:List Tok) (m:Int) (s r:St6) (n:Int) (w:Int→Nat):Prop where
 adv:Adv l m 0 s r
 ok:r.e=0→n≤2*(r.at_-s.at_)
 all:n≤2*(l.length-s.at_)+1
 cnt:r.e=0→∀ z,w z=if (s.sites.length:Int)+1≤z∧z<(r.sites.length:Int)+1 then 1 else 0
theorem Sq.refl {l:List Tok} {s:St6} (h:Pos l s):Sq l 0 s s 0 (fun _=>0) :=
 ⟨Adv.refl h,fun _=>by omega,by have:=h.hi;omega,fun _ z=>by rw [if_neg (by omega)]⟩
theorem Sq.tok {l:List Tok} {m:Int} {s r q:St6} {n:Int} {w:Int→Nat} (h:Sq l m s r n w) (hm:0≤m) (hq:Tk6 l r q):Sq l (m+1) s q n w:=by
 refine ⟨h.adv.trans hq.adv (Int.le_refl _) (Int.le_refl _) (by omega),fun he=>?_,h.all,fun he z=>?_⟩
 ·have h1:=h.ok (hq.adv.ok0 he);have h2:=hq.adv.mono he;omega
 ·have:=h.cnt (hq.adv.ok0 he) z;rw [hq.same he];exact this
theorem Sq.note {l:List Tok} {m m2 q2:Int} {s r:St6} {n:Int} {w:Int→Nat} {t:List Node×St6} (h:Sq l m s r n w) (hq:Noted l m2 q2 r t) (hm:q2≤m) (h2:0≤m+m2):Sq l (m+m2) s t.2 n (fun z=>w z+Xl (Ms z) t.1):=by
 refine ⟨h.adv.trans hq.adv (Int.le_refl _) (Int.le_refl _) (by omega),fun he=>?_,h.all,fun he z=>?_⟩
 ·have h1:=h.ok (hq.adv.ok0 he);have h2:=hq.adv.mono he;omega
 ·have e1:=h.cnt (hq.adv.ok0 he) z;have e2:=hq.cnt he z;have g1:=(h.adv.gain (hq.adv.ok0 he)).1;have g2:=(hq.adv.gain he).1;rw [e1,e2];exact aX (by omega) (by omega)
theorem Sq.read {l:List Tok} {m:Int} {s r:St6} {n:Int} {w:Int→Nat} {t:List Part×St6} (h:Sq l m s r n w) (hm:0≤m) (hq:Reads l r t):Sq l (m+1) s t.2 (n+t.1.length) (fun z=>w z+Y7 z t.1):=by
 refine ⟨h.adv.trans hq.adv (Int.le_refl _) (Int.le_refl _) (by omega),fun he=>?_,?_,fun he z=>?_⟩
 ·have h1:=h.ok (hq.adv.ok0 he);have h2:=(hq.ok he).2;omega
 ·by_cases hr:r.e=0
  ·have h1:=h.ok hr;have h2:=hq.len;omega
  ·have h1:=hq.nil hr;rw [h1];have:=h.all;simp only [List.length_nil];omega
 ·have e1:=h.cnt (hq.adv.ok0 he) z;have e2:=hq.cnt he z;have g1:=(h.adv.gain (hq.adv.ok0 he)).1;have g2:=(hq.adv.gain he).1;rw [e1,e2];exact aX (by omega) (by omega)
structure Reads0 (l:List Tok) (s:St6) (r:List Part×St6):Prop where
 adv:Adv l 0 0 s r.2
 len:(r.1.length:Int)≤2*(l.length-s.at_)+3
 ok:r.2.e=0→r.1≠[]∧(r.1.length:Int)≤2*(r.2.at_-s.at_)+1
 cnt:r.2.e=0→Qbv s r.2 r.1
 fit:∀ p∈r.1,F3 p
theorem Sq.done {l:List Tok} {m:Int} {s r:St6} {n:Int} {w:Int→Nat} (h:Sq l m s r n w) (hm:0≤m) {e:List Part} (he:e≠[]) (hn:(e.length:Int)=n+1) (hw:∀ z,Y7 z e=w z) (hf:∀ p∈e,F3 p):Reads0 l s (e,r):=by
 refine ⟨h.adv.weak hm (Int.le_refl _),?_,fun h0=>⟨he,?_⟩,fun h0 z=>?_,hf⟩
 ·have:=h.all;show (e.length:Int)≤_;omega
 ·have:=h.ok h0;show (e.length:Int)≤2*(r.at_-s.at_)+1;omega
 ·rw [hw];exact h.cnt h0 z
theorem Reads0.behind {l:List Tok} {s:St6} (hP:Pos l s) (he:s.e=0) (hl:s.at_<l.length) {r:List Part×St6} (h:Reads0 l (X3 s) r):Reads l s r:=by
 rcases Zj7 hP hl with hA|hA
 ·have e1:(X3 s).at_=s.at_+1:=rfl;refine ⟨hA.trans h.adv (by omega) (by omega) (by omega),fun hn=>absurd he hn,?_,fun h0=>?_,fun h0 z=>?_,h.fit⟩
  ·have:=h.len;rw [e1] at this;omega
  ·obtain ⟨g1,g2⟩:=h.ok h0;rw [e1] at g2;exact ⟨g1,by omega⟩
  ·exact h.cnt h0 z
 ·exact absurd he hA
section
variable {ex:Zxm} {l:List Tok} {v:Int}
theorem Ma {k m n:Int} {a b c:List UInt8} {t u:List Node} (h1:t.length≤100001) (h2:Y5 t) (h3:u.length≤100001) (h4:Y5 u) (h5:a.length≤1000000) (h6:b.length≤3000000) (h7:c.length≤1000000):F3 ⟨k,a,b,c,m,n,t,u⟩:=⟨⟨h1,h2⟩,⟨h3,h4⟩,h5,h6,h7⟩
theorem Kz (z:Int) (p:Part) (es:List (Sl Part)):Y7 z (Wu p es)=G5 z p+((es.map fun x=>Y7 z x.l).sum):=by
 unfold Wu;rw [Dr]
 congr 1
 unfold Bw
 induction es with
 | nil=>rfl
 | cons x es ih=>rw [List.flatMap_cons,Et,ih];rfl
theorem N1 (p:Part) (es:List (Sl Part)):(Wu p es).length=1+((es.map fun x=>x.l.length).sum):=by
 unfold Wu Bw;rw [Zj,List.length_flatMap];omega
theorem Bg {p:Part} {es:List (Sl Part)} (hp:F3 p) (h:∀ x∈es,∀ q∈x.l,F3 q):∀ q∈Wu p es,F3 q:=by
 intro q hq;unfold Wu Bw at hq;rcases Zu.1 hq with rfl|hq
 ·exact hp
 ·obtain ⟨x,hx,hqx⟩:=List.mem_flatMap.1 hq;exact h x hx q hqx
theorem Zr2 (hT:Toks l) (hex:∀ s,Pos l s→Reads l s (ex s)) (h1:1≤v) (h2:v≤100) {s:St6} (h:Pos l s):Reads0 l s (Zs0 ex l v s):=by
 have q1:=(Sq.refl h).tok (by omega) (Xk h 5 [40])
 have hb:=Ce hT q1.adv.pos (v:=v) fun _=>⟨h1,h2⟩;have q2:=q1.note hb (by omega) (by omega)
 have q3:=q2.tok (by omega) (Xk q2.adv.pos 5 [41])
 have q4:=q3.tok (by omega) (Xk q3.adv.pos 5 [45,62])
 have hr:=hex _ q4.adv.pos;have q5:=q4.read (by omega) hr
 unfold Zs0;refine q5.done (by omega) (by unfold Wu;simp) ?_ (fun z=>?_) (Bg (Ma hb.len hb.named (by simp) Qt (by simp) (by simp) (A5 hT _ _)) fun x hx q hq=>?_)
 ·rw [N1];simp;omega
 ·rw [Kz];unfold G5 Xl;simp
 ·simp only [Zp] at hx;subst hx;exact hr.fit q hq
theorem Zr1 (hT:Toks l) (hex:∀ s,Pos l s→Reads l s (ex s)) (h1:1≤v) (h2:v≤100) {s:St6} (h:Pos l s):Reads0 l s (Zsr ex l v s):=by
 have hb:=Ce hT h (v:=v) fun _=>⟨h1,h2⟩;have q2:=(Sq.refl h).note hb (by omega) (by omega)
 have q3:=q2.tok (by omega) (Xk q2.adv.pos 5 [61])
 have hr:=hex _ q3.adv.pos;have q4:=q3.read (by omega) hr
 have q5:=q4.tok (by omega) (Xk q4.adv.pos 6 [105,110])
 have hr2:=hex _ q5.adv.pos;have q6:=q5.read (by omega) hr2
 unfold Zsr;refine q6.done (by omega) (by unfold Wu;simp) ?_ (fun z=>?_) (Bg (Ma hb.len hb.named (by simp) Qt (by simp) (by simp) (A5 hT _ _)) fun x hx q hq=>?_)
 ·rw [N1];simp;omega
 ·rw [Kz];unfold G5 Xl;simp;omega
 ·simp only [Zu,Kl,or_false] at hx;rcases hx with rfl|rfl
  ·exact hr.fit q hq
  ·exact hr2.fit q hq
theorem Zr0 (hT:Toks l) (hex:∀ s,Pos l s→Reads l s (ex s)) (h1:1≤v) (h2:v≤100) {s:St6} (h:Pos l s):Reads0 l s (Zrz ex l v s):=by
 have q0:=(Sq.refl h).tok (by omega) (Bb h 1)
 have q1:=q0.tok (by omega) (Xk q0.adv.pos 5 [40])
 have hb:=Ce hT q1.adv.pos (v:=v) fun _=>⟨h1,h2⟩;have q2:=q1.note hb (by omega) (by omega)
 have q3:=q2.tok (by omega) (Xk q2.adv.pos 5 [41])
 have hu:=Nz hT q3.adv.pos (v:=v) fun _=>⟨h1,h2⟩;have q4:=q3.note hu (by omega) (by omega)
 have q5:=q4.tok (by omega) (Xk q4.adv.pos 5 [61])
 have hr:=hex _ q5.adv.pos;have q6:=q5.read (by omega) hr
 have q7:=q6.tok (by omega) (Xk q6.adv.pos 6 [105,110])
 have hr2:=hex _ q7.adv.pos;have q8:=q7.read (by omega) hr2
 unfold Zrz;refine q8.done (by omega) (by unfold Wu;simp) ?_ (fun z=>?_) (Bg (Ma hb.len hb.named hu.len hu.named (by simp) (by have:=Yb hT s 1;omega) (A5 hT _ _)) fun x hx q hq=>?_)
 ·rw [N1];simp;omega
 ·rw [Kz];unfold G5;simp;omega
 ·simp only [Zu,Kl,or_false] at hx;rcases hx with rfl|rfl
  ·exact hr.fit q hq
  ·exact hr2.fit q hq
theorem Zoe (hex:∀ s,Pos l s→Reads l s (ex s)) {s:St6} (h:Pos l s):Reads0 l s (Zh9 ex l s):=by
 have hr:=hex _ h;have q1:=(Sq.refl h).read (by omega) hr
 have q2:=q1.tok (by omega) (Xk q1.adv.pos 6 [116,104,101,110])
 have hr2:=hex _ q2.adv.pos;have q3:=q2.read (by omega) hr2
 have q4:=q3.tok (by omega) (Xk q3.adv.pos 6 [101,108,115,101])
 have hr3:=hex _ q4.adv.pos;have q5:=q4.read (by omega) hr3
 unfold Zh9;refine q5.done (by omega) (by unfold Wu;simp) ?_ (fun z=>?_) (Bg (Ma (by simp) Qt (by simp) Qt (by simp) (by simp) (by simp)) fun x hx q hq=>?_)
 ·rw [N1];simp;omega
 ·rw [Kz];unfold G5 Xl;simp;omega
 ·simp only [Zu,Kl,or_false] at hx;rcases hx with rfl|rfl|rfl
  ·exact hr.fit q hq
  ·exact hr2.fit q hq
  ·exact hr3.fit q hq
end
theorem kG {l:List Tok} {s:St6} (h:Pos l s) (he:s.e=0) (hl:s.at_<l.length):Tk6 l s (X3 s):=by
 rcases Zj7 h hl with hA|hA
 ·exact ⟨hA,fun _=>rfl⟩
 ·exact absurd he hA
theorem cU {l:List Tok} {s:St6} (h:Pos l s) {k:Int} {x:List UInt8} (hi:Fk l s k x=true):Tk6 l s (X3 s):=kG h (Cw hi).1 (Cw hi).2
theorem Sq.bump {l:List Tok} {m:Int} {s r q:St6} {n:Int} {w:Int→Nat} (h:Sq l m s r n w) (hm:0≤m) (hr:r.e=0) (hq:Tk6 l r q):Sq l (m+1) s q (n+1) w:=by
 have h2:=h.tok hm hq;refine ⟨h2.adv,fun he=>?_,?_,h2.cnt⟩
 ·have h1:=h.ok hr;have h3:=(hq.adv.gain he).2;have h4:=(hq.adv.gain he).1;omega
 ·have h1:=h.ok hr;have h3:=h.adv.hi;omega
theorem Sq.fin {l:List Tok} {m:Int} {s r:St6} {n:Int} {w:Int→Nat} (h:Sq l m s r n w) (hm:1≤m) (h0:s.e=0) {e:List Part} (he:e≠[]) (h1:r.e=0→(e.length:Int)≤2*(r.at_-s.at_)-1) (h2:(e.length:Int)≤2*(l.length-s.at_)+1) (hw:∀ z,Y7 z e=w z) (hf:∀ p∈e,F3 p):Reads l s (e,r):=by
 refine ⟨h.adv.weak hm (Int.le_refl _),fun hn=>absurd h0 hn,h2,fun hr=>⟨he,h1 hr⟩,fun hr z=>?_,hf⟩;rw [hw];exact h.cnt hr z
theorem L6 {l:List Tok} {s:St6} (h:Pos l s) {e:Int} (he:e≠0):Reads l s ([],J8 s e):=by
 have e0:(J8 s e).e≠0:=by
  unfold J8;split
  ·exact he
  ·assumption
 have e1:(J8 s e).at_=s.at_:=by unfold J8;split<;>rfl
 have e2:(J8 s e).sites=s.sites:=by unfold J8;split<;>rfl
 have h0:=h.lo;have h1:=h.hi;refine ⟨⟨fun hn=>?_,by rw [e1];exact h0,by rw [e1];exact h1,fun hr=>absurd hr e0,fun _=>by rw [e2];omega,fun hr=>absurd hr e0⟩,fun _=>rfl,?_,fun hr=>absurd hr e0,fun hr=>absurd hr e0,fun p hp=>by cases hp⟩
 ·unfold J8;rw [if_neg hn]
 ·simp only [List.length_nil];omega
theorem Zr3 {l:List Tok} {s:St6} (h:Pos l s) (he:s.e≠0):Reads l s ([],s):=by
 have:=L6 h (e:=1) (by decide)
 unfold J8 at this;rwa [if_neg he] at this
theorem Sq.bad {l:List Tok} {m:Int} {s r:St6} {n:Int} {w:Int→Nat} (h:Sq l m s r n w) (hm:0≤m) (hP:Pos l s) (hr:r.e≠0):Reads0 l s ([],r):=by
 refine ⟨h.adv.weak hm (Int.le_refl _),?_,fun h0=>absurd h0 hr,fun h0=>absurd h0 hr,fun p hp=>by cases hp⟩
 have:=hP.hi;simp only [List.length_nil];omega
section
variable {ex:Zxm} {l:List Tok} {v:Int}
theorem Zi8 (hT:Toks l) (hex:∀ s,Pos l s→Reads l s (ex s)) (h1:1≤v) (h2:v≤100) {s:St6} (h:Pos l s):Reads0 l s (bQ ex l v s):=by
 have q1:=(Sq.refl h).tok (by omega) (Bb h 2)
 have q2:=q1.tok (by omega) (Xk q1.adv.pos 5 [61])
 have hr:=hex _ q2.adv.pos;have q3:=q2.read (by omega) hr
 have hu:=Nz hT q3.adv.pos (v:=v) fun _=>⟨h1,h2⟩;have q4:=q3.note hu (by omega) (by omega)
 have q5:=q4.tok (by omega) (Xk q4.adv.pos 5 [93])
 unfold bQ;refine q5.done (by omega) (by unfold Wu;simp) ?_ (fun z=>?_) (Bg (Ma hu.len hu.named (by simp) Qt (by simp) (by have:=Yb hT s 2;omega) (by simp)) fun x hx q hq=>?_)
 ·rw [N1];simp;omega
 ·rw [Kz];unfold G5;rw [show Xl (Ms z) ([]:List Node)=0 from rfl];simp;omega
 ·simp only [Zp] at hx;subst hx;exact hr.fit q hq
theorem Sq.leaf {l:List Tok} {m:Int} {s r:St6} (h:Sq l m s r 0 fun _=>0) (hm:0≤m) {p:Part} (hp:∀ z,G5 z p=0) (hf:F3 p):Reads0 l s ([p],r):=by
 refine h.done hm (by simp) (by simp) (fun z=>?_) (fun q hq=>?_)
 ·rw [Dr,hp];rfl
 ·rw [Zp.1 hq];exact hf
theorem Zk5 (hT:Toks l) (hex:∀ s,Pos l s→Reads l s (ex s)) (h1:1≤v) (h2:v≤100) {s:St6} (h:Pos l s):Reads0 l s (kU ex l v s):=by
 unfold kU;split
 ·rename_i hi;refine ((Sq.refl h).tok (by omega) (cU h hi)).leaf (by omega) (fun z=>by rfl) (Ma (by simp) (fun n hn=>?_) (by simp) Qt (by simp) (by simp) (by simp))
  rw [Zp.1 hn];simp
 ·have hr:=hex _ h;have q1:=(Sq.refl h).read (by omega) hr
  dsimp only
  split
  ·rename_i hi;have q2:=q1.tok (by omega) (cU q1.adv.pos hi)
   have hu:=Oe hT q2.adv.pos (v:=v) fun _=>⟨h1,h2⟩;have q4:=q2.note hu (by omega) (by omega)
   have q5:=q4.tok (by omega) (Xk q4.adv.pos 5 [41])
   refine q5.done (by omega) (by unfold Wu;simp) ?_ (fun z=>?_) (Bg (Ma hu.len hu.named (by simp) Qt (by simp) (by simp) (by simp)) fun x hx q hq=>?_)
   ·rw [N1];simp;omega
   ·rw [Kz];unfold G5;rw [show Xl (Ms z) ([]:List Node)=0 from rfl];simp;omega
   ·simp only [Zp] at hx;subst hx;exact hr.fit q hq
  ·have q2:=q1.tok (by omega) (Xk q1.adv.pos 5 [41])
   refine ⟨q2.adv.weak (by omega) (Int.le_refl _),by have:=hr.len;show ((ex s).1.length:Int)≤_;omega,fun h0=>?_,fun h0 z=>?_,hr.fit⟩
   ·have g:=hr.ok ((Xk q1.adv.pos 5 [41]).adv.ok0 h0);have:=(Xk q1.adv.pos 5 [41]).adv.mono h0;exact ⟨g.1,by have:=g.2;show ((ex s).1.length:Int)≤2*((Qs l (ex s).2 5 [41]).at_-s.at_)+1;omega⟩
   ·have:=q2.cnt h0 z;simp only [Nat.zero_add] at this;exact this
end
theorem Dz {l:List Tok} {s:St6} {k:Int} {had:List (List UInt8)} (h:(Yc l s k had).2.e=0):had.length<50:=by
 rcases Nat.lt_or_ge had.length 50 with h1|h1
 ·exact h1
 ·exfalso;unfold Yc at h;by_cases ha:(Jm l s k).2.e=0
  ·rw [if_neg (by simpa using ha)] at h
   by_cases hb:R0 had (Jm l s k).1=true
   ·rw [if_pos hb] at h;exact absurd h (by show ¬ (7:Int)=0;decide)
   ·rw [if_neg hb,if_pos h1] at h;exact absurd h (by show ¬ (3:Int)=0;decide)
  ·rw [if_pos ha] at h;exact ha h
section
variable {ex:Zxm} {l:List Tok} {v:Int}
theorem jT (hT:Toks l) (hex:∀ s,Pos l s→Reads l s (ex s)) {s0:St6} (hP:Pos l s0):∀ (f:Nat) (s:St6) (had:List (List UInt8)) (body:List Part) (m:Int) (w:Int→Nat),Sq l m s0 s body.length w→0≤m→(∀ z,Y7 z body=w z)→(∀ p∈body,F3 p)→had.length≤50→had.length+f=51→Reads0 l s0 (lT ex l f s had body)
 | 0,s,had,body,m,w,_,_,_,_,h1,h2=>by omega
 | f+1,s,had,body,m,w,hq,hm,hw,hf,h1,h2=>by
  have t1:=Zkl hq.adv.pos 2 had;have q1:=hq.tok hm t1;have t2:=Bb q1.adv.pos 1;have q2:=q1.tok (by omega) t2
  have t3:=Xk q2.adv.pos 5 [45,62];have hr:=hex _ t3.adv.pos;rw [lT];split
  ·rename_i he;exact ((q2.tok (by omega) t3).read (by omega) hr).bad (by omega) hP he
  rename_i he;have he:(He ex l s had).2.2.2.e=0:=by simpa using he
  have he2:=t3.adv.ok0 (hr.adv.ok0 he);have he1:=t2.adv.ok0 he2;have q3:=q2.bump (by omega) he2 t3
  have q4:=q3.read (by omega) hr
  have hlab:=gH hT s 2 had;have hnam:=Yb hT (Yc l s 2 had).2 1;have hfit:∀ p∈body++Wu ⟨8,(He ex l s had).1,[],(He ex l s had).2.1,0,0,[],[]⟩ [⟨(He ex l s had).2.2.1⟩],F3 p:=by
   intro p hp;rcases List.mem_append.1 hp with hp|hp
   ·exact hf p hp
   ·refine Bg (Ma (by simp) Qt (by simp) Qt hlab (by simp) hnam) (fun x hx q hq=>?_) p hp
    simp only [Zp] at hx;subst hx;exact hr.fit q hq
  have hlen:(((body++Wu ⟨8,(He ex l s had).1,[],(He ex l s had).2.1,0,0,[],[]⟩ [⟨(He ex l s had).2.2.1⟩]).length:Nat):Int)=body.length+1+(ex (Qs l (Jm l (Yc l s 2 had).2 1).2 5 [45,62])).1.length:=by
   rw [Zh,N1];unfold He;simp;omega
  have hwt:∀ z,Y7 z (body++Wu ⟨8,(He ex l s had).1,[],(He ex l s had).2.1,0,0,[],[]⟩ [⟨(He ex l s had).2.2.1⟩])=w z+Y7 z (ex (Qs l (Jm l (Yc l s 2 had).2 1).2 5 [45,62])).1:=fun z=>by
   rw [Et,Kz,hw];unfold He G5;rw [show Xl (Ms z) ([]:List Node)=0 from rfl];simp
  rw [←hlen] at q4;split
  ·have q5:=q4.tok (by omega) (Xk q4.adv.pos 6 [101,110,100])
   refine q5.done (by omega) (by simp) ?_ (fun z=>?_) (fun p hp=>?_)
   ·simp only [Zj];omega
   ·rw [Dr,hwt];unfold G5;rw [show Xl (Ms z) ([]:List Node)=0 from rfl];simp
   ·rcases Zu.1 hp with rfl|hp
    ·exact Ma (by simp) Qt (by simp) Qt (by simp) (by simp) (by simp)
    ·exact hfit p hp
  ·rename_i hi;have hi:Fk l (He ex l s had).2.2.2 5 [124]=true:=by simpa using hi
   have q5:=q4.tok (by omega) (cU q4.adv.pos hi)
   have hh:=Dz he1;exact jT hT hex hP f _ _ _ _ _ q5 (by omega) hwt hfit (by simp;omega) (by simp;omega)
theorem Zk6 (hT:Toks l) (hex:∀ s,Pos l s→Reads l s (ex s)) {s:St6} (h:Pos l s):Reads0 l s (Zet ex l s):=by
 have hr:=hex _ h;have q1:=(Sq.refl h).read (by omega) hr
 have q2:=q1.tok (by omega) (Xk q1.adv.pos 6 [111,102])
 rw [show (0:Int)+(ex s).1.length=(ex s).1.length by omega] at q2
 exact jT hT hex h 51 _ [] _ _ _ q2 (by omega) (fun z=>by simp) hr.fit (by simp) (by simp)
theorem Zw8 (x:List UInt8) (e:List Part):(Zjh x e).length=e.length:=by cases e<;>rfl
theorem Qar (x:List UInt8) (z:Int) (e:List Part):Y7 z (Zjh x e)=Y7 z e:=by cases e<;>rfl
theorem Zw9 {x:List UInt8} (hx:x.length≤1000000) {e:List Part} (h:∀ p∈e,F3 p):∀ p∈Zjh x e,F3 p:=by
 cases e with
 | nil=>intro p hp;cases hp
 | cons q e =>
  intro p hp;rcases Zu.1 hp with rfl|hp
  ·have:=h q (List.mem_cons_self ..);exact ⟨this.1,this.2.1,hx,this.2.2.2.1,this.2.2.2.2⟩
  ·exact h p (List.mem_cons_of_mem _ hp)
theorem mD (hT:Toks l) (hex:∀ s,Pos l s→Reads l s (ex s)) {s0:St6} (hP:Pos l s0):∀ (f:Nat) (s:St6) (had:List (List UInt8)) (body:List Part) (m:Int) (w:Int→Nat),Sq l m s0 s body.length w→0≤m→(∀ z,Y7 z body=w z)→(∀ p∈body,F3 p)→had.length≤50→had.length+f=51→Reads0 l s0 (kP ex l f s had body)
 | 0,s,had,body,m,w,_,_,_,_,h1,h2=>by omega
 | f+1,s,had,body,m,w,hq,hm,hw,hf,h1,h2=>by
  have t1:=Zkl hq.adv.pos 1 had;have q1:=hq.tok hm t1;have t3:=Xk q1.adv.pos 5 [61];have q3:=q1.tok (by omega) t3
  have hr:=hex _ t3.adv.pos;have q4:=q3.read (by omega) hr
  rw [kP];split
  ·rename_i he;exact q4.bad (by omega) hP he
  rename_i he;have he:(ex (Qs l (Yc l s 1 had).2 5 [61])).2.e=0:=by simpa using he
  have he1:=t3.adv.ok0 (hr.adv.ok0 he);have hlab:=gH hT s 1 had;have hfit:∀ p∈body++Zjh (Yc l s 1 had).1 (ex (Qs l (Yc l s 1 had).2 5 [61])).1,F3 p:=by
   intro p hp;rcases List.mem_append.1 hp with hp|hp
   ·exact hf p hp
   ·exact Zw9 hlab hr.fit p hp
  have hlen:(((body++Zjh (Yc l s 1 had).1 (ex (Qs l (Yc l s 1 had).2 5 [61])).1).length:Nat):Int)=body.length+(ex (Qs l (Yc l s 1 had).2 5 [61])).1.length:=by
   rw [Zh,Zw8];omega
  have hwt:∀ z,Y7 z (body++Zjh (Yc l s 1 had).1 (ex (Qs l (Yc l s 1 had).2 5 [61])).1)=w z+Y7 z (ex (Qs l (Yc l s 1 had).2 5 [61])).1:=fun z=>by
   rw [Et,Qar,hw]
  rw [←hlen] at q4;split
  ·have q5:=q4.tok (by omega) (Xk q4.adv.pos 5 [125])
   refine q5.done (by omega) (by simp) ?_ (fun z=>?_) (fun p hp=>?_)
   ·simp only [Zj];omega
   ·rw [Dr,hwt];unfold G5;rw [show Xl (Ms z) ([]:List Node)=0 from rfl];simp
   ·rcases Zu.1 hp with rfl|hp
    ·exact Ma (by simp) Qt (by simp) Qt (by simp) (by simp) (by simp)
    ·exact hfit p hp
  ·rename_i hi;have hi:Fk l (ex (Qs l (Yc l s 1 had).2 5 [61])).2 5 [44]=true:=by simpa using hi
   have q5:=q4.tok (by omega) (cU q4.adv.pos hi)
   have hh:=Dz he1;exact mD hT hex hP f _ _ _ _ _ q5 (by omega) hwt hfit (by simp;omega) (by simp;omega)
theorem Zoc (hT:Toks l) (hex:∀ s,Pos l s→Reads l s (ex s)) {s:St6} (h:Pos l s):Reads0 l s (Zgj ex l s):=by
 unfold Zgj;split
 ·rename_i hi;exact ((Sq.refl h).tok (by omega) (cU h hi)).leaf (by omega) (fun z=>by rfl) (Ma (by simp) Qt (by simp) Qt (by simp) (by simp) (by simp))
 ·exact mD hT hex h 51 _ [] _ _ _ (Sq.refl h) (by omega) (fun z=>rfl) (fun p hp=>by cases hp) (by simp) (by simp)
end
theorem A7 {l:List Tok} {s:St6} (h:Mw l s=true):s.e=0∧s.at_<l.length:=by
 unfold Mw at h;split at h
 ·cases h
 ·rename_i a;by_cases he:s.e=0
  ·refine ⟨he,?_⟩;by_cases hl:s.at_<l.length
   ·exact hl
   ·exact absurd (.inr (by omega)) a
  ·exact absurd (.inl he) a
theorem Zn6 {l:List Tok} {b:Int} {s:St6} (h:Dn l b s=true):s.e=0∧s.at_<l.length:=by
 unfold Dn at h;simp only [Zk,Zm,Xa] at h;exact ⟨h.1,h.2.1⟩
theorem F6 {l:List Tok} (hT:Toks l) (i:Int):(tk l i).text.length≤1000000:=by
 unfold tk;rw [Zd];cases hk:l[i.toNat]? with
 | none=>simp [Kg]
 | some x=>exact (hT.ok x (List.mem_of_getElem? hk)).1
section
variable {ex:Zxm} {l:List Tok} {v:Int}
theorem Rj {s:St6} (h:Pos l s) (he:s.e=0) (hl:s.at_<l.length) {p:Part} (hp:∀ z,G5 z p=0) (hf:F3 p):Reads l s ([p],X3 s) :=
 Reads0.behind h he hl ((Sq.refl (kG h he hl).adv.pos).leaf (by omega) hp hf)
theorem Zd8 {k m n i:Int} {c:List UInt8} (h:c.length≤3000000):F3 ⟨k,[],c,[],m,n,[⟨i,[],0⟩],[]⟩ :=
 Ma (by simp) (fun x hx=>by rw [Zp.1 hx];simp) (by simp) Qt (by simp) h (by simp)
theorem Zcy (hT:Toks l) (hex:∀ s,Pos l s→Reads l s (ex s)) (h1:1≤v) (h2:v≤100) {s:St6} (h:Pos l s):Reads l s (Ze2 ex l v s):=by
 unfold Ze2;by_cases hb:s.e≠0∨Mw l s=false
 ·rw [if_pos hb];exact L6 h (by decide)
 rw [if_neg hb];have hb:Mw l s=true:=by
  cases hx:Mw l s
  ·exact absurd (.inr hx) hb
  ·rfl
 obtain ⟨he,hl⟩:=A7 hb;have hP:=(kG h he hl).adv.pos;have ht:=F6 hT s.at_
 dsimp only
 split
 ·exact Rj h he hl (fun z=>by rfl) (Zd8 (by simp))
 split
 ·exact Rj h he hl (fun z=>by rfl) (Zd8 (by omega))
 split
 ·exact Rj h he hl (fun z=>by rfl) (Zd8 (by simp))
 split
 ·split
  ·exact Rj h he hl (fun z=>by rfl) (Ma (by simp) Qt (by simp) Qt (by simp) (by omega) (by simp))
  ·rename_i hi;have hi:Fk l (X3 s) 5 [33]=true:=by simpa using hi
   have q1:=(Sq.refl hP).tok (by omega) (cU hP hi)
   have q2:=q1.tok (by omega) (Bb q1.adv.pos 1)
   have hn:=Yb hT (X3 (X3 s)) 1;exact Reads0.behind h he hl (q2.leaf (by omega) (fun z=>by rfl) (Ma (by simp) Qt (by simp) Qt (by simp) (by simp;omega) (by simp)))
 split
 ·exact Reads0.behind h he hl (Zk5 hT hex h1 h2 hP)
 split
 ·exact Reads0.behind h he hl (Zoc hT hex hP)
 ·exact Reads0.behind h he hl (Zi8 hT hex h1 h2 hP)
theorem Oa (hT:Toks l) {s:St6}:∀ (f:Nat) (r:List Part×St6),Pos l s→Reads l s r→Reads l s (fO l f r)
 | 0,r,_,h=>h
 | f+1,r,hP,h=>by
  rw [fO];split
  ·exact h
  rename_i hi;have hi:Fk l r.2 5 [46]=true:=by simpa using hi
  have he:=(Cw hi).1;have hs:=h.adv.ok0 he;have q1:=(Sq.refl hP).read (by omega) h
  have t2:=cU q1.adv.pos hi;have q2:=q1.tok (by omega) t2
  have t3:=Bb q2.adv.pos 1;have q3:=q2.tok (by omega) t3
  have hn:=Yb hT (X3 r.2) 1;have hk:=(h.ok he).2;have hm:=h.adv.hi;have hl:=(Cw hi).2;have ha:(X3 r.2).at_=r.2.at_+1:=rfl;refine Oa hT f _ hP (q3.fin (by omega) hs (by unfold Wu;simp) (fun h0=>?_) ?_ (fun z=>?_) (Bg (Ma (by simp) Qt (by simp) Qt (by simp) (by omega) (by simp)) fun x hx q hq=>?_))
  ·have:=t3.adv.mono h0;rw [N1];simp;omega
  ·rw [N1];simp;omega
  ·rw [Kz];unfold G5;rw [show Xl (Ms z) ([]:List Node)=0 from rfl];simp
  ·simp only [Zp] at hx;subst hx;exact h.fit q hq
theorem Ri (hT:Toks l) (hex:∀ s,Pos l s→Reads l s (ex s)) (h1:1≤v) (h2:v≤100) {s:St6} (h:Pos l s):Reads l s (mH ex l v s) :=
 Oa hT _ _ h (Zcy hT hex h1 h2 h)
theorem Zgn {s a:St6} {r x:List Part×St6} (hP:Pos l s) (h:Reads l s r) (hs:s.e=0) (he:r.2.e=0) (hx:Reads l a x) {m:Int} (q:Sq l m s a r.1.length fun z=>Y7 z r.1) (hm:0≤m) (ha:r.2.at_≤a.at_) (ha2:a.at_≤l.length) {p:Part} (hp:∀ z,G5 z p=0) (hf:F3 p):Reads l s (Wu p [⟨r.1⟩,⟨x.1⟩],x.2):=by
 have q2:=q.read hm hx;have hk:=(h.ok he).2;have hn:=hx.len;refine q2.fin (by omega) hs (by unfold Wu;simp) (fun h0=>?_) ?_ (fun z=>?_) (Bg hf fun y hy t ht=>?_)
 ·have:=(hx.ok h0).2;rw [N1];simp;omega
 ·rw [N1];simp;omega
 ·rw [Kz,hp];simp
 ·simp only [Zu,Kl,or_false] at hy;rcases hy with rfl|rfl
  ·exact h.fit t ht
  ·exact hx.fit t ht
theorem Cq (hT:Toks l) (hex:∀ s,Pos l s→Reads l s (ex s)) (h1:1≤v) (h2:v≤100) {s:St6}:∀ (f:Nat) (r:List Part×St6),Pos l s→Reads l s r→Reads l s (Bc ex l v f r)
 | 0,r,_,h=>h
 | f+1,r,hP,h=>by
  rw [Bc];split
  ·exact h
  rename_i hi;obtain ⟨he,hl⟩:=A7 (by simpa using hi:Mw l r.2=true)
  have hs:=h.adv.ok0 he;have q1:=(Sq.refl hP).read (by omega) h
  simp only [Int.zero_add,Nat.zero_add] at q1;exact Cq hT hex h1 h2 f _ hP (Zgn hP h hs he (Ri hT hex h1 h2 q1.adv.pos) q1 (by omega) (Int.le_refl _) (by omega) (fun z=>by rfl) (Ma (by simp) Qt (by simp) Qt (by simp) (by simp) (by simp)))
theorem Zfl (hT:Toks l) (hex:∀ s,Pos l s→Reads l s (ex s)) (h1:1≤v) (h2:v≤100) {s:St6} (h:Pos l s):Reads l s (Ff ex l v s) :=
 Cq hT hex h1 h2 _ _ h (Ri hT hex h1 h2 h)
theorem eJ (hT:Toks l) {b:Int} {sub:Zxm} (hsub:∀ s,Pos l s→Reads l s (sub s)) {s:St6}:∀ (f:Nat) (r:List Part×St6),Pos l s→Reads l s r→Reads l s (Zjd l b sub f r)
 | 0,r,_,h=>h
 | f+1,r,hP,h=>by
  rw [Zjd];split
  ·exact h
  rename_i hi;obtain ⟨he,hl⟩:=Zn6 (by simpa using hi:Dn l b r.2=true)
  have hs:=h.adv.ok0 he;have q1:=(Sq.refl hP).read (by omega) h
  simp only [Int.zero_add,Nat.zero_add] at q1;have t2:=kG q1.adv.pos he hl;have q2:=q1.tok (by omega) t2
  have ha:(X3 r.2).at_=r.2.at_+1:=rfl;have hn:=F6 hT r.2.at_;exact eJ hT hsub f _ hP (Zgn hP h hs he (hsub _ q2.adv.pos) q2 (by omega) (by omega) (by omega) (fun z=>by rfl) (Ma (by simp) Qt (by simp) Qt (by simp) (by omega) (by simp)))
theorem E8 (hT:Toks l) (hex:∀ s,Pos l s→Reads l s (ex s)) (h1:1≤v) (h2:v≤100):∀ (m:Nat) (s:St6),Pos l s→Reads l s (Zfm ex l v m s)
 | 0,s,h=>Zfl hT hex h1 h2 h
 | m+1,s,h=>eJ hT (E8 hT hex h1 h2 m) _ _ h (E8 hT hex h1 h2 m s h)
theorem Zod (hT:Toks l) (hex:∀ s,Pos l s→Reads l s (ex s)) (h1:1≤v) (h2:v≤100) {s:St6} (h:Pos l s):Reads l s (Zmq ex l v s):=by
 unfold Zmq;by_cases he:s.e=0
 ·rw [if_neg (by simpa using he)]
  split
  ·rename_i hk;have hP:=(kG h he hk.1).adv.pos;split
   ·exact Reads0.behind h he hk.1 (Zr2 hT hex h1 h2 hP)
   split
   ·exact Reads0.behind h he hk.1 (Zr1 hT hex h1 h2 hP)
   split
   ·exact Reads0.behind h he hk.1 (Zr0 hT hex h1 h2 hP)
   split
   ·exact Reads0.behind h he hk.1 (Zoe hex hP)
   split
   ·exact Reads0.behind h he hk.1 (Zk6 hT hex hP)
   ·exact E8 hT hex h1 h2 5 s h
  ·exact E8 hT hex h1 h2 5 s h
 ·rw [if_pos he];exact Zr3 h he
end
theorem Jk {l:List Tok} (hT:Toks l):∀ (d:Nat),d≤100→∀ (s:St6),Pos l s→Reads l s (J5 l d s)
 | 0,_,s,h=>L6 h (by decide)
 | d+1,hd,s,h=>Zod hT (Jk hT d (by omega)) (by omega) (by omega) h
structure St6In (l:List Tok) (s:St6):Prop where
 toks:Toks l
 pos:Pos l s
 all:s.sites.length≤850000
 ok:s.e=0→(s.sites.length:Int)≤700000+s.at_
theorem St6In.go {l:List Tok} {s r:St6} (h:St6In l s) {m q:Int} (hA:Adv l m q s r) (hm:0≤m) (hq:q≤1):St6In l r:=by
 have hl:=h.toks.len;refine ⟨h.toks,hA.pos,?_,fun he=>?_⟩
 ·by_cases he:s.e=0
  ·have:=hA.room he;have:=h.ok he;omega
  ·rw [hA.err he];exact h.all
 ·have hs:=hA.ok0 he;have:=h.ok hs;have:=(hA.gain he).2;omega
theorem St6In.ok6 {l:List Tok} {s:St6} (h:St6In l s):St6Ok l s :=
 ⟨h.toks.len,h.pos.lo,h.pos.hi,by have:=h.all;omega,fun t ht=>(h.toks.ok t ht).1,fun t ht=>(h.toks.ok t ht).2⟩
theorem St6In.nums {l:List Tok} {s:St6} (h:St6In l s):l.length≤1000000∧0≤s.at_∧s.at_≤2000000:=by
 have h1:=h.toks.len;have h2:=h.pos.lo;have h3:=h.pos.hi;exact ⟨by omega,h2,by omega⟩
theorem St6In.needs {l:List Tok} {s:St6} (h:St6In l s) (k:Int) (x:List UInt8):St6In l (Qs l s k x):=h.go (P2 h.pos k x) (by omega) (by omega)
theorem St6In.named {l:List Tok} {s:St6} (h:St6In l s) (k:Int):St6In l (Jm l s k).2:=h.go (Lm h.pos k) (by omega) (by omega)
theorem St6In.label {l:List Tok} {s:St6} (h:St6In l s) (k:Int) (had:List (List UInt8)):St6In l (Yc l s k had).2:=h.go (mX h.pos k had) (by omega) (by omega)
theorem St6In.expr {l:List Tok} {s:St6} (h:St6In l s) {d:Nat} (hd:d≤100):St6In l (J5 l d s).2:=h.go (Jk h.toks d hd s h.pos).adv (by omega) (by omega)
theorem St6In.adv {l:List Tok} {s:St6} (h:St6In l s) (he:s.e=0) (hl:s.at_<l.length):St6In l (X3 s):=h.go (kG h.pos he hl).adv (by omega) (by omega)
theorem St6In.is {l:List Tok} {s:St6} (h:St6In l s) {k:Int} {x:List UInt8} (hi:Fk l s k x=true):St6In l (X3 s):=h.adv (Cw hi).1 (Cw hi).2
theorem Xg {l:List Tok} {s:St6} {r:List Part×St6} (h:St6In l s) (hR:Reads l s r):r.1.length≤300000:=by
 have h1:=hR.len;have h2:=h.toks.len;have h3:=h.pos.lo;omega
def Xu (n:Nat):Con:=M1 (fun (l:Sl Tok) (s:St6) (v:Int)=>St6In l.l s∧1≤v∧v≤101∧20*(101-v)+12<n) (fun l s v=>J5 l.l (101-v).toNat s)
theorem Yg:type_of% @Xu.eq_def:=@Xu.eq_def
def Da (n:Nat):Con:=M1 (fun (l:Sl Tok) (s:St6) (v:Int)=>St6In l.l s∧1≤v∧v≤100∧20*(101-v)+5<n) (fun l s v=>Zs0 (J5 l.l (100-v).toNat) l.l v s)
def C7 (n:Nat):Con:=M1 (fun (l:Sl Tok) (s:St6) (v:Int)=>St6In l.l s∧1≤v∧v≤100∧20*(101-v)+5<n) (fun l s v=>Zsr (J5 l.l (100-v).toNat) l.l v s)
def C4 (n:Nat):Con:=M1 (fun (l:Sl Tok) (s:St6) (v:Int)=>St6In l.l s∧1≤v∧v≤100∧20*(101-v)+5<n) (fun l s v=>Zrz (J5 l.l (100-v).toNat) l.l v s)
def Le (n:Nat):Con:=M1 (fun (l:Sl Tok) (s:St6) (v:Int)=>St6In l.l s∧1≤v∧v≤100∧20*(101-v)+5<n) (fun l s v=>Zh9 (J5 l.l (100-v).toNat) l.l s)
def Pp (n:Nat):Con:=M1 (fun (l:Sl Tok) (s:St6) (v:Int)=>St6In l.l s∧1≤v∧v≤100∧20*(101-v)+5<n) (fun l s v=>Zet (J5 l.l (100-v).toNat) l.l s)
def Hb (n:Nat):Con:=M1 (fun (l:Sl Tok) (s:St6) (v:Int)=>St6In l.l s∧1≤v∧v≤100∧20*(101-v)+5<n) (fun l s v=>Ff (J5 l.l (100-v).toNat) l.l v s)
def Lb (n:Nat):Con:=M1 (fun (l:Sl Tok) (s:St6) (v:Int)=>St6In l.l s∧1≤v∧v≤100∧20*(101-v)+4<n) (fun l s v=>mH (J5 l.l (100-v).toNat) l.l v s)
def Lg (n:Nat):Con:=M1 (fun (l:Sl Tok) (s:St6) (v:Int)=>St6In l.l s∧1≤v∧v≤100∧20*(101-v)+3<n) (fun l s v=>Ze2 (J5 l.l (100-v).toNat) l.l v s)
def Pn (n:Nat):Con:=M1 (fun (l:Sl Tok) (s:St6) (v:Int)=>St6In l.l s∧2≤v∧v≤101∧20*(101-v)+13<n) (fun l s v=>kU (J5 l.l (101-v).toNat) l.l (v-1) s)
def B9 (n:Nat):Con:=M1 (fun (l:Sl Tok) (s:St6) (v:Int)=>St6In l.l s∧2≤v∧v≤101∧20*(101-v)+13<n) (fun l s v=>Zgj (J5 l.l (101-v).toNat) l.l s)
def Mf (n:Nat):Con:=M1 (fun (l:Sl Tok) (s:St6) (v:Int)=>St6In l.l s∧2≤v∧v≤101∧20*(101-v)+13<n) (fun l s v=>bQ (J5 l.l (101-v).toNat) l.l (v-1) s)
def Sn (n:Nat):Con:=Zm3 (fun (l:Sl Tok) (s:St6) (v b:Int)=>St6In l.l s∧1≤v∧v≤100∧0≤b∧b≤5∧20*(101-v)+(11-b)<n) (fun l s v b=>Zfm (J5 l.l (100-v).toNat) l.l v (5-b).toNat s)
structure IH6 (n:Nat):Prop where
 expr:Qq Tryz.prog (186,Xu n)
 fun_:Qq Tryz.prog (225,Da n)
 let_:Qq Tryz.prog (226,C7 n)
 rec_:Qq Tryz.prog (227,C4 n)
 cond:Qq Tryz.prog (228,Le n)
 cases:Qq Tryz.prog (229,Pp n)
 operand:Qq Tryz.prog (254,Hb n)
 part:Qq Tryz.prog (260,Lb n)
 atom:Qq Tryz.prog (266,Lg n)
 paren:Qq Tryz.prog (271,Pn n)
 rows:Qq Tryz.prog (272,B9 n)
 inject:Qq Tryz.prog (273,Mf n)
 ops:Qq Tryz.prog (230,Sn n)
theorem Zem:∀ c,¬ (Xu 0).pre c:=by
 intro c h;unfold Xu at h;obtain ⟨_,_,_,_,_,_,_,h⟩:=Xe h;omega
theorem Zf3:∀ c,¬ (Da 0).pre c:=by
 intro c h;unfold Da at h;obtain ⟨_,_,_,_,_,_,_,h⟩:=Xe h;omega
theorem Zf2:∀ c,¬ (C7 0).pre c:=by
 intro c h;unfold C7 at h;obtain ⟨_,_,_,_,_,_,_,h⟩:=Xe h;omega
theorem Zf0:∀ c,¬ (C4 0).pre c:=by
 intro c h;unfold C4 at h;obtain ⟨_,_,_,_,_,_,_,h⟩:=Xe h;omega
theorem Zen:∀ c,¬ (Le 0).pre c:=by
 intro c h;unfold Le at h;obtain ⟨_,_,_,_,_,_,_,h⟩:=Xe h;omega
theorem oW:∀ c,¬ (Pp 0).pre c:=by
 intro c h;unfold Pp at h;obtain ⟨_,_,_,_,_,_,_,h⟩:=Xe h;omega
theorem jA:∀ c,¬ (Hb 0).pre c:=by
 intro c h;unfold Hb at h;obtain ⟨_,_,_,_,_,_,_,h⟩:=Xe h;omega
theorem Zej:∀ c,¬ (Lb 0).pre c:=by
 intro c h;unfold Lb at h;obtain ⟨_,_,_,_,_,_,_,h⟩:=Xe h;omega
theorem Zeo:∀ c,¬ (Lg 0).pre c:=by
 intro c h;unfold Lg at h;obtain ⟨_,_,_,_,_,_,_,h⟩:=Xe h;omega
theorem oV:∀ c,¬ (Pn 0).pre c:=by
 intro c h;unfold Pn at h;obtain ⟨_,_,_,_,_,_,_,h⟩:=Xe h;omega
theorem Zeh:∀ c,¬ (B9 0).pre c:=by
 intro c h;unfold B9 at h;obtain ⟨_,_,_,_,_,_,_,h⟩:=Xe h;omega
theorem lR:∀ c,¬ (Mf 0).pre c:=by
 intro c h;unfold Mf at h;obtain ⟨_,_,_,_,_,_,_,h⟩:=Xe h;omega
theorem Zf1:∀ c,¬ (Sn 0).pre c:=by
 intro c h;unfold Sn at h;obtain ⟨_,_,_,_,_,_,_,_,_,_,h⟩:=Zm2 h;omega
theorem Mq {a:Int} {b c d:List UInt8} {e f:Int} {g:List Node}:K3 Part (.agg [.int .i64 a,.str b,.str c,.str d,.int .i64 e,.int .i64 f,.list 3 (g.map enc),.list 3 []])=True:=eq_true (Wg (Part.mk a b c d e f g []))
theorem Mu {a:Int} {b c d:List UInt8} {e f:Int} {g:List Node}:(dec (.agg [.int .i64 a,.str b,.str c,.str d,.int .i64 e,.int .i64 f,.list 3 (g.map enc),.list 3 []]):Part)=⟨a,b,c,d,e,f,g,[]⟩:=Enc.dec_enc (Part.mk a b c d e f g [])
theorem Px {a:Int} {b c d:List UInt8} {e f:Int}:K3 Part (.agg [.int .i64 a,.str b,.str c,.str d,.int .i64 e,.int .i64 f,.list 3 [],.list 3 []])=True:=eq_true (Wg (Part.mk a b c d e f [] []))
theorem Pz {a:Int} {b c d:List UInt8} {e f:Int}:(dec (.agg [.int .i64 a,.str b,.str c,.str d,.int .i64 e,.int .i64 f,.list 3 [],.list 3 []]):Part)=⟨a,b,c,d,e,f,[],[]⟩:=Enc.dec_enc (Part.mk a b c d e f [] [])
theorem Pw {a:Int} {b c d:List UInt8} {e f:Int} {g:List Node}:K3 Part (.agg [.int .i64 a,.str b,.str c,.str d,.int .i64 e,.int .i64 f,enc (Sl.mk g),.list 3 []])=True:=Mq
theorem Py {a:Int} {b c d:List UInt8} {e f:Int} {g:List Node}:(dec (.agg [.int .i64 a,.str b,.str c,.str d,.int .i64 e,.int .i64 f,enc (Sl.mk g),.list 3 []]):Part)=⟨a,b,c,d,e,f,g,[]⟩:=Mu
theorem N6 {a:Int} {b c d:List UInt8} {e f:Int} {g h:List Node}:K3 Part (.agg [.int .i64 a,.str b,.str c,.str d,.int .i64 e,.int .i64 f,enc (Sl.mk g),enc (Sl.mk h)])=True:=Qi
theorem Me {a:Int} {b c d:List UInt8} {e f:Int} {g h:List Node}:(dec (.agg [.int .i64 a,.str b,.str c,.str d,.int .i64 e,.int .i64 f,enc (Sl.mk g),enc (Sl.mk h)]):Part)=⟨a,b,c,d,e,f,g,h⟩:=Qj
theorem Zn2 (n:Nat) (ih:IH6 n):Qq Tryz.prog (225,(Da (n+1))):=by
 obtain ⟨Kx,Kt,Kc,Kd,Kb,Ku,Kw,K,W4,Gd,M4,Ln,_⟩:=X2 Z4 Zq [] false (Jh G9 P6 (Jh Ou Lf.eq_def (Jh good_made6 Hr (Jh ih.expr (Yg n) X1))));have Ko:=(Da.eq_def (n+1));refine Wh K Tryz.func225 [.tmp 6,.cell 7 137] rfl 43 rfl (fun c hc cvs hpre=>?_);unfold Da at hpre;obtain ⟨⟨l⟩,s,v,rfl,hS,hv1,hv2,hn⟩:=Xe hpre;simp only at hS;clear hpre;obtain ⟨d,hd⟩:∃ d:Nat,v=100-d:=⟨(100-v).toNat,by omega⟩
 subst hd;have Qd:(100-(100-(d:Int))).toNat=d:=by omega
 have Qe:(101-(100-(d:Int)+1)).toNat=d:=by omega
 have hd4:d≤100:=by omega
 have hT:=hS.toks;obtain ⟨R,Qv⟩:=exq (Zs0 (J5 l d) l (100-(d:Int)) s);have hR2:=Qv;unfold Zs0 at hR2;have k1:=hS.needs 5 [40];have hb:=Ce hT k1.pos (v:=100-(d:Int)) fun _=>⟨hv1,hv2⟩;have k2:=k1.go hb.adv (by omega) (by omega)
 have k3:=k2.needs 5 [41];have k4:=k3.needs 5 [45,62];have hx:=Xg k4 (Jk hT d hd4 _ k4.pos);have k5:=k4.expr hd4;obtain ⟨⟨i1,ss1,e1⟩,Z6⟩:=exq (Qs l s 5 [40]);rw [Z6] at hR2 k1 k2 k3 k4 hx k5;obtain ⟨⟨x,t,⟨i2,ss2,e2⟩⟩,Qa⟩:=exq (Pr l ⟨i1,ss1,e1⟩ (100-(d:Int)));rw [Qa] at hR2 k2 k3 k4 hx k5;simp only at hR2 k2 k3 k4 hx k5;obtain ⟨⟨i3,ss3,e3⟩,Qc⟩:=exq (Qs l ⟨i2,ss2,e2⟩ 5 [41]);rw [Qc] at hR2 k3 k4 hx k5;obtain ⟨⟨i4,ss4,e4⟩,Qh⟩:=exq (Qs l ⟨i3,ss3,e3⟩ 5 [45,62]);rw [Qh] at hR2 k4 hx k5;obtain ⟨⟨E,⟨i5,ss5,e5⟩⟩,Qp⟩:=exq (J5 l d ⟨i4,ss4,e4⟩);rw [Qp] at hR2 hx k5;simp only at hR2 hx k5;obtain ⟨M,Qz⟩:=exq (Wu ⟨2,[],[],x,0,0,t,[]⟩ [⟨E⟩]);rw [Qz] at hR2;obtain ⟨i0,ss0,e0⟩:=s;have o0:=hS.nums;have o2:=k2.nums;have o3:=k3.nums;have o1:=k1.ok6;simp only at o0 o2 o3;have hmk:∀ y∈([⟨E⟩]:List (Sl Part)),y.l.length≤1000000:=by
  intro y hy;rw [Zp.1 hy];show E.length≤_;omega
 subst hR2;cases hc;refine Yv 2 ?_;have Q4:=@M1.eq_def;have Z0:=@Fu.eq_def;have Z3:=@aJ.eq_def;have Zz:=@Pw;have Z7:=@Py;have Z9:=@N6;have Qg:=@Me;have Zv:=@Mq;have Zw:=@Mu;have Qn:=@Px;have Q6:=@Pz;have Q5:=@Jg;have Ja:=@Jt;have Q7:=@Ju;exact Dh
theorem Zn1 (n:Nat) (ih:IH6 n):Qq Tryz.prog (226,(C7 (n+1))):=by
 obtain ⟨Kx,Kt,Kc,Kd,Kb,Ku,Kw,K,W4,Gd,M4,Ln,Ek,_⟩:=X2 Z4 Zq [] false (Jh G9 P6 (Jh bZ C9.eq_def (Jh Ou Lf.eq_def (Jh good_made6 Hr (Jh ih.expr (Yg n) X1)))));have Ko:=(C7.eq_def (n+1));refine Wh K Tryz.func226 [.tmp 6,.cell 7 137] rfl 50 rfl (fun c hc cvs hpre=>?_);unfold C7 at hpre;obtain ⟨⟨l⟩,s,v,rfl,hS,hv1,hv2,hn⟩:=Xe hpre;simp only at hS;clear hpre;obtain ⟨d,hd⟩:∃ d:Nat,v=100-d:=⟨(100-v).toNat,by omega⟩
 subst hd;have Qd:(100-(100-(d:Int))).toNat=d:=by omega
 have Qe:(101-(100-(d:Int)+1)).toNat=d:=by omega
 have hd4:d≤100:=by omega
 have hT:=hS.toks;obtain ⟨R,Qv⟩:=exq (Zsr (J5 l d) l (100-(d:Int)) s);have hR2:=Qv;unfold Zsr at hR2;have hb:=Ce hT hS.pos (v:=100-(d:Int)) fun _=>⟨hv1,hv2⟩;have k2:=hS.go hb.adv (by omega) (by omega)
 have k3:=k2.needs 5 [61];have hx:=Xg k3 (Jk hT d hd4 _ k3.pos);have k4:=k3.expr hd4;have k5:=k4.needs 6 [105,110];have hx2:=Xg k5 (Jk hT d hd4 _ k5.pos);have k6:=k5.expr hd4;obtain ⟨⟨x,t,⟨i2,ss2,e2⟩⟩,Z6⟩:=exq (Pr l s (100-(d:Int)));rw [Z6] at hR2 k2 k3 hx k4 k5 hx2 k6;simp only at hR2 k2 k3 hx k4 k5 hx2 k6;obtain ⟨⟨i3,ss3,e3⟩,Qa⟩:=exq (Qs l ⟨i2,ss2,e2⟩ 5 [61]);rw [Qa] at hR2 k3 hx k4 k5 hx2 k6;obtain ⟨⟨A,⟨i4,ss4,e4⟩⟩,Qc⟩:=exq (J5 l d ⟨i3,ss3,e3⟩);rw [Qc] at hR2 hx k4 k5 hx2 k6;simp only at hR2 hx k4 k5 hx2 k6;obtain ⟨⟨i5,ss5,e5⟩,Qh⟩:=exq (Qs l ⟨i4,ss4,e4⟩ 6 [105,110]);rw [Qh] at hR2 k5 hx2 k6;obtain ⟨⟨B,⟨i6,ss6,e6⟩⟩,Qp⟩:=exq (J5 l d ⟨i5,ss5,e5⟩);rw [Qp] at hR2 hx2 k6;simp only at hR2 hx2 k6;obtain ⟨M,Qz⟩:=exq (Wu ⟨4,[],[],x,0,0,t,[]⟩ [⟨A⟩,⟨B⟩]);rw [Qz] at hR2;obtain ⟨i0,ss0,e0⟩:=s;have o0:=hS.ok6;have o2:=k2.nums;have o4:=k4.nums;simp only at o2 o4;have ha1:A.length≤1000000:=by omega
 have hb1:B.length≤1000000:=by omega
 subst hR2;cases hc;refine Yv 3 ?_;have Q4:=@M1.eq_def;have Z0:=@Fu.eq_def;have Z3:=@aJ.eq_def;have Zz:=@Pw;have Z7:=@Py;have Z9:=@N6;have Qg:=@Me;have Zv:=@Mq;have Zw:=@Mu;have Qn:=@Px;have Q6:=@Pz;have Q5:=@Jg;have Ja:=@Jt;have Q7:=@Ju;exact Dh
theorem Zkp (n:Nat) (ih:IH6 n):Qq Tryz.prog (228,(Le (n+1))):=by
 obtain ⟨Kx,Kt,Kc,Kd,Kb,Ku,Kw,K,W4,Gd,M4,_⟩:=X2 Z4 Zq [] false (Jh bZ C9.eq_def (Jh good_made6 Hr (Jh ih.expr (Yg n) X1)));have Ko:=(Le.eq_def (n+1));refine Wh K Tryz.func228 [.tmp 6,.cell 7 137] rfl 48 rfl (fun c hc cvs hpre=>?_);unfold Le at hpre;obtain ⟨⟨l⟩,s,v,rfl,hS,hv1,hv2,hn⟩:=Xe hpre;simp only at hS;clear hpre;obtain ⟨d,hd⟩:∃ d:Nat,v=100-d:=⟨(100-v).toNat,by omega⟩
 subst hd;have Qd:(100-(100-(d:Int))).toNat=d:=by omega
 have Qe:(101-(100-(d:Int)+1)).toNat=d:=by omega
 have hd4:d≤100:=by omega
 have hT:=hS.toks;obtain ⟨R,Qv⟩:=exq (Zh9 (J5 l d) l s);have hR2:=Qv;unfold Zh9 at hR2;have hx:=Xg hS (Jk hT d hd4 _ hS.pos);have k2:=hS.expr hd4;have k3:=k2.needs 6 [116,104,101,110];have hx2:=Xg k3 (Jk hT d hd4 _ k3.pos);have k4:=k3.expr hd4;have k5:=k4.needs 6 [101,108,115,101];have hx3:=Xg k5 (Jk hT d hd4 _ k5.pos);have k6:=k5.expr hd4;obtain ⟨⟨A,⟨i2,ss2,e2⟩⟩,Z6⟩:=exq (J5 l d s);rw [Z6] at hR2 hx k2 k3 hx2 k4 k5 hx3 k6;simp only at hR2 hx k2 k3 hx2 k4 k5 hx3 k6;obtain ⟨⟨i3,ss3,e3⟩,Qa⟩:=exq (Qs l ⟨i2,ss2,e2⟩ 6 [116,104,101,110]);rw [Qa] at hR2 k3 hx2 k4 k5 hx3 k6;obtain ⟨⟨B,⟨i4,ss4,e4⟩⟩,Qc⟩:=exq (J5 l d ⟨i3,ss3,e3⟩);rw [Qc] at hR2 hx2 k4 k5 hx3 k6;simp only at hR2 hx2 k4 k5 hx3 k6;obtain ⟨⟨i5,ss5,e5⟩,Qh⟩:=exq (Qs l ⟨i4,ss4,e4⟩ 6 [101,108,115,101]);rw [Qh] at hR2 k5 hx3 k6;obtain ⟨⟨D_1,⟨i6,ss6,e6⟩⟩,Qp⟩:=exq (J5 l d ⟨i5,ss5,e5⟩);rw [Qp] at hR2 hx3 k6;simp only at hR2 hx3 k6;obtain ⟨M,Qz⟩:=exq (Wu ⟨6,[],[],[],0,0,[],[]⟩ [⟨A⟩,⟨B⟩,⟨D_1⟩]);rw [Qz] at hR2;obtain ⟨i0,ss0,e0⟩:=s;have o2:=k2.nums;have o4:=k4.nums;simp only at o2 o4;have ha1:A.length≤1000000:=by omega
 have hb1:B.length≤1000000:=by omega
 have hc1:D_1.length≤1000000:=by omega
 subst hR2;cases hc;refine Yv 3 ?_;have Q4:=@M1.eq_def;have Z0:=@Fu.eq_def;have Z3:=@Pw;have Zz:=@Py;have Z7:=@N6;have Z9:=@Me;have Qg:=@Mq;have Zv:=@Mu;have Zw:=@Px;have Qn:=@Pz;have Q6:=@Jg;have Q5:=@Jt;have Ja:=@Ju;exact Dh
theorem Zsd {l:List Tok} {s:St6} (h:Pos l s) (k:Int) (x:List UInt8):(Qs l s k x).e=0→1≤(Qs l s k x).at_:=fun he=>by
 have h1:=(P2 h k x).gain he;have h2:=h.lo;omega
theorem Qdq {p:Prop} (h:p:=by (sym=>simp [Kt,Kc,Kd,Kb,Ku,Kw,Ko,W4,Gd,M4,Ln,Ek,cL,fW,oB,Zcc,Zcb,Qd,Qe,Z6,Qa,Qc,Qh,Qp,Qz,Qv,Q4,Z0,Z3,Zz,Z7,Z9,Qg,Zv,Zw,Qn,Q6,Q5,Ja,Q7,Q0,Jo,Jj,Wx,X9,Wq,Wp,Wo,Ur,Uq,Up,Kj,Ki,Kh,D.setCell.eq_1,aJ.eq_def,Ztr,Zm3.eq_def,oK.eq_def,Q2,Q1,Jp,X0,Wt,Xr,Fu.eq_def,Ji,M1.eq_def,Xb,Yg,Jf,Qj,Pz,Py,Me,Mu,Ju,Ui,Jw,Q3,Qb,Uz,Jg,J4,Je,Jd,Qi,Px,Pw,N6,Mq,Jt,Ug,J3,J7,Yn,Wm,Jc,Ql,Dl,Pe,dN,Td,Vg,Zbv,Zbu,Zbt,Zbs,Zbr,Zbq,Zbp,Zbo,Zbn,Zbm,Zbl,Zbk,Zbj,Zbi,Zbh,Zbg,Zbf,Zbe,Zbd,Zbc,Zbb,Zba,Za9,Za8,Za7,Za6,Za5,Za4,Za3,Za2,Za1,Za0,Zaz,Zay,Zax,Zaw,Zav,Zau,Zat,Zas,Zar,Zaq,Zap,Zao,Zan,Zam,Zal,Zak,Zaj,Zai,Zah,Zag,Zaf,Zae,Zad,Zac,Zab,Zaa,zU,zT,zS,zR,zP,zO,zN,zM,zL,zI,zH,zG,zF,zE,zC,zB,zK,zW,zV,zY,zJ,zX,zZ,zQ,yU,yT,yS,yR,yP,yO,yN,yM,yL,yI,yH,yG,yF,yE,yD,yC,yB,yA,yK,yW,yV,yY,yJ,yX,yZ,yQ,xU,xT,xS,xR,xP,xO,xN,xM,xL,xI,xH,xG,xF,xE,xD,xC,xB,xA,xK,xW,xV,xY,xJ,xX,xZ,xQ,wU,wT,wS,wR,wL,wI,wH,wG,wF,wE,wD,wC,wA,wK,wW,wV,wY,wJ,wX,wZ,wQ,vU,vT,vS,vR,vP,vO,vN,vM,vL,vI,vH,vG,vF,vE,vD,vC,vB,vA,vK,vW,vV,vY,vJ,vX,vZ,vQ,uU,uT,uS,uR,uP,uO,uN,uM,uL,uI,uH,uG,uF,uE,uD,uC,uB,uA,uK,uW,uV,uY,uJ,uX,uZ,uQ,tU,tT,tS,tR,tP,tO,tN,tM,tL,tI,tH,tG,tF,tE,tD,tC,tB,tA,tK,tW,tV,tY,tJ,tX,tZ,tQ,sU,sT,sS,sR,sP,sO,sN,sM,sL,sI,sH,sG,sF,sE,sD,sC,sB,sA,sK,sW,sV,sY,sJ,sX,sZ,sQ,rU,rT,rS,rR,rP,rO,rN,rM,rL,rI,rH,rG,rF,rE,rD,rC,rB,rA,rK,rW,rV,rY,rJ,rX,rZ,rQ,qU,qT,qS,qR,qP,qO,qN,qM,qL,qI,qH,qG,qF,qE,qD,qC,qB,qA,qK,qW,qV,qY,qJ,qX,qZ,qQ,pU,pT,pS,pR,pL,pI,pH,pG,pF,pE,pD,pC,pA,pK,pW,pV,pY,pJ,pX,pZ,pQ,oU,oT,oS,oR,oP,oO,oN,oM,oL,oI,oH,oG,oF,oE,oD,oC,Tc,Tb,Ta,S9,S8,S7,Nk,Nj,Ni,Nh,Ng,Nf,Nd,Nc,Nb,Na,H9,H8,H7,H6,H5,H4,H3,H2,H0,Hz,Hy,Hx,Hw,Hv,Hu,Ht,Hs,Uc,Ub,Ua,V9,V8,V7,V6,V5,V4,V3,V2,V0,Vz,Vy,Vx,Vw,Vv,Vu,Vt,Vs,Vr,Vq,Vp,Vo,Vn,Vm,Vl,Vk,Vj,Vi,Vh])):p:=h
theorem mW {p:Prop} (h:p:=by
 (sym=>simp [Kt,Kc,Kd,Kb,Ku,Kw,Ko,W4,Gd,M4,Ln,Ek,cL,fW,oB,Zcc,Zcb,Qd,Qe,Z6,Qa,Qc,Qh,Qp,Qz,Qv,Q4,Z0,Z3,Zz,Z7,Z9,Qg,Zv,Zw,Qn,Q6,Q5,Ja,Q7,Q0,Jo,Jj,Wx,X9,Wq,Wp,Wo,Ur,Uq,Up,Kj,Ki,Kh,D.setCell.eq_1,aJ.eq_def,Ztr,Zm3.eq_def,oK.eq_def,Q2,Q1,Jp,X0,Wt,Xr,Fu.eq_def,Ji,M1.eq_def,Xb,Yg,Jf,Qj,Pz,Py,Me,Mu,Ju,Ui,Jw,Q3,Qb,Uz,Jg,J4,Je,Jd,Qi,Px,Pw,N6,Mq,Jt,Ug,J3,J7,Yn,Wm,Jc,Ql,Dl,Pe,dN,Td,Vg,Zbv,Zbu,Zbt,Zbs,Zbr,Zbq,Zbp,Zbo,Zbn,Zbm,Zbl,Zbk,Zbj,Zbi,Zbh,Zbg,Zbf,Zbe,Zbd,Zbc,Zbb,Zba,Za9,Za8,Za7,Za6,Za5,Za4,Za3,Za2,Za1,Za0,Zaz,Zay,Zax,Zaw,Zav,Zau,Zat,Zas,Zar,Zaq,Zap,Zao,Zan,Zam,Zal,Zak,Zaj,Zai,Zah,Zag,Zaf,Zae,Zad,Zac,Zab,Zaa,zU,zT,zS,zR,zP,zO,zN,zM,zL,zI,zH,zG,zF,zE,zC,zB,zK,zW,zV,zY,zJ,zX,zZ,zQ,yU,yT,yS,yR,yP,yO,yN,yM,yL,yI,yH,yG,yF,yE,yD,yC,yB,yA,yK,yW,yV,yY,yJ,yX,yZ,yQ,xU,xT,xS,xR,xP,xO,xN,xM,xL,xI,xH,xG,xF,xE,xD,xC,xB,xA,xK,xW,xV,xY,xJ,xX,xZ,xQ,wU,wT,wS,wR,wL,wI,wH,wG,wF,wE,wD,wC,wA,wK,wW,wV,wY,wJ,wX,wZ,wQ,vU,vT,vS,vR,vP,vO,vN,vM,vL,vI,vH,vG,vF,vE,vD,vC,vB,vA,vK,vW,vV,vY,vJ,vX,vZ,vQ,uU,uT,uS,uR,uP,uO,uN,uM,uL,uI,uH,uG,uF,uE,uD,uC,uB,uA,uK,uW,uV,uY,uJ,uX,uZ,uQ,tU,tT,tS,tR,tP,tO,tN,tM,tL,tI,tH,tG,tF,tE,tD,tC,tB,tA,tK,tW,tV,tY,tJ,tX,tZ,tQ,sU,sT,sS,sR,sP,sO,sN,sM,sL,sI,sH,sG,sF,sE,sD,sC,sB,sA,sK,sW,sV,sY,sJ,sX,sZ,sQ,rU,rT,rS,rR,rP,rO,rN,rM,rL,rI,rH,rG,rF,rE,rD,rC,rB,rA,rK,rW,rV,rY,rJ,rX,rZ,rQ,qU,qT,qS,qR,qP,qO,qN,qM,qL,qI,qH,qG,qF,qE,qD,qC,qB,qA,qK,qW,qV,qY,qJ,qX,qZ,qQ,pU,pT,pS,pR,pL,pI,pH,pG,pF,pE,pD,pC,pA,pK,pW,pV,pY,pJ,pX,pZ,pQ,oU,oT,oS,oR,oP,oO,oN,oM,oL,oI,oH,oG,oF,oE,oD,oC,Tc,Tb,Ta,S9,S8,S7,Nk,Nj,Ni,Nh,Ng,Nf,Nd,Nc,Nb,Na,H9,H8,H7,H6,H5,H4,H3,H2,H0,Hz,Hy,Hx,Hw,Hv,Hu,Ht,Hs,Uc,Ub,Ua,V9,V8,V7,V6,V5,V4,V3,V2,V0,Vz,Vy,Vx,Vw,Vv,Vu,Vt,Vs,Vr,Vq,Vp,Vo,Vn,Vm,Vl,Vk,Vj,Vi,Vh];tactic =>
   try simp only [S4] at *
   try simp only [Znv] at *
   try simp (maxSteps:=4000000) only [Qd,Qe,Z6,Qa,Qc,Qh,Qp,Qz,Qv,Q4,Z0,Z3,Zz,Z7,Z9,Qg,Zv,Zw,Qn,Q6,Q5,Ja,Q7,Q0,Jo,Jj,Wx,X9,Wq,Wp,Wo,Ur,Uq,Up,Kj,Ki,Kh,D.setCell.eq_1,aJ.eq_def,Ztr,Zm3.eq_def,oK.eq_def,Q2,Q1,Jp,X0,Wt,Xr,Fu.eq_def,Ji,M1.eq_def,Xb,Yg,Jf,Qj,Pz,Py,Me,Mu,Ju,Ui,Jw,Q3,Qb,Uz,Jg,J4,Je,Jd,Qi,Px,Pw,N6,Mq,Jt,Ug,J3,J7,Yn,Wm,Jc,Ql,Dl,Pe,dN,Td,Vg,cM]
   first|done|exact Kq.k)):p:=h
theorem Im {p:Prop} (h:p:=by
 (sym=>simp [Kt,Kc,Kd,Kb,Ku,Kw,Ko,W4,Gd,M4,Ln,Ek,cL,fW,oB,Zcc,Zcb,Qd,Qe,Z6,Qa,Qc,Qh,Qp,Qz,Qv,Q4,Z0,Z3,Zz,Z7,Z9,Qg,Zv,Zw,Qn,Q6,Q5,Ja,Q7,Q0,Jo,Jj,Wx,X9,Wq,Wp,Wo,Ur,Uq,Up,Kj,Ki,Kh,D.setCell.eq_1,aJ.eq_def,Ztr,Zm3.eq_def,oK.eq_def,Q2,Q1,Jp,X0,Wt,Xr,Fu.eq_def,Ji,M1.eq_def,Xb,Yg,Jf,Qj,Pz,Py,Me,Mu,Ju,Ui,Jw,Q3,Qb,Uz,Jg,J4,Je,Jd,Qi,Px,Pw,N6,Mq,Jt,Ug,J3,J7,Yn,Wm,Jc,Ql,Dl,Pe,dN,Td,Vg,Zbv,Zbu,Zbt,Zbs,Zbr,Zbq,Zbp,Zbo,Zbn,Zbm,Zbl,Zbk,Zbj,Zbi,Zbh,Zbg,Zbf,Zbe,Zbd,Zbc,Zbb,Zba,Za9,Za8,Za7,Za6,Za5,Za4,Za3,Za2,Za1,Za0,Zaz,Zay,Zax,Zaw,Zav,Zau,Zat,Zas,Zar,Zaq,Zap,Zao,Zan,Zam,Zal,Zak,Zaj,Zai,Zah,Zag,Zaf,Zae,Zad,Zac,Zab,Zaa,zU,zT,zS,zR,zP,zO,zN,zM,zL,zI,zH,zG,zF,zE,zC,zB,zK,zW,zV,zY,zJ,zX,zZ,zQ,yU,yT,yS,yR,yP,yO,yN,yM,yL,yI,yH,yG,yF,yE,yD,yC,yB,yA,yK,yW,yV,yY,yJ,yX,yZ,yQ,xU,xT,xS,xR,xP,xO,xN,xM,xL,xI,xH,xG,xF,xE,xD,xC,xB,xA,xK,xW,xV,xY,xJ,xX,xZ,xQ,wU,wT,wS,wR,wL,wI,wH,wG,wF,wE,wD,wC,wA,wK,wW,wV,wY,wJ,wX,wZ,wQ,vU,vT,vS,vR,vP,vO,vN,vM,vL,vI,vH,vG,vF,vE,vD,vC,vB,vA,vK,vW,vV,vY,vJ,vX,vZ,vQ,uU,uT,uS,uR,uP,uO,uN,uM,uL,uI,uH,uG,uF,uE,uD,uC,uB,uA,uK,uW,uV,uY,uJ,uX,uZ,uQ,tU,tT,tS,tR,tP,tO,tN,tM,tL,tI,tH,tG,tF,tE,tD,tC,tB,tA,tK,tW,tV,tY,tJ,tX,tZ,tQ,sU,sT,sS,sR,sP,sO,sN,sM,sL,sI,sH,sG,sF,sE,sD,sC,sB,sA,sK,sW,sV,sY,sJ,sX,sZ,sQ,rU,rT,rS,rR,rP,rO,rN,rM,rL,rI,rH,rG,rF,rE,rD,rC,rB,rA,rK,rW,rV,rY,rJ,rX,rZ,rQ,qU,qT,qS,qR,qP,qO,qN,qM,qL,qI,qH,qG,qF,qE,qD,qC,qB,qA,qK,qW,qV,qY,qJ,qX,qZ,qQ,pU,pT,pS,pR,pL,pI,pH,pG,pF,pE,pD,pC,pA,pK,pW,pV,pY,pJ,pX,pZ,pQ,oU,oT,oS,oR,oP,oO,oN,oM,oL,oI,oH,oG,oF,oE,oD,oC,Tc,Tb,Ta,S9,S8,S7,Nk,Nj,Ni,Nh,Ng,Nf,Nd,Nc,Nb,Na,H9,H8,H7,H6,H5,H4,H3,H2,H0,Hz,Hy,Hx,Hw,Hv,Hu,Ht,Hs,Uc,Ub,Ua,V9,V8,V7,V6,V5,V4,V3,V2,V0,Vz,Vy,Vx,Vw,Vv,Vu,Vt,Vs,Vr,Vq,Vp,Vo,Vn,Vm,Vl,Vk,Vj,Vi,Vh];tactic =>
   try simp only [S4] at *
   try simp only [Znv] at *
   try simp (maxSteps:=4000000) only [Qd,Qe,Z6,Qa,Qc,Qh,Qp,Qz,Qv,Q4,Z0,Z3,Zz,Z7,Z9,Qg,Zv,Zw,Qn,Q6,Q5,Ja,Q7,Q0,Jo,Jj,Wx,X9,Wq,Wp,Wo,Ur,Uq,Up,Kj,Ki,Kh,D.setCell.eq_1,aJ.eq_def,Ztr,Zm3.eq_def,oK.eq_def,Q2,Q1,Jp,X0,Wt,Xr,Fu.eq_def,Ji,M1.eq_def,Xb,Yg,Jf,Qj,Pz,Py,Me,Mu,Ju,Ui,Jw,Q3,Qb,Uz,Jg,J4,Je,Jd,Qi,Px,Pw,N6,Mq,Jt,Ug,J3,J7,Yn,Wm,Jc,Ql,Dl,Pe,dN,Td,Vg,cM]
   repeat' first|with_reducible assumption|with_reducible apply Zb|intro _|omega|(rw [Xy];omega)
   all_goals first|with_reducible exact Qo|omega|rfl|trivial|exact Or.inr trivial|assumption|contradiction|exact Qk)):p:=h
theorem Zn0 (n:Nat) (ih:IH6 n):Qq Tryz.prog (227,(C4 (n+1))):=by
 obtain ⟨Kx,Kt,Kc,Kd,Kb,Ku,Kw,K,W4,Gd,M4,Ln,Ek,cL,fW,_⟩:=X2 Z4 Zq [] false (Jh K4 My (Jh G9 P6 (Jh bZ C9.eq_def (Jh Ou Lf.eq_def (Jh D8 Po.eq_def (Jh good_made6 Hr (Jh ih.expr (Yg n) X1)))))));have Ko:=(C4.eq_def (n+1));refine Wh K Tryz.func227 [.tmp 6,.cell 7 137] rfl 73 rfl (fun c hc cvs hpre=>?_);unfold C4 at hpre;obtain ⟨⟨l⟩,s,v,rfl,hS,hv1,hv2,hn⟩:=Xe hpre;simp only at hS;clear hpre;obtain ⟨d,hd⟩:∃ d:Nat,v=100-d:=⟨(100-v).toNat,by omega⟩
 subst hd;have Qd:(100-(100-(d:Int))).toNat=d:=by omega
 have Qe:(101-(100-(d:Int)+1)).toNat=d:=by omega
 have hd4:d≤100:=by omega
 have hT:=hS.toks;obtain ⟨R,Zz⟩:=exq (Zrz (J5 l d) l (100-(d:Int)) s);have hR2:=Zz;unfold Zrz at hR2;have m1:=hS.named 1;have m2:=m1.needs 5 [40];have hb:=Ce hT m2.pos (v:=100-(d:Int)) fun _=>⟨hv1,hv2⟩;have m3:=m2.go hb.adv (by omega) (by omega)
 have m4:=m3.needs 5 [41];have hat:=Zsd m3.pos 5 [41];have hu:=Nz hT m4.pos (v:=100-(d:Int)) fun _=>⟨hv1,hv2⟩;have m5:St6In l (G6 l (Qs l (Pr l (Qs l (Jm l s 1).2 5 [40]) (100-(d:Int))).2.2 5 [41]) (100-(d:Int))).2 :=
  m3.go ((P2 m3.pos 5 [41]).trans hu.adv (m:=0) (q:=0) (by omega) (by omega) (by omega)) (by omega) (by omega)
 have k3:=m5.needs 5 [61];have hx:=Xg k3 (Jk hT d hd4 _ k3.pos);have k4:=k3.expr hd4;have k5:=k4.needs 6 [105,110];have hx2:=Xg k5 (Jk hT d hd4 _ k5.pos);have k6:=k5.expr hd4;obtain ⟨⟨f,⟨a1,as1,ae1⟩⟩,Z6⟩:=exq (Jm l s 1);rw [Z6] at hR2 m1 m2 m3 m4 hat m5 k3 hx k4 k5 hx2 k6;simp only at hR2 m1 m2 m3 m4 hat m5 k3 hx k4 k5 hx2 k6;obtain ⟨⟨a2,as2,ae2⟩,Qa⟩:=exq (Qs l ⟨a1,as1,ae1⟩ 5 [40]);rw [Qa] at hR2 m2 m3 m4 hat m5 k3 hx k4 k5 hx2 k6;obtain ⟨⟨x,t,⟨a3,as3,ae3⟩⟩,Qc⟩:=exq (Pr l ⟨a2,as2,ae2⟩ (100-(d:Int)));rw [Qc] at hR2 m3 m4 hat m5 k3 hx k4 k5 hx2 k6;simp only at hR2 m3 m4 hat m5 k3 hx k4 k5 hx2 k6;obtain ⟨⟨a4,as4,ae4⟩,Qh⟩:=exq (Qs l ⟨a3,as3,ae3⟩ 5 [41]);rw [Qh] at hR2 m4 hat m5 k3 hx k4 k5 hx2 k6;simp only at hat;obtain ⟨⟨u,⟨i2,ss2,e2⟩⟩,Qp⟩:=exq (G6 l ⟨a4,as4,ae4⟩ (100-(d:Int)));rw [Qp] at hR2 m5 k3 hx k4 k5 hx2 k6;simp only at hR2 m5 k3 hx k4 k5 hx2 k6;obtain ⟨⟨i3,ss3,e3⟩,Qz⟩:=exq (Qs l ⟨i2,ss2,e2⟩ 5 [61]);rw [Qz] at hR2 k3 hx k4 k5 hx2 k6;obtain ⟨⟨A,⟨i4,ss4,e4⟩⟩,Qv⟩:=exq (J5 l d ⟨i3,ss3,e3⟩);rw [Qv] at hR2 hx k4 k5 hx2 k6;simp only at hR2 hx k4 k5 hx2 k6;obtain ⟨⟨i5,ss5,e5⟩,Q4⟩:=exq (Qs l ⟨i4,ss4,e4⟩ 6 [105,110]);rw [Q4] at hR2 k5 hx2 k6;obtain ⟨⟨B,⟨i6,ss6,e6⟩⟩,Z0⟩:=exq (J5 l d ⟨i5,ss5,e5⟩);rw [Z0] at hR2 hx2 k6;simp only at hR2 hx2 k6;obtain ⟨M,Z3⟩:=exq (Wu ⟨5,[],f,x,0,0,t,u⟩ [⟨A⟩,⟨B⟩]);rw [Z3] at hR2;obtain ⟨i0,ss0,e0⟩:=s;have o0:=hS.nums;have o1:=m1.nums;have o2:=m2.ok6;have o3:=m3.nums;have o4:=m4.ok6;have o5:=m5.nums;have o6:=k4.nums;simp only at o0 o1 o3 o5 o6;have hat2:ae4=0→1≤a4∧1≤100-(d:Int)∧100-(d:Int)≤100:=fun h=>⟨hat h,hv1,hv2⟩;have ha1:A.length≤1000000:=by omega
 have hb1:B.length≤1000000:=by omega
 clear hb hu;subst hR2;cases hc;refine Yv 4 ?_;exact Im
theorem Zu9 {l:List Tok} {s:St6} (h:St6In l s) {d:Nat} (hd:d≤100):(J5 l d s).2.e=0→1≤(J5 l d s).2.at_:=fun he=>by
 have h1:=(Jk h.toks d hd s h.pos).adv.gain he;have h2:=h.pos.lo;omega
theorem Zfg (n:Nat) (ih:IH6 n):Qq Tryz.prog (273,(Mf (n+1))):=by
 obtain ⟨Kx,Kt,Kc,Kd,Kb,Ku,Kw,K,W4,Gd,M4,Ln,Ek,_⟩:=X2 Z4 Zq [] false (Jh K4 My (Jh G9 P6 (Jh D8 Po.eq_def (Jh good_made6 Hr (Jh ih.expr (Yg n) X1)))));have Ko:=(Mf.eq_def (n+1));refine Wh K Tryz.func273 [.tmp 6,.cell 7 137] rfl 47 rfl (fun c hc cvs hpre=>?_);unfold Mf at hpre;obtain ⟨⟨l⟩,s,v,rfl,hS,hv1,hv2,hn⟩:=Xe hpre;simp only at hS;clear hpre;obtain ⟨d,hd⟩:∃ d:Nat,v=101-d:=⟨(101-v).toNat,by omega⟩
 subst hd;have Qd:(101-(101-(d:Int))).toNat=d:=by omega
 have hd4:d≤100:=by omega
 have hT:=hS.toks;obtain ⟨R,Qz⟩:=exq (bQ (J5 l d) l (101-(d:Int)-1) s);have hR2:=Qz;unfold bQ at hR2;have m1:=hS.named 2;have m2:=m1.needs 5 [61];have hx:=Xg m2 (Jk hT d hd4 _ m2.pos);have hq:=(Jk hT d hd4 _ m2.pos).adv;have m3:=m2.expr hd4;have hat:=Zu9 m2 hd4;have hu:=Nz hT m3.pos (v:=101-(d:Int)-1) fun _=>⟨by omega,by omega⟩
 have m4:=m2.go (hq.trans hu.adv (m:=0) (q:=0) (by omega) (by omega) (by omega)) (by omega) (by omega)
 obtain ⟨⟨f,⟨a1,as1,ae1⟩⟩,Qe⟩:=exq (Jm l s 2);rw [Qe] at hR2 m1 m2 hx m3 hat m4;simp only at hR2 m1 m2 hx m3 hat m4;obtain ⟨⟨a2,as2,ae2⟩,Z6⟩:=exq (Qs l ⟨a1,as1,ae1⟩ 5 [61]);rw [Z6] at hR2 m2 hx m3 hat m4;obtain ⟨⟨A,⟨a3,as3,ae3⟩⟩,Qa⟩:=exq (J5 l d ⟨a2,as2,ae2⟩);rw [Qa] at hR2 hx m3 hat m4;simp only at hR2 hx m3 hat m4;obtain ⟨⟨u,⟨i2,ss2,e2⟩⟩,Qc⟩:=exq (G6 l ⟨a3,as3,ae3⟩ (101-(d:Int)-1));rw [Qc] at hR2 m4;simp only at hR2 m4;obtain ⟨⟨i3,ss3,e3⟩,Qh⟩:=exq (Qs l ⟨i2,ss2,e2⟩ 5 [93]);rw [Qh] at hR2;obtain ⟨M,Qp⟩:=exq (Wu ⟨12,[],f,[],0,0,u,[]⟩ [⟨A⟩]);rw [Qp] at hR2;obtain ⟨i0,ss0,e0⟩:=s;have o0:=hS.nums;have o1:=m1.nums;have o3:=m3.ok6;have o5:=m4.nums;simp only at o0 o1 o5;have hat2:ae3=0→1≤a3∧1≤101-(d:Int)-1∧101-(d:Int)-1≤100:=fun h=>⟨hat h,by omega,by omega⟩
 have ha1:A.length≤1000000:=by omega
 clear hu hq;subst hR2;cases hc;refine Yv 2 ?_;exact Im
theorem Zi0 (n:Nat) (ih:IH6 n):Qq Tryz.prog (271,(Pn (n+1))):=by
 obtain ⟨Kx,Kt,Kc,Kd,Kb,Ku,Kw,K,W4,Gd,M4,Ln,Ek,_⟩:=X2 Z4 Zq [] false (Jh Se cR (Jh G9 P6 (Jh good_typed6 C3.eq_def (Jh good_made6 Hr (Jh ih.expr (Yg n) X1)))));have Ko:=(Pn.eq_def (n+1));refine Wh K Tryz.func271 [.tmp 6,.cell 7 137] rfl 58 rfl (fun c hc cvs hpre=>?_);unfold Pn at hpre;obtain ⟨⟨l⟩,s,v,rfl,hS,hv1,hv2,hn⟩:=Xe hpre;simp only at hS;clear hpre;obtain ⟨d,hd⟩:∃ d:Nat,v=101-d:=⟨(101-v).toNat,by omega⟩
 subst hd;have Qd:(101-(101-(d:Int))).toNat=d:=by omega
 have hd4:d≤100:=by omega
 have hT:=hS.toks;obtain ⟨R,Z6⟩:=exq (kU (J5 l d) l (101-(d:Int)-1) s);have hR2:=Z6;unfold kU at hR2;have hx:=Xg hS (Jk hT d hd4 _ hS.pos);have m3:=hS.expr hd4;obtain ⟨⟨A,⟨a3,as3,ae3⟩⟩,Qc⟩:=exq (J5 l d s);rw [Qc] at hR2 hx m3;simp only at hR2 hx m3;obtain ⟨i0,ss0,e0⟩:=s;have o0:=hS.nums;have o3:=m3.nums;simp only at o0 o3;have ha1:A.length≤1000000:=by omega
 cases hc;refine Yv 3 ?_;cases Qe:Fk l ⟨i0,ss0,e0⟩ 5 [41] with
 | true =>
  rw [Qe,if_pos rfl] at hR2;have hadv:X3 ⟨i0,ss0,e0⟩=⟨i0+1,ss0,e0⟩:=rfl;rw [hadv] at hR2;subst hR2;exact Im
 | false =>
  rw [Qe,if_neg (by simp)] at hR2
  cases Qa:Fk l ⟨a3,as3,ae3⟩ 5 [58] with
  | true =>
   rw [Qa,if_pos rfl] at hR2;have hadv:X3 ⟨a3,as3,ae3⟩=⟨a3+1,as3,ae3⟩:=rfl;have m4:=m3.is Qa;rw [hadv] at hR2 m4;have hu:=(Oe hT m4.pos (v:=101-(d:Int)-1) fun _=>⟨by omega,by omega⟩).adv
   have m5:=m4.go hu (by omega) (by omega)
   obtain ⟨⟨u,⟨i2,ss2,e2⟩⟩,Qh⟩:=exq (F5 l ⟨a3+1,as3,ae3⟩ (101-(d:Int)-1));rw [Qh] at hR2 m5;simp only at hR2 m5;obtain ⟨⟨i3,ss3,e3⟩,Qp⟩:=exq (Qs l ⟨i2,ss2,e2⟩ 5 [41]);rw [Qp] at hR2;obtain ⟨M,Qz⟩:=exq (Wu ⟨13,[],[],[],0,0,u,[]⟩ [⟨A⟩]);rw [Qz] at hR2;have o4:=m4.ok6;have o5:=m5.nums;simp only at o5;have hat2:ae3=0→1≤101-(d:Int)-1∧101-(d:Int)-1≤100:=fun h=>⟨by omega,by omega⟩
   clear hu;subst hR2;exact Im
  | false =>
   rw [Qa,if_neg (by simp)] at hR2
   obtain ⟨⟨i3,ss3,e3⟩,Qp⟩:=exq (Qs l ⟨a3,as3,ae3⟩ 5 [41]);rw [Qp] at hR2;subst hR2;exact Im
theorem Zkq (n:Nat) (ih:IH6 n):Qq Tryz.prog (266,(Lg (n+1))):=by
 obtain ⟨Kx,Kt,Kc,Kd,Kb,Ku,Kw,K,W4,Gd,M4,Ln,Ek,cL,fW,oB,_⟩:=X2 Z4 Zq [] false (Jh Gz Lz (Jh good_begins6 So.eq_def (Jh Se cR (Jh K4 My (Jh good_number6 Ec.eq_def (Jh ih.paren (Pn.eq_def n) (Jh ih.rows (B9.eq_def n) (Jh ih.inject (Mf.eq_def n) X1))))))));have Ko:=(Lg.eq_def (n+1));refine Wh K Tryz.func266 [.tmp 6,.cell 7 137] rfl 126 rfl (fun c hc cvs hpre=>?_);unfold Lg at hpre;obtain ⟨⟨l⟩,⟨i,ss,e⟩,v,rfl,hS,hv1,hv2,hn⟩:=Xe hpre;simp only at hS;clear hpre;obtain ⟨d,hd⟩:∃ d:Nat,v=100-d:=⟨(100-v).toNat,by omega⟩
 subst hd;have Qd:(100-(100-(d:Int))).toNat=d:=by omega
 have Z9:(101-(100-(d:Int)+1)).toNat=d:=by omega
 have Qg:100-(d:Int)+1-1=100-d:=by omega
 have hd4:d≤100:=by omega
 have hT:=hS.toks;have o0:=hS.nums;simp only at o0;obtain ⟨i,rfl⟩:∃ n:Nat,i=n:=⟨i.toNat,by omega⟩
 obtain ⟨R,Qa⟩:=exq (Ze2 (J5 l d) l (100-(d:Int)) ⟨i,ss,e⟩);have Zw:=Qa;unfold Ze2 at Zw;simp only [Hp] at Zw;cases hc;refine Yv 7 ?_;obtain ⟨⟨Wa,Ws,We⟩,Z6⟩:=exq (J8 ⟨(i:Int),ss,e⟩ 2);by_cases he:e=0
 case neg =>
  rw [if_pos (.inl he),Z6] at Zw;have Qe:(e != 0)=true:=bne_iff_ne.2 he;subst Zw;exact Qdq
 subst he;have Qe:((0:Int) != 0)=false:=rfl;cases Qc:Mw l ⟨i,ss,0⟩ with
 | false =>
  rw [if_pos (.inr Qc),Z6] at Zw;subst Zw;exact Im
 | true =>
  rw [if_neg (by rw [Qc];simp)] at Zw
  have hlt:=(A7 Qc).2;simp only at hlt;have Qh:=Zr Kg (show i<l.length by omega)
  have htk:=hT.ok (l.getD i Kg) (by simp [show i<l.length by omega])
  obtain ⟨t,ht⟩:=exq (l.getD i Kg);rw [ht] at Qh htk Zw;unfold Zip at htk;have hadv:X3 ⟨(i:Int),ss,0⟩=⟨(i:Int)+1,ss,0⟩:=rfl;rw [hadv] at Zw;have m1:=hS.adv rfl hlt;rw [hadv] at m1;have o1:=m1.nums;simp only at o1;have hle:Wf (l.length:Int) (i:Int)=false:=by rw [←Bool.not_eq_true,Qx];omega
  by_cases h3:t.kind=3
  ·rw [if_pos h3] at Zw;have Qp:(t.kind==3)=true:=by rw [Zm];exact h3
   have hf:=htk.2 h3;obtain ⟨N,Qz⟩:=exq (gY t.text);rw [Qz] at Zw;subst Zw;exact Im
  rw [if_neg h3] at Zw;have Qp:(t.kind==3)=false:=by rw [Za];exact h3
  by_cases h4:t.kind=4
  ·rw [if_pos h4] at Zw;have Qv:(t.kind==4)=true:=by rw [Zm];exact h4
   subst Zw;exact Im
  rw [if_neg h4] at Zw;have Qv:(t.kind==4)=false:=by rw [Za];exact h4
  by_cases h6:t.kind=6
  ·rw [if_pos h6] at Zw;have Q4:(t.kind==6)=true:=by rw [Zm];exact h6
   by_cases htr:t.text=[116,114,117,101]
   ·rw [if_pos htr] at Zw;have Z0:(t.text==[116,114,117,101])=true:=by rw [Zm];exact htr
    subst Zw;exact Im
   ·rw [if_neg htr] at Zw;have Z0:(t.text==[116,114,117,101])=false:=by rw [Za];exact htr
    subst Zw;exact Im
  rw [if_neg h6] at Zw;have Q4:(t.kind==6)=false:=by rw [Za];exact h6
  by_cases h1:t.kind=1
  ·rw [if_pos h1] at Zw;have Z3:(t.kind==1)=true:=by rw [Zm];exact h1
   cases Zz:Fk l ⟨(i:Int)+1,ss,0⟩ 5 [33] with
   | false =>
    rw [Zz,if_pos rfl] at Zw;subst Zw;exact Im
   | true =>
    rw [Zz,if_neg (by simp)] at Zw
    have hadv2:X3 ⟨(i:Int)+1,ss,0⟩=⟨(i:Int)+1+1,ss,0⟩:=rfl;rw [hadv2] at Zw;have m2:=m1.is Zz;rw [hadv2] at m2;have o2:=m2.nums;simp only at o2;have hxl:=Yb hT ⟨(i:Int)+1+1,ss,0⟩ 1;obtain ⟨⟨x,⟨i2,ss2,e2⟩⟩,Z7⟩:=exq (Jm l ⟨(i:Int)+1+1,ss,0⟩ 1);rw [Z7] at Zw hxl;simp only at Zw hxl;have htl:=htk.1;subst Zw;exact Im
  rw [if_neg h1] at Zw;have Z3:(t.kind==1)=false:=by rw [Za];exact h1
  by_cases h40:t.text=[40]
  ·rw [if_pos h40] at Zw;have Zv:(t.text==[40])=true:=by rw [Zm];exact h40
   obtain ⟨A,⟨i2,ss2,e2⟩⟩:=R;exact Im
  rw [if_neg h40] at Zw;have Zv:(t.text==[40])=false:=by rw [Za];exact h40
  by_cases h123:t.text=[123]
  ·rw [if_pos h123] at Zw;have Qn:(t.text==[123])=true:=by rw [Zm];exact h123
   obtain ⟨A,⟨i2,ss2,e2⟩⟩:=R;exact Im
  rw [if_neg h123] at Zw;have Qn:(t.text==[123])=false:=by rw [Za];exact h123
  obtain ⟨A,⟨i2,ss2,e2⟩⟩:=R;exact Im
structure KdL:Prop
theorem KdL.k (_:KdL) (h:p:=by
 repeat' first|exact Z1|with_reducible apply Zb|intro _
 all_goals first|with_reducible exact Qo|omega|rfl|trivial|exact ⟨(f,M,j2,us2,g2),by exact Qcb,hpL,hstep1,by omega,fun h=>by have h1:=hj2 h;have h2:=hf2 hlt.1;show (l.length:Int)+1≤(f:Int)+j2;omega,by omega⟩|skip):p:=h
structure KdK:Prop
theorem KdK.k (_:KdK) (h:p:=by
 repeat' first|exact Z1|with_reducible apply Zb|intro _
 refine aB 8 15 35 [9,10,18,19,20,21,22,23,24,25,26,27,28,29,30,31,32,33,34,35,36] (fun p:Nat×List Part×Int×List Site×Int=>[(11,.dead),(15,.dead),(16,.dead),(8,.sl 15 (p.2.1.map (enc:Part→D)).length)]) (fun p:Nat×List Part×Int×List Site×Int=>[(4,.box true [.d (.int .i64 p.2.2.1),.d (.list 3 (p.2.2.2.1.map enc)),.d (.int .i64 p.2.2.2.2)]),(15,.row 8 (p.2.1.map enc) 0)]) (fun p:Nat×List Part×Int×List Site×Int=>fO l p.1 (p.2.1,⟨p.2.2.1,p.2.2.2.1,p.2.2.2.2⟩)=R∧Q (p.2.1,⟨p.2.2.1,p.2.2.2.1,p.2.2.2.2⟩)∧1≤p.1∧(p.2.2.2.2=0→(l.length:Int)+1≤p.1+p.2.2.1)) (fun p:Nat×List Part×Int×List Site×Int=>p.1) (l.length+1,A,i,ss,e) ?_ ?_ ?_
 ·exact ⟨hR2,hA,by omega,fun h=>by have h0:=hmono hA;show (l.length:Int)+1≤((l.length+1:Nat):Int)+i;simp only at h0;omega⟩
 ·exact Qk
 rintro ⟨f,B,j,us,g⟩ ⟨hpL,hB,hf1,hf2⟩;simp only at hpL hB hf1 hf2;obtain ⟨f,rfl⟩:∃ k,f=k+1:=⟨f-1,by omega⟩
 rw [fO] at hpL;have m1:=hgo hB;have b1:=hshort hB;have o1:=m1.nums;simp only at o1;have hstep1:=hstep _ hB;cases Z6:Fk l ⟨j,us,g⟩ 5 [46] with
 | false =>
  rw [if_pos Z6] at hpL;subst hpL;exact Im
 | true =>
  rw [if_neg (by rw [Z6];simp)] at hpL
  rw [fO,if_neg (by rw [Z6];simp),fO] at hstep1
  have hlt:=Cw Z6;simp only at hlt;have hadv:X3 ⟨j,us,g⟩=⟨j+1,us,g⟩:=rfl;rw [hadv] at hpL hstep1;have m2:=m1.is Z6;rw [hadv] at m2;have o2:=m2.nums;simp only at o2;obtain ⟨⟨x,⟨j2,us2,g2⟩⟩,Qc⟩:=exq (Jm l ⟨j+1,us,g⟩ 1);have hNa:=Lm m2.pos 1;rw [Qc] at hpL hstep1 hNa;simp only at hpL hstep1;have hj2:g2=0→j+1≤j2:=hNa.mono;obtain ⟨M,Qh⟩:=exq (Wu ⟨11,[],x,[],0,0,[],[]⟩ [⟨B⟩]);rw [Qh] at hpL hstep1;have ha1:B.length≤1000000:=by omega
  have Kq:KdL:=⟨⟩;exact mW):p:=h
theorem stepi_part6 (n:Nat) (ih:IH6 n):Qq Tryz.prog (260,(Lb (n+1))):=by
 obtain ⟨Kx,Kt,Kc,Kd,Kb,Ku,Kw,K,W4,Gd,M4,Ln,_⟩:=X2 Z4 Zq [] false (Jh Se cR (Jh K4 My (Jh good_made6 Hr (Jh ih.atom (Lg.eq_def n) X1))));have Ko:=(Lb.eq_def (n+1));refine Wh K Tryz.func260 [.tmp 6,.cell 7 137] rfl 39 rfl (fun c hc cvs hpre=>?_);unfold Lb at hpre;obtain ⟨⟨l⟩,s,v,rfl,hS,hv1,hv2,hn⟩:=Xe hpre;simp only at hS;clear hpre;obtain ⟨d,hd⟩:∃ d:Nat,v=100-d:=⟨(100-v).toNat,by omega⟩
 subst hd;have Qd:(100-(100-(d:Int))).toNat=d:=by omega
 have hd4:d≤100:=by omega
 have hT:=hS.toks;obtain ⟨R,Qa⟩:=exq (mH (J5 l d) l (100-(d:Int)) s);have hR2:=Qa;unfold mH at hR2;have hA:=Zcy hT (Jk hT d hd4) hv1 hv2 hS.pos;obtain ⟨⟨A,⟨i,ss,e⟩⟩,Qe⟩:=exq (Ze2 (J5 l d) l (100-(d:Int)) s);rw [Qe] at hR2 hA;obtain ⟨s0,hs0⟩:=exq (s);rw [hs0] at hS hA Qa Qe;subst hs0;have hP:=hS.pos;have hgo:∀ {B:List Part} {r:St6},Reads l s (B,r)→St6In l r:=fun h=>hS.go h.adv (by omega) (by omega)
 have hshort:∀ {B:List Part} {r:St6},Reads l s (B,r)→B.length≤300000:=fun h=>Xg hS h;obtain ⟨Q,hQ⟩:∃ Q:List Part×St6→Prop,(fun r=>Reads l s r)=Q:=⟨_,rfl⟩;have hQe:∀ r,Reads l s r=Q r:=fun r=>congrFun hQ r;rw [hQe] at hA;simp only [hQe] at hgo hshort;have hstep:∀ r,Q r→Q (fO l 1 r):=fun r h=>by rw [←hQe] at h ⊢;exact Oa hT 1 r hP h
 have hmono:∀ {B:List Part} {r:St6},Q (B,r)→0≤r.at_:=fun h=>by rw [←hQe] at h;exact h.adv.lo
 obtain ⟨i0,ss0,e0⟩:=s;cases hc;refine Yv 2 ?_;have Kq:KdK:=⟨⟩;exact mW
structure KdN:Prop
theorem KdN.k (_:KdN) (h:p:=by
 repeat' first|exact Z1|with_reducible apply Zb|intro _
 all_goals first|with_reducible exact Qo|omega|rfl|trivial|exact m1|exact ⟨(f,M,j2,us2,g2),by exact Qcb,hpL,hstep1,by omega,fun h=>by have h1:=hj2 h;have h2:=hf2 hlt.1;show (l.length:Int)+1≤(f:Int)+j2;omega,by omega⟩|skip):p:=h
structure KdM:Prop
theorem KdM.k (_:KdM) (h:p:=by
 repeat' first|exact Z1|with_reducible apply Zb|intro _
 refine aB 8 15 32 [9,10,18,19,20,21,22,23,24,25,26,27,28,29,30,31,32,33] (fun p:Nat×List Part×Int×List Site×Int=>[(11,.dead),(15,.dead),(16,.dead),(8,.sl 15 (p.2.1.map (enc:Part→D)).length)]) (fun p:Nat×List Part×Int×List Site×Int=>[(4,.box true [.d (.int .i64 p.2.2.1),.d (.list 3 (p.2.2.2.1.map enc)),.d (.int .i64 p.2.2.2.2)]),(15,.row 8 (p.2.1.map enc) 0)]) (fun p:Nat×List Part×Int×List Site×Int=>Bc (J5 l d) l (100-(d:Int)) p.1 (p.2.1,⟨p.2.2.1,p.2.2.2.1,p.2.2.2.2⟩)=R∧Q (p.2.1,⟨p.2.2.1,p.2.2.2.1,p.2.2.2.2⟩)∧1≤p.1∧(p.2.2.2.2=0→(l.length:Int)+1≤p.1+p.2.2.1)) (fun p:Nat×List Part×Int×List Site×Int=>p.1) (l.length+1,A,i,ss,e) ?_ ?_ ?_
 ·exact ⟨hR2,hA,by omega,fun h=>by have h0:=hmono hA;show (l.length:Int)+1≤((l.length+1:Nat):Int)+i;simp only at h0;omega⟩
 ·exact Qk
 rintro ⟨f,B,j,us,g⟩ ⟨hpL,hB,hf1,hf2⟩;simp only at hpL hB hf1 hf2;obtain ⟨f,rfl⟩:∃ k,f=k+1:=⟨f-1,by omega⟩
 rw [Bc] at hpL;have m1:=hgo hB;have b1:=hshort hB;have o1:=m1.nums;simp only at o1;have hstep1:=hstep _ hB;cases Z6:Mw l ⟨j,us,g⟩ with
 | false =>
  rw [if_pos Z6] at hpL;subst hpL;exact Im
 | true =>
  rw [if_neg (by rw [Z6];simp)] at hpL
  rw [Bc,if_neg (by rw [Z6];simp),Bc] at hstep1
  have hlt:=A7 Z6;simp only at hlt;have hx:=hsub _ m1.pos;obtain ⟨⟨B2,⟨j2,us2,g2⟩⟩,Qc⟩:=exq (mH (J5 l d) l (100-(d:Int)) ⟨j,us,g⟩);rw [Qc] at hpL hstep1 hx;simp only at hpL hstep1;have hj2:g2=0→j+1≤j2:=fun h=>by have h1:=(hx.adv.gain h).2;have h2:=(hx.adv.gain h).1;simp only at h1 h2;omega
  have ha2:B2.length≤1000000:=by have h1:=Xg m1 hx;simp only at h1;omega
  obtain ⟨M,Qh⟩:=exq (Wu ⟨3,[],[],[],0,0,[],[]⟩ [⟨B⟩,⟨B2⟩]);rw [Qh] at hpL hstep1;have ha1:B.length≤1000000:=by omega
  clear hx;have Kq:KdN:=⟨⟩;exact mW):p:=h
theorem stepi_operand6 (n:Nat) (ih:IH6 n):Qq Tryz.prog (254,(Hb (n+1))):=by
 obtain ⟨Kx,Kt,Kc,Kd,Kb,Ku,Kw,K,W4,Gd,M4,_⟩:=X2 Z4 Zq [] false (Jh good_begins6 So.eq_def (Jh good_made6 Hr (Jh ih.part (Lb.eq_def n) X1)));have Ko:=(Hb.eq_def (n+1));refine Wh K Tryz.func254 [.tmp 6,.cell 7 137] rfl 36 rfl (fun c hc cvs hpre=>?_);unfold Hb at hpre;obtain ⟨⟨l⟩,s,v,rfl,hS,hv1,hv2,hn⟩:=Xe hpre;simp only at hS;clear hpre;obtain ⟨d,hd⟩:∃ d:Nat,v=100-d:=⟨(100-v).toNat,by omega⟩
 subst hd;have Qd:(100-(100-(d:Int))).toNat=d:=by omega
 have hd4:d≤100:=by omega
 have hT:=hS.toks;obtain ⟨R,Qa⟩:=exq (Ff (J5 l d) l (100-(d:Int)) s);have hR2:=Qa;unfold Ff at hR2;have hA:=Ri hT (Jk hT d hd4) hv1 hv2 hS.pos;have hsub:=fun r (h:Pos l r)=>Ri hT (Jk hT d hd4) hv1 hv2 h;obtain ⟨⟨A,⟨i,ss,e⟩⟩,Qe⟩:=exq (mH (J5 l d) l (100-(d:Int)) s);rw [Qe] at hR2 hA;obtain ⟨s0,hs0⟩:=exq (s);rw [hs0] at hS hA Qa Qe;subst hs0;have hP:=hS.pos;have hgo:∀ {B:List Part} {r:St6},Reads l s (B,r)→St6In l r:=fun h=>hS.go h.adv (by omega) (by omega)
 have hshort:∀ {B:List Part} {r:St6},Reads l s (B,r)→B.length≤300000:=fun h=>Xg hS h;obtain ⟨Q,hQ⟩:∃ Q:List Part×St6→Prop,(fun r=>Reads l s r)=Q:=⟨_,rfl⟩;have hQe:∀ r,Reads l s r=Q r:=fun r=>congrFun hQ r;rw [hQe] at hA;simp only [hQe] at hgo hshort;have hstep:∀ r,Q r→Q (Bc (J5 l d) l (100-(d:Int)) 1 r):=fun r h=>by rw [←hQe] at h ⊢;exact Cq hT (Jk hT d hd4) hv1 hv2 1 r hP h
 have hmono:∀ {B:List Part} {r:St6},Q (B,r)→0≤r.at_:=fun h=>by rw [←hQe] at h;exact h.adv.lo
 obtain ⟨i0,ss0,e0⟩:=s;cases hc;refine Yv 2 ?_;have Kq:KdM:=⟨⟩;exact mW
theorem kI {l:List Tok} {b:Int} {j:Nat} {us:List Site}:Dn l b ⟨(j:Int),us,0⟩=(Yi (j:Int) (l.length:Int)&&((l.getD j Kg).kind==5&&R0 (Rd b) (l.getD j Kg).text)):=by
 unfold Dn;simp only [Hp];rfl
structure KdP:Prop
theorem KdP.k (_:KdP) (h:p:=by
 repeat' first|exact Z1|with_reducible apply Zb|intro _
 all_goals first|with_reducible exact Qo|omega|exact m2|rfl|trivial|exact ⟨(f,M,j2,us2,g2),by exact Qcb,hpL,hstep1,by omega,fun h=>by have h1:=hj2 h;have h2:=hf2;show (l.length:Int)+1≤(f:Int)+j2;omega,by omega⟩|skip):p:=h
structure KdO:Prop
theorem KdO.k (_:KdO) (h:p:=by
 repeat' first|exact Z1|with_reducible apply Zb|intro _
 all_goals first|exact hS|skip
 refine aB 10 28 85 [11,12,13,31,32,33,34,35,36,37,38,39,40,41,42,43,44,45,46,47,48,49,50,51,52,53,54,55,56,57,58,59,60,61,62,63,64,65,66,67,68,69,70,71,72,73,74,75,76,77,78,79,80,81,82,83,84,85,86] (fun p:Nat×List Part×Int×List Site×Int=>[(22,.dead),(28,.dead),(29,.dead),(10,.sl 28 (p.2.1.map (enc:Part→D)).length)]) (fun p:Nat×List Part×Int×List Site×Int=>[(5,.box true [.d (.int .i64 p.2.2.1),.d (.list 3 (p.2.2.2.1.map enc)),.d (.int .i64 p.2.2.2.2)]),(28,.row 8 (p.2.1.map enc) 0)]) (fun p:Nat×List Part×Int×List Site×Int=>Zjd l (4-(m:Int)) sub p.1 (p.2.1,⟨p.2.2.1,p.2.2.2.1,p.2.2.2.2⟩)=R∧Q (p.2.1,⟨p.2.2.1,p.2.2.2.1,p.2.2.2.2⟩)∧1≤p.1∧(p.2.2.2.2=0→(l.length:Int)+1≤p.1+p.2.2.1)) (fun p:Nat×List Part×Int×List Site×Int=>p.1) (l.length+1,A,i,ss,e) ?_ ?_ ?_
 ·exact ⟨Qc,hA,by omega,fun h=>by have h0:=hmono hA;show (l.length:Int)+1≤((l.length+1:Nat):Int)+i;simp only at h0;omega⟩
 ·exact Qk
 rintro ⟨f,B,j,us,g⟩ ⟨hpL,hB,hf1,hf2⟩;simp only at hpL hB hf1 hf2;obtain ⟨f,rfl⟩:∃ k,f=k+1:=⟨f-1,by omega⟩
 rw [Zjd] at hpL;have m1:=hgo hB;have b1:=hshort hB;have o1:=m1.nums;simp only at o1;obtain ⟨j,rfl⟩:∃ n:Nat,j=n:=⟨j.toNat,by omega⟩
 have hstep1:=hstep _ hB;have hexit:Dn l (4-(m:Int)) ⟨j,us,g⟩=false→(B,(⟨j,us,g⟩:St6))=R:=fun h=>by rw [if_pos h] at hpL;exact hpL
 by_cases hg:g=0
 case neg =>
  have Z0:(g==0)=false:=by rw [Za];exact hg
  have hR3:=hexit (by unfold Dn;simp only [Z0,Bool.false_and])
  subst hR3;exact Im
 subst hg;have hf2:=hf2 rfl;have Z0:((0:Int)==0)=true:=rfl;rw [kI] at hexit;rcases Zn j l.length with ⟨hlt,Z3⟩|⟨hlt,Z3⟩
 rotate_left
 ·have hR3:=hexit (by rw [Z3,Bool.false_and])
  subst hR3;exact Im
 have Z7:=Zr Kg hlt;rw [kI] at hpL;have hop:=F6 hT (j:Int);rw [Zjd,kI] at hstep1;simp only [Hp] at hpL hstep1 hop;obtain ⟨t,ht⟩:=exq (l.getD j Kg);rw [ht] at Z7 hexit hpL hop hstep1;cases Zz:t.kind==5 with
 | false =>
  have hR3:=hexit (by rw [Z3,Zz];rfl)
  subst hR3;exact Im
 | true =>
  have hsl:(Rd (4-(m:Int))).length≤1000000:=by
   unfold Rd;repeat' split
   all_goals simp
  cases Z9:R0 (Rd (4-(m:Int))) t.text with
  | false =>
   have hR3:=hexit (by rw [Z3,Zz,Z9];rfl)
   subst hR3;exact Im
  | true =>
   have hsg:(Yi (j:Int) (l.length:Int)&&(t.kind==5&&R0 (Rd (4-(m:Int))) t.text))=true:=by rw [Z3,Zz,Z9];rfl
   rw [if_neg (by rw [hsg];simp)] at hpL
   rw [if_neg (by rw [hsg];simp),Zjd] at hstep1
   have hadv:X3 ⟨(j:Int),us,0⟩=⟨(j:Int)+1,us,0⟩:=rfl;rw [hadv] at hpL hstep1;have m2:=m1.adv rfl (by show (j:Int)<l.length;omega)
   rw [hadv] at m2;have hx:=hsub _ m2.pos;obtain ⟨⟨B2,⟨j2,us2,g2⟩⟩,Qg⟩:=exq (sub ⟨(j:Int)+1,us,0⟩);rw [Qg] at hpL hstep1 hx;simp only at hpL hstep1;have hj2:g2=0→(j:Int)+1≤j2:=fun h=>by have h1:=(hx.adv.gain h).2;have h2:=(hx.adv.gain h).1;simp only at h1 h2;omega
   have ha2:B2.length≤1000000:=by have h1:=Xg m2 hx;simp only at h1;omega
   obtain ⟨M,Zv⟩:=exq (Wu ⟨9,[],t.text,[],0,0,[],[]⟩ [⟨B⟩,⟨B2⟩]);rw [Zv] at hpL hstep1;have ha1:B.length≤1000000:=by omega
   clear hx;have Kq:KdP:=⟨⟩;exact mW):p:=h
theorem stepi_ops6 (n:Nat) (ih:IH6 n):Qq Tryz.prog (230,(Sn (n+1))):=by
 obtain ⟨Kx,Kt,Kc,Kd,Kb,Ku,Kw,K,W4,Gd,M4,Ln,Ek,_⟩:=X2 Z4 Zq [] false (Jh ih.operand (Hb.eq_def n) (Jh ih.ops (Sn.eq_def n) (Jh good_signs6 Ai.eq_def (Jh good_in6 bN.eq_def (Jh good_made6 Hr X1)))));have Ko:=(Sn.eq_def (n+1));refine Wh K Tryz.func230 [.tmp 8,.cell 9 137] rfl 89 rfl (fun c hc cvs hpre=>?_);unfold Sn at hpre;obtain ⟨⟨l⟩,s,v,b,rfl,hS,hv1,hv2,hb1,hb2,hn⟩:=Zm2 hpre;simp only at hS;clear hpre;obtain ⟨d,hd⟩:∃ d:Nat,v=100-d:=⟨(100-v).toNat,by omega⟩
 subst hd;have Qd:(100-(100-(d:Int))).toNat=d:=by omega
 have hd4:d≤100:=by omega
 have hT:=hS.toks;by_cases hb5:b=5
 ·subst hb5;have Z6:((5:Int)==5)=true:=rfl;have Qe:((5:Int)-5).toNat=0:=rfl;obtain ⟨⟨A,⟨i,ss,e⟩⟩,Qa⟩:=exq (Ff (J5 l d) l (100-(d:Int)) s);have Qc:Zfm (J5 l d) l (100-(d:Int)) 0 s=(A,⟨i,ss,e⟩):=by rw [←Qa];rfl
  obtain ⟨i0,ss0,e0⟩:=s;cases hc;refine Yv 5 ?_;exact Im
 have Qz:(b==5)=false:=by rw [Za];exact hb5
 obtain ⟨m,hm⟩:∃ m:Nat,b=4-m:=⟨(4-b).toNat,by omega⟩
 subst hm;have Qh:(5-(4-(m:Int))).toNat=m+1:=by omega
 have Qp:(5-(4-(m:Int)+1)).toNat=m:=by omega
 obtain ⟨R,Qa⟩:=exq (Zfm (J5 l d) l (100-(d:Int)) (m+1) s);have Qc:=Qa;rw [Zfm] at Qc;have hsub:=fun r (h:Pos l r)=>E8 hT (Jk hT d hd4) hv1 hv2 m r h;have hA:=hsub s hS.pos;obtain ⟨sub,Qv⟩:=exq (Zfm (J5 l d) l (100-(d:Int)) m);rw [Qv] at Qc hA hsub;simp only at Qc;obtain ⟨⟨A,⟨i,ss,e⟩⟩,Q4⟩:=exq (sub s);rw [Q4] at Qc hA;have hP:=hS.pos;have hgo:∀ {B:List Part} {r:St6},Reads l s (B,r)→St6In l r:=fun h=>hS.go h.adv (by omega) (by omega)
 have hshort:∀ {B:List Part} {r:St6},Reads l s (B,r)→B.length≤300000:=fun h=>Xg hS h;obtain ⟨Q,hQ⟩:∃ Q:List Part×St6→Prop,(fun r=>Reads l s r)=Q:=⟨_,rfl⟩;have hQe:∀ r,Reads l s r=Q r:=fun r=>congrFun hQ r;rw [hQe] at hA;simp only [hQe] at hgo hshort;have hstep:∀ r,Q r→Q (Zjd l (4-(m:Int)) sub 1 r):=fun r h=>by rw [←hQe] at h ⊢;exact eJ hT hsub 1 r hP h
 have hmono:∀ {B:List Part} {r:St6},Q (B,r)→0≤r.at_:=fun h=>by rw [←hQe] at h;exact h.adv.lo
 obtain ⟨i0,ss0,e0⟩:=s;cases hc;refine Yv 5 ?_;have Kq:KdO:=⟨⟩;exact mW
theorem Zsv {x:List UInt8} {a:Part} {A:List Part}:Zjh x (a::A)=⟨a.kind,x,a.name,a.bind,a.many,a.num,a.t,a.u⟩::A:=rfl
structure KdR:Prop
theorem KdR.k (_:KdR) (h:p:=by
 repeat' first|exact Z1|with_reducible apply Zb|intro _
 all_goals first|with_reducible exact Qo|omega|exact m2|rfl|(simp [Qb];done)|trivial|skip):p:=h
structure KdS:Prop
theorem KdS.k (_:KdS) (h:p:=by
 repeat' first|exact Z1|with_reducible apply Zb|intro _
 all_goals first|with_reducible exact Qo|omega|exact m2|rfl|trivial|exact ⟨(f,j3+1,us3,0,had++[x],body++⟨a.kind,x,a.name,a.bind,a.many,a.num,a.t,a.u⟩::A),by (have Um:=@Qb;exact Qk),hL,by simp;omega,by simp;omega,by simp;omega,m4,by omega⟩|skip):p:=h
structure KdQ:Prop
theorem KdQ.k (_:KdQ) (h:p:=by
 repeat' first|exact Z1|with_reducible apply Zb|intro _
 refine Zi [6,10,11,12,13,27,28,29,30,31,32,33,34,35,36,37,38,39,40,41,42,43,44,45,46,47,48,49,50,51,52,53,54,55,56,57,58,59,60,61,62,63,64,65,66,67,68,69,70,71,72,73,74,75,76,77,78] (fun p:Nat×Int×List Site×Int×List (List UInt8)×List Part=>[(8,.sl 25 (enc (⟨10,[],[],[],(p.2.2.2.2.1.length:Int),0,[],[]⟩:Part)::p.2.2.2.2.2.map (enc:Part→D)).length),(9,.sl 26 (p.2.2.2.2.1.map (enc:List UInt8→D)).length)]) (fun p:Nat×Int×List Site×Int×List (List UInt8)×List Part=>[(4,.box true [.d (.int .i64 p.2.1),.d (.list 3 (p.2.2.1.map enc)),.d (.int .i64 p.2.2.2.1)]),(25,.row 8 (enc (⟨10,[],[],[],(p.2.2.2.2.1.length:Int),0,[],[]⟩:Part)::p.2.2.2.2.2.map (enc:Part→D)) 0),(26,.row 1 (p.2.2.2.2.1.map enc) (p.2.2.2.2.1.length-1))]) (fun p:Nat×Int×List Site×Int×List (List UInt8)×List Part=>kP (J5 l d) l p.1 ⟨p.2.1,p.2.2.1,p.2.2.2.1⟩ p.2.2.2.2.1 p.2.2.2.2.2=R∧p.1+p.2.2.2.2.1.length=51∧p.2.2.2.2.1.length≤50∧p.2.2.2.2.2.length≤300000*p.2.2.2.2.1.length∧St6In l ⟨p.2.1,p.2.2.1,p.2.2.2.1⟩) (fun p:Nat×Int×List Site×Int×List (List UInt8)×List Part=>p.1) (51,i0,ss0,e0,[],[]) ?_ ?_ ?_
 ·exact ⟨hR2,by simp,by simp,by simp,hS⟩
 ·have Um:=@Qb;exact Qk
 rintro ⟨f,j,us,g,had,body⟩ ⟨hL,hf,hh,hbd,m0⟩;simp only at hL hf hh hbd m0;obtain ⟨f,rfl⟩:∃ k,f=k+1:=⟨f-1,by omega⟩
 rw [kP] at hL;have k0:=m0.nums;simp only at k0;have m1:=m0.label 1 had;have hroom:=Dz (l:=l) (s:=⟨j,us,g⟩) (k:=1) (had:=had);have m2:=m1.needs 5 [61];have hx:=Xg m2 (Jk hT d hd4 _ m2.pos);have hrd:=Jk hT d hd4 _ m2.pos;have m3:=m2.expr hd4;have hq:=(mX m0.pos 1 had);have hq2:=(P2 m1.pos 5 [61]);obtain ⟨⟨x,⟨j1,us1,g1⟩⟩,Qa⟩:=exq (Yc l ⟨j,us,g⟩ 1 had);rw [Qa] at hL m1 hroom m2 hx hrd m3 hq hq2;simp only at hL m1 hroom m2 hx hrd m3 hq hq2;obtain ⟨⟨j2,us2,g2⟩,Qc⟩:=exq (Qs l ⟨j1,us1,g1⟩ 5 [61]);rw [Qc] at hL m2 hx hrd m3 hq2;obtain ⟨⟨A,⟨j3,us3,g3⟩⟩,Qh⟩:=exq (J5 l d ⟨j2,us2,g2⟩);rw [Qh] at hL hx hrd m3;simp only at hL hx hrd m3;have k1:=m1.nums;have k2:=m2.nums;have k3:=m3.nums;simp only at k1 k2 k3;by_cases hg:g3=0
 case neg =>
  rw [if_pos hg] at hL;have Qp:(g3 != 0)=true:=bne_iff_ne.2 hg;subst hL;clear hq hq2 hrd;exact Im
 subst hg;rw [if_neg (by simp)] at hL
 have Qp:((0:Int) != 0)=false:=rfl;have hg1:g1=0:=hq2.ok0 (hrd.adv.ok0 rfl);have hroom:=hroom hg1;have hne:=(hrd.ok rfl).1;clear hq hq2 hrd;simp only at hne;obtain ⟨a,A,rfl⟩:∃ a B,A=a::B:=by
  cases A with
  | nil=>exact absurd rfl hne
  | cons a B=>exact ⟨a,B,rfl⟩
 clear hne;rw [Zsv] at hL;simp only [Zj] at hx;cases Qv:Fk l ⟨j3,us3,0⟩ 5 [44] with
 | false =>
  rw [if_pos Qv] at hL;obtain ⟨⟨j4,us4,g4⟩,Qz⟩:=exq (Qs l ⟨j3,us3,0⟩ 5 [125]);rw [Qz] at hL;subst hL;have Kq:KdR:=⟨⟩;exact mW
 | true =>
  rw [if_neg (by rw [Qv];simp)] at hL
  have hadv:X3 ⟨j3,us3,0⟩=⟨j3+1,us3,0⟩:=rfl;rw [hadv] at hL;have m4:=m3.is Qv;rw [hadv] at m4;have Kq:KdS:=⟨⟩;exact mW):p:=h
theorem stepi_rows6 (n:Nat) (ih:IH6 n):Qq Tryz.prog (272,(B9 (n+1))):=by
 obtain ⟨Kx,Kt,Kc,Kd,Kb,Ku,Kw,K,W4,Gd,M4,Ln,_⟩:=X2 Z4 Zq [] false (Jh Se cR (Jh nY C8.eq_def (Jh G9 P6 (Jh ih.expr (Yg n) X1))));have Ko:=(B9.eq_def (n+1));refine Wh K Tryz.func272 [.tmp 6,.cell 7 137] rfl 79 rfl (fun c hc cvs hpre=>?_);unfold B9 at hpre;obtain ⟨⟨l⟩,s,v,rfl,hS,hv1,hv2,hn⟩:=Xe hpre;simp only at hS;clear hpre;obtain ⟨d,hd⟩:∃ d:Nat,v=101-d:=⟨(101-v).toNat,by omega⟩
 subst hd;have Qd:(101-(101-(d:Int))).toNat=d:=by omega
 have hd4:d≤100:=by omega
 have hT:=hS.toks;have o0:=hS.nums;obtain ⟨R,Z6⟩:=exq (Zgj (J5 l d) l s);have hR2:=Z6;unfold Zgj at hR2;obtain ⟨i0,ss0,e0⟩:=s;simp only at o0;cases hc;refine Yv 4 ?_;cases Qe:Fk l ⟨i0,ss0,e0⟩ 5 [125] with
 | true =>
  rw [Qe,if_pos rfl] at hR2;have hadv:X3 ⟨i0,ss0,e0⟩=⟨i0+1,ss0,e0⟩:=rfl;rw [hadv] at hR2;subst hR2;exact Im
 | false =>
  rw [Qe,if_neg (by simp)] at hR2
  have Kq:KdQ:=⟨⟩;exact mW
theorem Zhc {p:Part} {A:List Part}:Wu p [⟨A⟩]=p::A:=by simp [Wu,Bw]
structure KdU:Prop
theorem KdU.k (_:KdU) (h:p:=by
 repeat' first|exact Z1|with_reducible apply Zb|intro _
 all_goals first|with_reducible exact Qo|omega|exact m2|rfl|(simp [Qb];done)|trivial|skip):p:=h
structure KdV:Prop
theorem KdV.k (_:KdV) (h:p:=by
 repeat' first|exact Z1|with_reducible apply Zb|intro _
 all_goals first|with_reducible exact Qo|omega|exact m2|rfl|trivial|exact ⟨(f,j3+1,us3,0,had++[x],body++⟨8,x,[],y,0,0,[],[]⟩::A),by (have Um:=@Qb;exact Qk),hL,by simp;omega,by simp;omega,by simp;omega,m4,by omega⟩|skip):p:=h
structure KdT:Prop
theorem KdT.k (_:KdT) (h:p:=by
 repeat' first|exact Z1|with_reducible apply Zb|intro _
 all_goals first|exact hS|skip
 refine Zi [6,11,12,13,14,31,32,33,34,35,36,37,38,39,40,41,42,43,44,45,46,47,48,49,50,51,52,53,54,55,56,57,58,59,60,61,62,63,64,65,66,67,68,69,70,71,72,73,74,75,76,77,78,79,80,81,82,83,84,85,86,87,88,89,90] (fun p:Nat×Int×List Site×Int×List (List UInt8)×List Part=>[(9,.sl 29 (enc (⟨7,[],[],[],(p.2.2.2.2.1.length:Int),0,[],[]⟩:Part)::p.2.2.2.2.2.map (enc:Part→D)).length),(10,.sl 30 (p.2.2.2.2.1.map (enc:List UInt8→D)).length)]) (fun p:Nat×Int×List Site×Int×List (List UInt8)×List Part=>[(4,.box true [.d (.int .i64 p.2.1),.d (.list 3 (p.2.2.1.map enc)),.d (.int .i64 p.2.2.2.1)]),(29,.row 8 (enc (⟨7,[],[],[],(p.2.2.2.2.1.length:Int),0,[],[]⟩:Part)::p.2.2.2.2.2.map (enc:Part→D)) 0),(30,.row 1 (p.2.2.2.2.1.map enc) (p.2.2.2.2.1.length-1))]) (fun p:Nat×Int×List Site×Int×List (List UInt8)×List Part=>lT (J5 l d) l p.1 ⟨p.2.1,p.2.2.1,p.2.2.2.1⟩ p.2.2.2.2.1 p.2.2.2.2.2=R∧p.1+p.2.2.2.2.1.length=51∧p.2.2.2.2.1.length≤50∧p.2.2.2.2.2.length≤300001*(p.2.2.2.2.1.length+1)∧St6In l ⟨p.2.1,p.2.2.1,p.2.2.2.1⟩) (fun p:Nat×Int×List Site×Int×List (List UInt8)×List Part=>p.1) (51,i2,ss2,e2,[],C0) ?_ ?_ ?_
 ·exact ⟨hR2,by simp,by simp,by simp;omega,n2⟩
 ·have Um:=@Qb;exact Qk
 rintro ⟨f,j,us,g,had,body⟩ ⟨hL,hf,hh,hbd,m0⟩;simp only at hL hf hh hbd m0;obtain ⟨f,rfl⟩:∃ k,f=k+1:=⟨f-1,by omega⟩
 rw [lT] at hL;unfold He at hL;have k0:=m0.nums;simp only at k0;have m1:=m0.label 2 had;have hroom:=Dz (l:=l) (s:=⟨j,us,g⟩) (k:=2) (had:=had);have m1b:=m1.named 1;have m2:=m1b.needs 5 [45,62];have hx:=Xg m2 (Jk hT d hd4 _ m2.pos);have hrd:=Jk hT d hd4 _ m2.pos;have m3:=m2.expr hd4;have hqb:=(Lm m1.pos 1);have hq2:=(P2 m1b.pos 5 [45,62]);obtain ⟨⟨x,⟨j1,us1,g1⟩⟩,Qh⟩:=exq (Yc l ⟨j,us,g⟩ 2 had);rw [Qh] at hL m1 hroom m1b m2 hx hrd m3 hqb hq2;simp only at hL m1 hroom m1b m2 hx hrd m3 hqb hq2;obtain ⟨⟨y,⟨j1b,us1b,g1b⟩⟩,Qp⟩:=exq (Jm l ⟨j1,us1,g1⟩ 1);rw [Qp] at hL m1b m2 hx hrd m3 hqb hq2;simp only at hL m1b m2 hx hrd m3 hqb hq2;obtain ⟨⟨j2,us2,g2⟩,Qz⟩:=exq (Qs l ⟨j1b,us1b,g1b⟩ 5 [45,62]);rw [Qz] at hL m2 hx hrd m3 hq2;obtain ⟨⟨A,⟨j3,us3,g3⟩⟩,Qv⟩:=exq (J5 l d ⟨j2,us2,g2⟩);rw [Qv] at hL hx hrd m3;simp only at hL hx hrd m3;have k1:=m1.nums;have k1b:=m1b.nums;have k2:=m2.nums;have k3:=m3.nums;simp only at k1 k1b k2 k3;by_cases hg:g3=0
 case neg =>
  rw [if_pos hg] at hL;have Q4:(g3 != 0)=true:=bne_iff_ne.2 hg;subst hL;clear hqb hq2 hrd;exact Im
 subst hg;rw [if_neg (by simp)] at hL
 have Q4:((0:Int) != 0)=false:=rfl;have hg1:g1=0:=hqb.ok0 (hq2.ok0 (hrd.adv.ok0 rfl));have hroom:=hroom hg1;clear hqb hq2 hrd;have Z7:=Zhc (p:=⟨8,x,[],y,0,0,[],[]⟩) (A:=A);rw [Z7] at hL;have ha1:A.length≤1000000:=by omega
 cases Zz:Fk l ⟨j3,us3,0⟩ 5 [124] with
 | false =>
  rw [if_pos Zz] at hL;obtain ⟨⟨j4,us4,g4⟩,Z3⟩:=exq (Qs l ⟨j3,us3,0⟩ 6 [101,110,100]);rw [Z3] at hL;subst hL;have Kq:KdU:=⟨⟩;exact mW
 | true =>
  rw [if_neg (by rw [Zz];simp)] at hL
  have hadv:X3 ⟨j3,us3,0⟩=⟨j3+1,us3,0⟩:=rfl;rw [hadv] at hL;have m4:=m3.is Zz;rw [hadv] at m4;have Kq:KdV:=⟨⟩;exact mW):p:=h
theorem stepi_cases6 (n:Nat) (ih:IH6 n):Qq Tryz.prog (229,(Pp (n+1))):=by
 obtain ⟨Kx,Kt,Kc,Kd,Kb,Ku,Kw,K,W4,Gd,M4,Ln,Ek,cL,fW,_⟩:=X2 Z4 Zq [] false (Jh Se cR (Jh nY C8.eq_def (Jh K4 My (Jh G9 P6 (Jh bZ C9.eq_def (Jh good_made6 Hr (Jh ih.expr (Yg n) X1)))))));have Ko:=(Pp.eq_def (n+1));refine Wh K Tryz.func229 [.tmp 6,.cell 7 137] rfl 91 rfl (fun c hc cvs hpre=>?_);unfold Pp at hpre;obtain ⟨⟨l⟩,s,v,rfl,hS,hv1,hv2,hn⟩:=Xe hpre;simp only at hS;clear hpre;obtain ⟨d,hd⟩:∃ d:Nat,v=100-d:=⟨(100-v).toNat,by omega⟩
 subst hd;have Qd:(100-(100-(d:Int))).toNat=d:=by omega
 have Qe:(101-(100-(d:Int)+1)).toNat=d:=by omega
 have hd4:d≤100:=by omega
 have hT:=hS.toks;have o0:=hS.nums;obtain ⟨R,Z0⟩:=exq (Zet (J5 l d) l s);have hR2:=Z0;unfold Zet at hR2;have hx0:=Xg hS (Jk hT d hd4 _ hS.pos);have n1:=hS.expr hd4;have n2:=n1.needs 6 [111,102];obtain ⟨⟨C0,⟨i1,ss1,e1⟩⟩,Z6⟩:=exq (J5 l d s);rw [Z6] at hR2 hx0 n1 n2;simp only at hR2 hx0 n1 n2;obtain ⟨⟨i2,ss2,e2⟩,Qa⟩:=exq (Qs l ⟨i1,ss1,e1⟩ 6 [111,102]);rw [Qa] at hR2 n2;have o1:=n1.nums;simp only at o1;have hc0:C0.length≤1000000:=by omega
 have Qc:=Zhc (p:=⟨7,[],[],[],0,0,[],[]⟩) (A:=C0);obtain ⟨i0,ss0,e0⟩:=s;simp only at o0;cases hc;refine Yv 5 ?_;have Kq:KdT:=⟨⟩;exact mW
theorem Zko (n:Nat) (ih:IH6 n):Qq Tryz.prog (186,(Xu (n+1))):=by
 obtain ⟨Kx,Kt,Kc,Kd,Kb,Ku,Kw,K,W4,Gd,M4,Ln,Ek,cL,fW,_⟩:=X2 Z4 Zq [] false (Jh Gz Lz (Jh ih.fun_ (Da.eq_def n) (Jh ih.let_ (C7.eq_def n) (Jh ih.rec_ (C4.eq_def n) (Jh ih.cond (Le.eq_def n) (Jh ih.cases (Pp.eq_def n) (Jh ih.ops (Sn.eq_def n) X1)))))));have Ko:=(Yg (n+1));refine Wh K Tryz.func186 [.tmp 6,.cell 7 137] rfl 95 rfl (fun c hc cvs hpre=>?_);unfold Xu at hpre;obtain ⟨⟨l⟩,⟨i,ss,e⟩,v,rfl,hS,hv1,hv2,hn⟩:=Xe hpre;simp only at hS;clear hpre;have hT:=hS.toks;have o0:=hS.nums;simp only at o0;obtain ⟨i,rfl⟩:∃ n:Nat,i=n:=⟨i.toNat,by omega⟩
 cases hc;refine Yv 5 ?_;obtain ⟨d,hd⟩:∃ d:Nat,v=101-d:=⟨(101-v).toNat,by omega⟩
 subst hd;have Qd:(101-(101-(d:Int))).toNat=d:=by omega
 have hd4:d≤100:=by omega
 by_cases he:e=0
 case neg =>
  have Qe:(e==0)=false:=by rw [Za];exact he
  have Z6:(e != 0)=true:=bne_iff_ne.2 he;have Qa:J5 l d ⟨i,ss,e⟩=([],⟨i,ss,e⟩):=by
   cases d with
   | zero =>
    show (([]:List Part),J8 ⟨(i:Int),ss,e⟩ 4)=_;unfold J8;rw [if_neg (by simpa using he)]
   | succ d=>rw [J5,Zmq,if_pos (by simpa using he)]
  exact Im
 subst he;have Qe:((0:Int)==0)=true:=rfl;have Z6:((0:Int) != 0)=false:=rfl;cases d with
 | zero =>
  have Qc:Yi 100 (101-((0:Nat):Int))=true:=by rw [Xa];omega
  have Qa:J5 l 0 ⟨i,ss,0⟩=([],⟨i,ss,4⟩):=rfl;have Qh:J8 ⟨(i:Int),ss,0⟩ 4=⟨i,ss,4⟩:=rfl;exact Im
 | succ d =>
  have Qc:Yi 100 (101-((d+1:Nat):Int))=false:=by rw [←Bool.not_eq_true,Xa];omega
  have Qp:(100-(101-((d+1:Nat):Int))).toNat=d:=by omega
  have hd5:101-((d+1:Nat):Int)=100-d:=by omega
  obtain ⟨⟨A,⟨i2,ss2,e2⟩⟩,Qa⟩:=exq (J5 l (d+1) ⟨(i:Int),ss,0⟩);have Q4:=Qa;rw [J5,Zmq,if_neg (by simp)] at Q4
  simp only [Hp] at Q4;have Qv:Int.toNat 5=5:=rfl;rcases Zn i l.length with ⟨hlt,Qz⟩|⟨hlt,Qz⟩
  rotate_left
  ·rw [if_neg (by omega)] at Q4
   rw [hd5] at Qd Qp Qc;rw [hd5];exact Im
  have Z0:=Zr Kg hlt;have hadv:X3 ⟨(i:Int),ss,0⟩=⟨(i:Int)+1,ss,0⟩:=rfl;have m1:=hS.adv rfl (by show (i:Int)<l.length;omega)
  rw [hadv] at m1 Q4;obtain ⟨t,ht⟩:=exq (l.getD i Kg);rw [ht] at Z0 Q4;rw [hd5] at Qd Qp Qc;rw [hd5];by_cases h6:t.kind=6
  case neg =>
   rw [if_neg (fun h=>h6 h.2)] at Q4;have Z3:(t.kind==6)=false:=by rw [Za];exact h6
   exact Im
  rw [if_pos ⟨by omega,h6⟩] at Q4
  have Z3:(t.kind==6)=true:=by rw [Zm];exact h6
  by_cases hx0:t.text=[102,117,110]
  ·rw [if_pos hx0] at Q4;have Zz:(t.text==[102,117,110])=true:=by rw [Zm];exact hx0
   exact Im
  rw [if_neg hx0] at Q4;have Zz:(t.text==[102,117,110])=false:=by rw [Za];exact hx0
  by_cases hx1:t.text=[108,101,116]
  ·rw [if_pos hx1] at Q4;have Z7:(t.text==[108,101,116])=true:=by rw [Zm];exact hx1
   exact Im
  rw [if_neg hx1] at Q4;have Z7:(t.text==[108,101,116])=false:=by rw [Za];exact hx1
  by_cases hx2:t.text=[114,101,99]
  ·rw [if_pos hx2] at Q4;have Z9:(t.text==[114,101,99])=true:=by rw [Zm];exact hx2
   exact Im
  rw [if_neg hx2] at Q4;have Z9:(t.text==[114,101,99])=false:=by rw [Za];exact hx2
  by_cases hx3:t.text=[105,102]
  ·rw [if_pos hx3] at Q4;have Qg:(t.text==[105,102])=true:=by rw [Zm];exact hx3
   exact Im
  rw [if_neg hx3] at Q4;have Qg:(t.text==[105,102])=false:=by rw [Za];exact hx3
  by_cases hx4:t.text=[99,97,115,101]
  ·rw [if_pos hx4] at Q4;have Zv:(t.text==[99,97,115,101])=true:=by rw [Zm];exact hx4
   exact Im
  rw [if_neg hx4] at Q4;have Zv:(t.text==[99,97,115,101])=false:=by rw [Za];exact hx4
  exact Im
theorem Zqr:∀ n,IH6 n
 | 0=>IH6.mk
  (Wz (Jz Tryz.func186 (by kernel_rfl) rfl) Zem)
  (Wz (Jz Tryz.func225 (by kernel_rfl) rfl) Zf3)
  (Wz (Jz Tryz.func226 (by kernel_rfl) rfl) Zf2)
  (Wz (Jz Tryz.func227 (by kernel_rfl) rfl) Zf0)
  (Wz (Jz Tryz.func228 (by kernel_rfl) rfl) Zen)
  (Wz (Jz Tryz.func229 (by kernel_rfl) rfl) oW)
  (Wz (Jz Tryz.func254 (by kernel_rfl) rfl) jA)
  (Wz (Jz Tryz.func260 (by kernel_rfl) rfl) Zej)
  (Wz (Jz Tryz.func266 (by kernel_rfl) rfl) Zeo)
  (Wz (Jz Tryz.func271 (by kernel_rfl) rfl) oV)
  (Wz (Jz Tryz.func272 (by kernel_rfl) rfl) Zeh)
  (Wz (Jz Tryz.func273 (by kernel_rfl) rfl) lR)
  (Wz (Jz Tryz.func230 (by kernel_rfl) rfl) Zf1)
 | n+1=>IH6.mk (Zko n (Zqr n)) (Zn2 n (Zqr n)) (Zn1 n (Zqr n)) (Zn0 n (Zqr n)) (Zkp n (Zqr n)) (stepi_cases6 n (Zqr n)) (stepi_operand6 n (Zqr n)) (stepi_part6 n (Zqr n)) (Zkq n (Zqr n)) (Zi0 n (Zqr n)) (stepi_rows6 n (Zqr n)) (Zfg n (Zqr n)) (stepi_ops6 n (Zqr n))
def eR:Con:=Xu 3000
theorem Zjx:eR=Xu 3000:=rfl
theorem Zmf:Qq Tryz.prog (186,eR):=(Zqr 3000).expr
structure Def6 where
 name:List UInt8
 t:List Node
 e:List Part
 deriving DecidableEq
instance encDef6:Enc Def6:=⟨fun a=>.agg [.str a.name,.list 3 (a.t.map enc),.list 8 (a.e.map enc)],fun x=>match x with
 | .agg [a,b,c]=>⟨a.s,b.l.map dec,c.l.map dec⟩
 | _=>⟨[],[],[]⟩,fun a=>by
  have h1:∀ l:List Node,(l.map (enc:Node→D)).map dec=l:=fun l=>J2;have h2:∀ l:List Part,(l.map (enc:Part→D)).map dec=l:=fun l=>J2;cases a;simp [D.l,D.s,h1,h2]⟩
instance szDef6:Sz Def6:=⟨3⟩
theorem P4:Sz.sz Def6=3:=rfl
theorem J0 {a:List UInt8} {b:List Node} {c:List Part}:(enc (Def6.mk a b c):D)=.agg [.str a,.list 3 (b.map enc),.list 8 (c.map enc)]:=rfl
theorem Ve {a:Def6}:(enc a:D)=.agg [.str a.name,.list 3 (a.t.map enc),.list 8 (a.e.map enc)]:=rfl
theorem Vf {a:List UInt8} {b:List Node} {c:List Part}:(dec (.agg [.str a,.list 3 (b.map enc),.list 8 (c.map enc)]):Def6)=⟨a,b,c⟩:=Enc.dec_enc (Def6.mk a b c)
theorem Vc {a:List UInt8} {b:List Node} {c:List Part}:K3 Def6 (.agg [.str a,.list 3 (b.map enc),.list 8 (c.map enc)])=True:=eq_true (Wg (Def6.mk a b c))
structure Mod6 where
 name:List UInt8
 imps:List (List UInt8)
 defs:List Def6
 sites:List Site
 deriving DecidableEq
instance encMod6:Enc Mod6:=⟨fun a=>.agg [.str a.name,.list 1 (a.imps.map enc),.list 3 (a.defs.map enc),.list 3 (a.sites.map enc)],fun x=>match x with
 | .agg [a,b,c,d]=>⟨a.s,b.l.map dec,c.l.map dec,d.l.map dec⟩
 | _=>⟨[],[],[],[]⟩,fun a=>by
  have h0:∀ l:List (List UInt8),(l.map (enc:List UInt8→D)).map dec=l:=fun l=>J2;have h1:∀ l:List Def6,(l.map (enc:Def6→D)).map dec=l:=fun l=>J2;have h2:∀ l:List Site,(l.map (enc:Site→D)).map dec=l:=fun l=>J2;cases a;simp [D.l,D.s,h0,h1,h2]⟩
instance szMod6:Sz Mod6:=⟨4⟩
theorem L4:Sz.sz Mod6=4:=rfl
theorem Jb {a:List UInt8} {b:List (List UInt8)} {c:List Def6} {d:List Site}:(enc (Mod6.mk a b c d):D)=.agg [.str a,.list 1 (b.map enc),.list 3 (c.map enc),.list 3 (d.map enc)]:=rfl
theorem Xf {a:Mod6}:(enc a:D)=.agg [.str a.name,.list 1 (a.imps.map enc),.list 3 (a.defs.map enc),.list 3 (a.sites.map enc)]:=rfl
theorem Xo {a:List UInt8} {b:List (List UInt8)} {c:List Def6} {d:List Site}:(dec (.agg [.str a,.list 1 (b.map enc),.list 3 (c.map enc),.list 3 (d.map enc)]):Mod6)=⟨a,b,c,d⟩:=Enc.dec_enc (Mod6.mk a b c d)
theorem Xm {a:List UInt8} {b:List (List UInt8)} {c:List Def6} {d:List Site}:K3 Mod6 (.agg [.str a,.list 1 (b.map enc),.list 3 (c.map enc),.list 3 (d.map enc)])=True:=eq_true (Wg (Mod6.mk a b c d))
def Jx:Def6:=⟨[],[],[]⟩
def Js:Mod6:=⟨[],[],[],[]⟩
def Zuy (had:List Def6) (x:List UInt8):Bool:=had.any fun d=>d.name==x
def Zfy (l:List Tok) (s:St6) (had:List Def6):Def6×St6 :=
 let x:=Jm l s 1
 if x.2.e=0∧Zuy had x.1=true then (Jx,J8 s 7)
 else
  let t:=G6 l x.2 1
  let r:=J5 l 100 (Qs l t.2 5 [61])
  (⟨x.1,t.1,r.1⟩,Qs l r.2 5 [59])
def jE:Con:=Yq (fun (l:Sl Tok) (s:St6) (had:Sl Def6)=>St6In l.l s∧had.l.length≤1000) (fun l s had=>Zfy l.l s had.l)
structure KdX:Prop
theorem KdX.k (_:KdX) (h:p:=by
 repeat' first|exact Z1|with_reducible apply Zb|intro _
 all_goals first|with_reducible exact Qo|omega|exact ⟨k+1,by exact Qk,by omega,fun h=>absurd h he,by omega⟩|skip):p:=h
structure KdY:Prop
theorem KdY.k (_:KdY) (h:p:=by
 repeat' first|exact Z1|with_reducible apply Zb|intro _
 all_goals first|with_reducible exact Qo|omega|exact ⟨k+1,by exact Qk,by omega,(by first|exact hst2|exact fun _=>hst2|exact fun m hm=>Za.1 (hst2 m hm)),by omega⟩|skip):p:=h
structure KdW:Prop
theorem KdW.k (_:KdW) (h:p:=by
 repeat' first|exact Z1|with_reducible apply Zb|intro _
 refine Zi [19,20,21,22,23,24,25,26,27,28,29,30,31,32,33,34,35,36,37,38,39] (fun k:Nat=>[(10,.d (.int .i64 k))]) (fun k:Nat=>[]) (fun k:Nat=>k≤had.length∧(e1=0→∀ m,m<k→((had.getD m Jx).name==x)=false)) (fun k:Nat=>had.length-k) 0 ?_ ?_ ?_
 ·exact ⟨by omega,fun _ m hm=>absurd hm (Nat.not_lt_zero m)⟩
 ·exact Qk
 rintro k ⟨hk,hno⟩;rcases Zn k had.length with ⟨hlt,Qe⟩|⟨hlt,Qe⟩
 ·have Qa:=Zr Jx hlt;have hst:((had.getD k Jx).name==x)=false→∀ m,m<k+1→e1=0→((had.getD m Jx).name==x)=false:=fun h m hm he=>by
   by_cases e:m=k
   ·subst e;exact h
   ·exact hno he m (by omega)
  have hit:e1=0→((had.getD k Jx).name==x)=true→Zuy had x=true:=fun _ h=>by
   unfold Zuy;rw [List.any_eq_true];refine ⟨had.getD k Jx,by simp [hlt],h⟩
  obtain ⟨y,hy⟩:=exq (had.getD k Jx);rw [hy] at Qa hst hit;by_cases he:e1=0
  case neg =>
   have Z6:(e1==0)=false:=by rw [Za];exact he
   have Zz:=@P4;have Kq:KdX:=⟨⟩;exact mW
  subst he;have Z6:((0:Int)==0)=true:=rfl;cases Qc:(y.name==x) with
  | true =>
   rw [if_pos ⟨rfl,hit rfl Qc⟩] at hR2;subst hR2;have Zz:=@P4;have Z7:=@Ve;exact Im
  | false =>
   have hst2:∀ m,m<k+1→((had.getD m Jx).name==x)=false:=fun m hm=>hst Qc m hm rfl;clear hst;have Zz:=@P4;have Z7:=@Ve;have Kq:KdY:=⟨⟩;exact mW
 ·have hke:k=had.length:=by omega
  have hno2:¬ (e1=0∧Zuy had x=true):=fun h=>by
   unfold Zuy at h;rw [List.any_eq_true] at h;obtain ⟨he,y,hy,hyx⟩:=h;obtain ⟨m,hm,rfl⟩:=List.getElem_of_mem hy;have:=hno he m (by omega)
   rw [Zd,Zg hm,Option.getD_some,hyx] at this;exact Bool.noConfusion this
  rw [if_neg hno2] at hR2;clear hno;obtain ⟨⟨u,⟨i2,ss2,e2⟩⟩,Qz⟩:=exq (G6 l ⟨i1,ss1,e1⟩ 1);rw [Qz] at hR2 m2 hu;simp only at hR2 m2;have m3:=m2.needs 5 [61];obtain ⟨⟨i3,ss3,e3⟩,Qv⟩:=exq (Qs l ⟨i2,ss2,e2⟩ 5 [61]);rw [Qv] at hR2 m3;have m4:=m3.expr (d:=100) (by omega)
  obtain ⟨⟨A,⟨i4,ss4,e4⟩⟩,Q4⟩:=exq (J5 l 100 ⟨i3,ss3,e3⟩);rw [Q4] at hR2 m4;simp only at hR2 m4;obtain ⟨⟨i5,ss5,e5⟩,Z0⟩:=exq (Qs l ⟨i4,ss4,e4⟩ 5 [59]);rw [Z0] at hR2;have o2:=m2.nums;have o4:=m4.nums;simp only at o2 o4;have Z3:Int.toNat 100=100:=rfl;clear hu;subst hR2;have Zz:=@P4;have Z7:=@Zjx;exact Im):p:=h
theorem good_def6:Qq Tryz.prog (149,jE):=by
 obtain ⟨Kx,Kt,Kc,Kd,Kb,Ku,Kw,K,W4,Gd,M4,Ln,Ek,_⟩:=X2 Z4 Zq [] false (Jh K4 My (Jh Gz Lz (Jh D8 Po.eq_def (Jh G9 P6 (Jh Zmf eR.eq_def X1)))));have Ko:=jE.eq_def;refine Wh K Tryz.func149 [.cell 6 49,.cell 7 137] rfl 62 rfl (fun c hc cvs hpre=>?_);unfold jE at hpre;obtain ⟨⟨l⟩,s,⟨had⟩,rfl,hS,hh⟩:=Mv hpre;simp only at hS hh;clear hpre;have hT:=hS.toks;have o0:=hS.nums;obtain ⟨R,Qp⟩:=exq (Zfy l s had);have hR2:=Qp;unfold Zfy at hR2;have m1:=hS.named 1;have hat:=Lm hS.pos 1;obtain ⟨⟨x,⟨i1,ss1,e1⟩⟩,Qd⟩:=exq (Jm l s 1);rw [Qd] at hR2 m1 hat;simp only at hR2 m1 hat;have hgain:e1=0→1≤i1:=fun h=>by have Qd:=(hat.gain h).2;have Qz:=(hat.gain h).1;have:=hS.pos.lo;simp only at Qd Qz;omega
 have o1:=m1.nums;simp only at o1;obtain ⟨⟨Wa,Ws,We⟩,Qh⟩:=exq (J8 s 7);rw [Qh] at hR2;have hu:=Nz hT m1.pos (v:=1) fun _=>⟨by omega,by omega⟩
 have m2:=hS.go (hat.trans hu.adv (m:=0) (q:=0) (by omega) (by omega) (by omega)) (by omega) (by omega)
 have m1o:=m1.ok6;clear hat;obtain ⟨i0,ss0,e0⟩:=s;simp only at o0;cases hc;refine Yv 3 ?_;have Kq:KdW:=⟨⟩;exact mW
def Ztb (z:Int) (d:Def6):Nat:=Xl (Ms z) d.t+Y7 z d.e
def Zh7 (z:Int) (l:List Def6):Nat:=(l.map (Ztb z)).sum
structure FitD (d:Def6):Prop where
 name:d.name.length≤1000000
 t:d.t.length≤100001
 named:Y5 d.t
 e:d.e.length≤300000
 fit:∀ p∈d.e,F3 p
structure Defd (l:List Tok) (s:St6) (r:Def6×St6):Prop where
 adv:Adv l 1 0 s r.2
 cnt:r.2.e=0→∀ z,Ztb z r.1=if (s.sites.length:Int)+1≤z∧z<(r.2.sites.length:Int)+1 then 1 else 0
 fit:FitD r.1
 ok:r.2.e=0→r.1.t≠[]∧Y6 r.1.t=true∧r.1.e≠[]
theorem T9 {s:St6} {e:Int} (he:e≠0):(J8 s e).e≠0:=by
 unfold J8;split
 ·exact he
 ·assumption
theorem Zgo {l:List Tok} (hT:Toks l) {s:St6} (h:Pos l s) (had:List Def6):Defd l s (Zfy l s had):=by
 unfold Zfy;simp only;split
 ·have hw:=L6 h (e:=7) (by decide)
  have he:(J8 s 7).e≠0:=T9 (by decide)
  exact ⟨hw.adv,fun h0=>absurd h0 he,⟨by simp [Jx],by simp [Jx],Qt,by simp [Jx],fun p hp=>(by cases hp)⟩,fun h0=>absurd h0 he⟩
 ·have q1:=(Sq.refl h).tok (by omega) (Bb h 1)
  have hx:=Yb hT s 1;have hu:=Nz hT q1.adv.pos (v:=1) fun _=>⟨by omega,by omega⟩
  have q2:=q1.note hu (by omega) (by omega)
  have q3:=q2.tok (by omega) (Xk q2.adv.pos 5 [61])
  have hr:=Jk hT 100 (by omega) _ q3.adv.pos
  have q4:=q3.read (by omega) hr
  have q5:=q4.tok (by omega) (Xk q4.adv.pos 5 [59])
  have hl:(J5 l 100 (Qs l (G6 l (Jm l s 1).2 1).2 5 [61])).1.length≤300000:=by
   have h1:=hr.len;have h2:=hT.len;have h3:=q3.adv.lo;omega
  have back:(Qs l (J5 l 100 (Qs l (G6 l (Jm l s 1).2 1).2 5 [61])).2 5 [59]).e=0→(J5 l 100 (Qs l (G6 l (Jm l s 1).2 1).2 5 [61])).2.e=0:=fun h0=>(P2 q4.adv.pos 5 [59]).ok0 h0;refine ⟨q5.adv.weak (by omega) (Int.le_refl _),fun h0 z=>?_,⟨hx,hu.len,hu.named,hl,hr.fit⟩,fun h0=>?_⟩
  ·have:=q5.cnt h0 z;unfold Ztb;simp only;omega
  ·have h1:=back h0;have h2:=(P2 q2.adv.pos 5 [61]).ok0 (hr.adv.ok0 h1);exact ⟨(hu.ok h2).1,(hu.ok h2).2,(hr.ok h1).1⟩
def Zl9 (l:List Tok):Nat→St6→List (List UInt8)→Bool×List (List UInt8)×St6
 | 0,s,imps=>(true,imps,s)
 | f+1,s,imps =>
  if Fk l s 6 [105,109,112,111,114,116]=false then (false,imps,s)
  else if (Jm l (X3 s) 1).2.e=0∧R0 imps (Jm l (X3 s) 1).1=true then (true,imps,J8 (X3 s) 7)
  else Zl9 l f (Qs l (Jm l (X3 s) 1).2 5 [59]) (imps++[(Jm l (X3 s) 1).1])
def Zmv (l:List Tok):Nat→St6→List Def6→List Int→Bool×List Def6×List Int×St6
 | 0,s,defs,pl=>(true,defs,[],s)
 | f+1,s,defs,pl =>
  if Fk l s 6 [100,101,102]=false then (false,defs,pl,s)
  else if defs.length=200 then (true,defs,[],J8 s 3)
  else Zmv l f (Zfy l (X3 s) defs).2 (defs++[(Zfy l (X3 s) defs).1]) (pl++[s.at_])
def mR (l:List Tok) (s:St6):St6:=if s.e=0∧((l.length:Int)≤s.at_∨(tk l s.at_).kind≠0) then J8 s 2 else s
def Uf (l:List Tok) (name:List UInt8):Mod6×St6×List Int :=
 let a:=Zl9 l (l.length+1) ⟨0,[],0⟩ []
 if a.1=true then (⟨name,a.2.1,[],[]⟩,a.2.2,[])
 else
  let b:=Zmv l 201 a.2.2 [] []
  if b.1=true then (⟨name,a.2.1,b.2.1,[]⟩,b.2.2.2,[])
  else (⟨name,a.2.1,b.2.1,(mR l b.2.2.2).sites⟩,mR l b.2.2.2,b.2.2.1)
theorem T4 (s:St6) (e:Int):(J8 s e).at_=s.at_∧(J8 s e).sites=s.sites:=by
 unfold J8;split<;>exact ⟨rfl,rfl⟩
theorem Rn (l:List Tok) (s:St6) (k:Int) (x:List UInt8):(Qs l s k x).sites=s.sites:=by
 unfold Qs;split
 ·rfl
 split
 ·exact (T4 s 2).2
 ·rfl
theorem Ru (l:List Tok) (s:St6) (k:Int):(Jm l s k).2.sites=s.sites:=by
 unfold Jm;split
 ·rfl
 split
 ·exact (T4 s 2).2
 ·rfl
structure Imps (l:List Tok) (r:Bool×List (List UInt8)×St6):Prop where
 pos:Pos l r.2.2
 stop:r.1=true→r.2.2.e≠0
 sites:r.2.2.sites=[]
 short:∀ x∈r.2.1,x.length≤1000000
 len:r.2.1.length≤l.length+1
theorem Zqq {l:List Tok} (hT:Toks l):∀ (f:Nat) (s:St6) (imps:List (List UInt8)),Pos l s→s.sites=[]→(s.e=0→(l.length:Int)+1≤f+s.at_)→imps.length+f≤l.length+1→(∀ x∈imps,x.length≤1000000)→Imps l (Zl9 l f s imps)
 | 0,s,imps,hP,hs,h0,hf,hi=>⟨hP,fun _ he=>by have:=h0 he;have:=hP.hi;omega,hs,hi,by show imps.length≤_;omega⟩
 | f+1,s,imps,hP,hs,h0,hf,hi=>by
  rw [Zl9];split
  ·exact ⟨hP,fun h=>by simp at h,hs,hi,by show imps.length≤_;omega⟩
  rename_i his;have his:Fk l s 6 [105,109,112,111,114,116]=true:=by simpa using his
  have q1:=(Sq.refl hP).tok (by omega) (cU hP his)
  split
  ·refine ⟨?_,fun _=>T9 (by decide),?_,hi,by show imps.length≤_;omega⟩
   ·show Pos l (J8 (X3 s) 7);obtain ⟨e1,e2⟩:=T4 (X3 s) 7;exact ⟨by rw [e1];exact q1.adv.lo,by rw [e1];exact q1.adv.hi⟩
   ·show (J8 (X3 s) 7).sites=[];rw [(T4 (X3 s) 7).2];exact hs
  ·have q2:=q1.tok (by omega) (Bb q1.adv.pos 1)
   have q3:=q2.tok (by omega) (Xk q2.adv.pos 5 [59])
   refine Zqq hT f _ _ q3.adv.pos ?_ (fun he=>?_) (by simp only [Zh,Zj,List.length_nil];omega) (fun x hx=>?_)
   ·rw [Rn,Ru];exact hs
   ·have h1:=h0 (q3.adv.ok0 he);have h2:=(q3.adv.gain he).2;have h3:=(q3.adv.gain he).1;omega
   ·rcases List.mem_append.1 hx with hx|hx
    ·exact hi x hx
    ·rw [Zp] at hx;subst hx;exact Yb hT _ _
theorem Zxb {l:List Tok} (hT:Toks l) {s:St6} (hP:Pos l s) (hs:s.sites=[]):St6In l s:=⟨hT,hP,by rw [hs];simp,fun _=>by rw [hs];have:=hP.lo;simp;omega⟩
structure Defs (l:List Tok) (s0:St6) (r:Bool×List Def6×List Int×St6):Prop where
 adv:Adv l 0 0 s0 r.2.2.2
 stop:r.1=true→r.2.2.2.e≠0
 cnt:r.2.2.2.e=0→∀ z,Zh7 z r.2.1=if (s0.sites.length:Int)+1≤z∧z<(r.2.2.2.sites.length:Int)+1 then 1 else 0
 fit:∀ d∈r.2.1,FitD d
 ok:r.2.2.2.e=0→∀ d∈r.2.1,d.t≠[]∧Y6 d.t=true∧d.e≠[]
 len:r.2.1.length≤200
 pl:r.1=false→r.2.2.1.length=r.2.1.length∧∀ x∈r.2.2.1,0≤x∧x<l.length
theorem Zq5 {l:List Tok} (hT:Toks l) {s0:St6}:∀ (f:Nat) (s:St6) (defs:List Def6) (pl:List Int),Defs l s0 (false,defs,pl,s)→defs.length+f=201→Defs l s0 (Zmv l f s defs pl)
 | 0,s,defs,pl,h,hf=>by have:=h.len;simp only at this;omega
 | f+1,s,defs,pl,h,hf=>by
  rw [Zmv];split
  ·exact h
  rename_i his;have his:Fk l s 6 [100,101,102]=true:=by simpa using his
  have hlt:=Cw his;have hP:=h.adv.pos;have hadv:=h.adv;have hcnt:=h.cnt;have hok:=h.ok;have hlen:=h.len;have hpl:=h.pl rfl;simp only at hP hadv hcnt hok hlen hpl;split
  ·have hw:=L6 hP (e:=3) (by decide)
   exact ⟨hadv.trans hw.adv (by omega) (by omega) (by omega),fun _=>T9 (by decide),fun he=>absurd he (T9 (by decide)),h.fit,fun he=>absurd he (T9 (by decide)),h.len,fun h=>by simp at h⟩
  rename_i h200;have t1:=(cU hP his).adv;have hd:=Zgo hT t1.pos defs;have a2:=t1.trans hd.adv (m:=0) (q:=0) (by omega) (by omega) (by omega)
  refine Zq5 hT f _ _ _ ⟨hadv.trans a2 (by omega) (by omega) (by omega),fun h=>by simp at h,fun he z=>?_,fun d hx=>?_,fun he d hx=>?_,?_,fun _=>⟨?_,fun x hx=>?_⟩⟩ ?_
  ·have e1:=hcnt hlt.1 z;have e2:=hd.cnt he z;have g1:=(hadv.gain hlt.1).1;have g2:=(hd.adv.gain he).1;have hss:(X3 s).sites=s.sites:=rfl;rw [hss] at e2 g2;show Zh7 z (defs++[_])=_;unfold Zh7 at e1 ⊢;rw [List.map_append,List.sum_append];simp only [List.map_cons,List.map_nil,List.sum_cons,List.sum_nil,Nat.add_zero];rw [e1,e2];exact aX (by omega) (by omega)
  ·rcases List.mem_append.1 hx with hx|hx
   ·exact h.fit d hx
   ·rw [Zp] at hx;subst hx;exact hd.fit
  ·rcases List.mem_append.1 hx with hx|hx
   ·exact hok hlt.1 d hx
   ·rw [Zp] at hx;subst hx;exact hd.ok he
  ·show (defs++[_]).length≤200;simp only [Zh,Zj,List.length_nil];omega
  ·show (pl++[_]).length=(defs++[_]).length;simp only [Zh,Zj,List.length_nil];omega
  ·rcases List.mem_append.1 hx with hx|hx
   ·exact hpl.2 x hx
   ·rw [Zp] at hx;subst hx;exact ⟨hP.lo,hlt.2⟩
  ·simp only [Zh,Zj,List.length_nil];omega
theorem mP (l:List Tok) (s:St6):(mR l s).at_=s.at_∧(mR l s).sites=s.sites∧((mR l s).e=0→mR l s=s):=by
 unfold mR;split
 ·obtain ⟨h1,h2⟩:=T4 s 2;exact ⟨h1,h2,fun h=>absurd h (T9 (by decide))⟩
 ·exact ⟨rfl,rfl,fun _=>rfl⟩
structure Modd (l:List Tok) (name:List UInt8) (m:Mod6):Prop where
 name:m.name=name
 short:∀ x∈m.imps,x.length≤1000000
 ilen:m.imps.length≤l.length+1
 dlen:m.defs.length≤200
 fit:∀ d∈m.defs,FitD d
 ok:∀ d∈m.defs,d.t≠[]∧Y6 d.t=true∧d.e≠[]
 slen:m.sites.length≤l.length
 cnt:∀ z,Zh7 z m.defs=if 1≤z∧z<(m.sites.length:Int)+1 then 1 else 0
theorem Zde {l:List Tok} (hT:Toks l) (name:List UInt8):Pos l (Uf l name).2.1∧(Uf l name).1.defs.length≤200∧(∀ d∈(Uf l name).1.defs,FitD d) ∧
  ((Uf l name).2.1.e=0→Modd l name (Uf l name).1∧(Uf l name).2.2.length=(Uf l name).1.defs.length∧∀ x∈(Uf l name).2.2,0≤x∧x<l.length):=by
 have hI:=Zqq hT (l.length+1) ⟨0,[],0⟩ [] ⟨by simp,by simp⟩ rfl (fun _=>by simp) (by simp) (fun x hx=>by cases hx)
 unfold Uf;simp only;obtain ⟨a,ha⟩:=exq (Zl9 l (l.length+1) ⟨0,[],0⟩ []);rw [ha] at hI ⊢;split
 ·rename_i h1;exact ⟨hI.pos,by simp,fun d hd=>(by cases hd),fun he=>absurd he (hI.stop h1)⟩
 have hD:=Zq5 hT (s0:=a.2.2) 201 a.2.2 [] [] ⟨(Adv.refl hI.pos).weak (by omega) (by omega),fun h=>by simp at h,fun _ z=>(by show 0=if (a.2.2.sites.length:Int)+1≤z∧z<(a.2.2.sites.length:Int)+1 then 1 else 0;rw [if_neg (by omega)]),fun d hd=>(by cases hd),fun _ d hd=>(by cases hd),by simp,fun _=>⟨rfl,fun x hx=>(by cases hx)⟩⟩ (by simp)
 obtain ⟨b,hb⟩:=exq (Zmv l 201 a.2.2 [] []);rw [hb] at hD ⊢;split
 ·rename_i h1;exact ⟨hD.adv.pos,hD.len,hD.fit,fun he=>absurd he (hD.stop h1)⟩
 rename_i h1;have h1:b.1=false:=by simpa using h1
 obtain ⟨k1,k2,k3⟩:=mP l b.2.2.2;refine ⟨⟨by rw [k1];exact hD.adv.lo,by rw [k1];exact hD.adv.hi⟩,hD.len,hD.fit,fun he=>?_⟩
 have hke:=k3 he;simp only at he;rw [hke] at he ⊢;have hc:=hD.cnt he;have hs:=hI.sites;have hroom:=hD.adv.room (hD.adv.ok0 he);have hlo:=hI.pos.lo;refine ⟨⟨rfl,hI.short,hI.len,hD.len,hD.fit,hD.ok he,?_,fun z=>?_⟩,(hD.pl h1).1,(hD.pl h1).2⟩
 ·show b.2.2.2.sites.length≤l.length;rw [hs] at hroom;simp only [List.length_nil] at hroom;omega
 ·have:=hc z;rw [hs] at this;simpa using this
def Wy {A B R S T:Type} [Enc A] [Enc B] [Enc R] [Enc S] [Enc T] (p:A→B→Prop) (f:A→B→R×S×T):Con:=⟨[false,false],[false,false,false],fun c=>match c with
 | [.d x,.d y]=>K3 A x∧K3 B y∧p (dec x) (dec y)
 | _=>False,fun c=>match c with
 | [.d x,.d y]=>.tup [.d (enc (f (dec x) (dec y)).1),.d (enc (f (dec x) (dec y)).2.1),.d (enc (f (dec x) (dec y)).2.2)]
 | _=>.d .nilp⟩
theorem Ka:type_of% @Wy.eq_def:=@Wy.eq_def
theorem eS {A B R S T:Type} [Enc A] [Enc B] [Enc R] [Enc S] [Enc T] {p:A→B→Prop} {f:A→B→R×S×T} {c:List CV} (h:(Wy p f).pre c):∃ a b,c=[.d (enc a),.d (enc b)]∧p a b:=by
 unfold Wy at h;simp only at h;split at h
 ·next x y=>exact ⟨dec x,dec y,by rw [←h.1,←h.2.1],h.2.2⟩
 ·exact h.elim
structure ImpS (l:List Tok) (f:Nat) (s:St6) (imps:List (List UInt8)):Prop where
 pos:Pos l s
 sites:s.sites=[]
 room:s.e=0→(l.length:Int)+1≤f+s.at_
 cnt:imps.length+f=l.length+1
 short:∀ x∈imps,x.length≤1000000
 fuel:1≤f
theorem ImpS.next {l:List Tok} (hT:Toks l) {f:Nat} {s:St6} {imps:List (List UInt8)} (h:ImpS l (f+1) s imps) (hi:Fk l s 6 [105,109,112,111,114,116]=true) :
  ImpS l f (Qs l (Jm l (X3 s) 1).2 5 [59]) (imps++[(Jm l (X3 s) 1).1]):=by
 have q1:=(Sq.refl h.pos).tok (by omega) (cU h.pos hi)
 have q2:=q1.tok (by omega) (Bb q1.adv.pos 1)
 have q3:=q2.tok (by omega) (Xk q2.adv.pos 5 [59])
 have hlt:=Cw hi;refine ⟨q3.adv.pos,?_,fun he=>?_,?_,fun x hx=>?_,?_⟩
 ·rw [Rn,Ru];exact h.sites
 ·have h1:=h.room hlt.1;have h2:=(q3.adv.gain he).2;have h3:=(q3.adv.gain he).1;omega
 ·have:=h.cnt;simp only [Zh,Zj,List.length_nil];omega
 ·rcases List.mem_append.1 hx with hx|hx
  ·exact h.short x hx
  ·rw [Zp] at hx;subst hx;exact Yb hT _ _
 ·have:=h.room hlt.1;omega
structure DefS (l:List Tok) (f:Nat) (s:St6) (defs:List Def6) (pl:List Int):Prop where
 inn:St6In l s
 cnt:defs.length+f=201
 len:defs.length≤200
 pls:pl.length=defs.length
theorem DefS.next {l:List Tok} (hT:Toks l) {f:Nat} {s:St6} {defs:List Def6} {pl:List Int} (h:DefS l (f+1) s defs pl) (hi:Fk l s 6 [100,101,102]=true) (hl:defs.length≠200) :
  DefS l f (Zfy l (X3 s) defs).2 (defs++[(Zfy l (X3 s) defs).1]) (pl++[s.at_]):=by
 have m1:=h.inn.is hi;have hd:=Zgo hT m1.pos defs;have h1:=h.cnt;have h2:=h.len;have h3:=h.pls;refine ⟨m1.go hd.adv (by omega) (by omega),?_,?_,?_⟩
 all_goals
  simp only [Zh,Zj,List.length_nil];omega
theorem Md {a d:Int}:(dec (.agg [.int .i64 a,.list 3 [],.int .i64 d]):St6)=⟨a,[],d⟩:=Ju (c:=[])
theorem N5 {a d:Int}:K3 St6 (.agg [.int .i64 a,.list 3 [],.int .i64 d])=True:=Jt (c:=[])
def Ed:Con:=Wy (fun (l:Sl Tok) (_:List UInt8)=>Toks l.l) (fun l name=>(((Uf l.l name).1,(Uf l.l name).2.1,⟨(Uf l.l name).2.2⟩):Mod6×St6×Sl Int))
structure Kea:Prop
theorem Kea.k (_:Kea) (h:p:=by
 repeat' first|exact Z1|with_reducible apply Zb|intro _
 all_goals first|with_reducible exact Qo|omega|exact ⟨(f,i3,e3,imps++[x],k),by exact Qk,hL,hnx,by simp;omega,by omega⟩|rfl|trivial|(simp [Jb];done)|skip):p:=h
structure Keb:Prop
theorem Keb.k (_:Keb) (h:p:=by
 repeat' first|exact Z1|with_reducible apply Zb|intro _
 all_goals first|with_reducible exact Qo|omega|rfl|trivial|(simp [Jb];done)|skip):p:=h
structure Kec:Prop
theorem Kec.k (_:Kec) (h:p:=by
 repeat' first|exact Z1|with_reducible apply Zb|intro _
 all_goals first|with_reducible exact Qo|omega|exact ⟨(f,i3,e3,imps++[x],imps.length),by exact Qk,hL,hnx,by simp,by omega⟩|rfl|trivial|(simp [Jb];done)|skip):p:=h
structure Kee:Prop
theorem Kee.k (_:Kee) (h:p:=by
 repeat' first|exact Z1|with_reducible apply Zb|intro _
 all_goals first|with_reducible exact Qo|omega|rfl|trivial|(simp [Jb];done)|skip):p:=h
structure Kef:Prop
theorem Kef.k (_:Kef) (h:p:=by
 repeat' first|exact Z1|with_reducible apply Zb|intro _
 all_goals first|with_reducible exact Qo|omega|exact n2|exact ⟨(f2,j3,ss3,g3,defs++[⟨dn,dt,de⟩],pl++[j]),by (have Um:=@J0;exact Qk),hL,hnx,by omega⟩|rfl|trivial|(simp [Jb];done)|skip):p:=h
structure Keg:Prop
theorem Keg.k (_:Keg) (h:p:=by
 repeat' first|exact Z1|with_reducible apply Zb|intro _
 all_goals first|with_reducible exact Qo|omega|rfl|trivial|(simp [Jb];done)|skip):p:=h
structure Keh:Prop
theorem Keh.k (_:Keh) (h:p:=by
 repeat' first|exact Z1|with_reducible apply Zb|intro _
 all_goals first|with_reducible exact Qo|omega|rfl|trivial|(simp [Jb];done)|skip):p:=h
structure Kei:Prop
theorem Kei.k (_:Kei) (h:p:=by
 repeat' first|exact Z1|with_reducible apply Zb|intro _
 all_goals first|with_reducible exact Qo|omega|rfl|trivial|(simp [Jb];done)|skip):p:=h
structure Kej:Prop
theorem Kej.k (_:Kej) (h:p:=by
 repeat' first|exact Z1|with_reducible apply Zb|intro _
 all_goals first|with_reducible exact Qo|omega|rfl|trivial|(simp [Jb];done)|skip):p:=h
structure Ked:Prop
theorem Ked.k (_:Ked) (h:p:=by
 repeat' first|exact Z1|with_reducible apply Zb|intro _
 refine Zi [6,12,13,52,53,54,55,56,57,58,59,60,61,62,63,64,65,66,67,68,69,70,71,72,73,74,75,76,77,78,79,80,81,82,83,84,85] (fun p:Nat×Int×List Site×Int×List Def6×List Int=>[(9,.sl 17 (p.2.2.2.2.2.map (enc:Int→D)).length)]) (fun p:Nat×Int×List Site×Int×List Def6×List Int=>[(8,.box true [.d (.int .i64 p.2.1),.d (.list 3 (p.2.2.1.map enc)),.d (.int .i64 p.2.2.2.1)]),(7,.box true [.d (.str name),.sl 47 (imps.map (enc:List UInt8→D)).length,.sl 83 (p.2.2.2.2.1.map (enc:Def6→D)).length,.nils 3]),(83,.row 3 (p.2.2.2.2.1.map enc) (p.2.2.2.2.1.length-1)),(17,.row 1 (p.2.2.2.2.2.map enc) 0)]) (fun p:Nat×Int×List Site×Int×List Def6×List Int=>Zmv l p.1 ⟨p.2.1,p.2.2.1,p.2.2.2.1⟩ p.2.2.2.2.1 p.2.2.2.2.2=b∧DefS l p.1 ⟨p.2.1,p.2.2.1,p.2.2.2.1⟩ p.2.2.2.2.1 p.2.2.2.2.2) (fun p:Nat×Int×List Site×Int×List Def6×List Int=>p.1) (201,i,[],e,[],[]) ?_ ?_ ?_
 ·exact ⟨hb,hD0⟩
 ·exact Qk
 rintro ⟨f2,j,ss,g,defs,pl⟩ ⟨hL,hD⟩;simp only at hL hD;have hc2:=hD.cnt;have hl2:=hD.len;have hp2:=hD.pls;obtain ⟨f2,rfl⟩:∃ k,f2=k+1:=⟨f2-1,by omega⟩
 rw [Zmv] at hL;have n1:=hD.inn;have q1:=n1.nums;simp only at q1;cases Qz:Fk l ⟨j,ss,g⟩ 6 [100,101,102] with
 | true =>
  rw [if_neg (by rw [Qz];simp)] at hL
  by_cases h200:defs.length=200
  ·rw [if_pos h200] at hL;have Qv:((defs.length:Int)==200)=true:=by rw [Zm];omega
   obtain ⟨⟨Wa,Ws,We⟩,Qh⟩:=exq (J8 ⟨j,ss,g⟩ 3);rw [Qh] at hL;subst hL;rw [if_pos rfl] at hR2;simp only at hR2;subst hR2;have Z7:=@Wy.eq_def;have Z9:=@J0;have Qg:=@Vc;have Zv:=@Vf;have Zw:=@Jb;have Qn:=@Xm;have Q6:=@Xo;have Q5:=@P4;have Ja:=@L4;have Q7:=@Md;have Q0:=@N5;have Kq:Kee:=⟨⟩;exact mW
  ·rw [if_neg h200] at hL;have Qv:((defs.length:Int)==200)=false:=by rw [Za];omega
   have hnx:=hD.next hT Qz h200;have hadv:X3 ⟨j,ss,g⟩=⟨j+1,ss,g⟩:=rfl;have n2:=n1.is Qz;rw [hadv] at hL hnx n2;obtain ⟨⟨d,⟨j3,ss3,g3⟩⟩,Qe⟩:=exq (Zfy l ⟨j+1,ss,g⟩ defs);rw [Qe] at hL hnx;simp only at hL hnx;obtain ⟨dn,dt,de⟩:=d;have Z7:=@Wy.eq_def;have Z9:=@J0;have Qg:=@Vc;have Zv:=@Vf;have Zw:=@Jb;have Qn:=@Xm;have Q6:=@Xo;have Q5:=@P4;have Ja:=@L4;have Q7:=@Md;have Q0:=@N5;have Kq:Kef:=⟨⟩;exact mW
 | false =>
  rw [if_pos Qz] at hL;subst hL;rw [if_neg (by simp)] at hR2
  simp only at hR2;rw [(mP l ⟨j,ss,g⟩).2.1] at hR2;simp only at hR2;obtain ⟨⟨Wa,Ws,We⟩,Qh⟩:=exq (J8 ⟨j,ss,g⟩ 2);have hWs:=(T4 ⟨j,ss,g⟩ 2).2;rw [Qh] at hWs;simp only at hWs;subst hWs;unfold mR at hR2;rw [Qh] at hR2;obtain ⟨j,rfl⟩:∃ n:Nat,j=n:=⟨j.toNat,by omega⟩
  simp only [Hp] at hR2;by_cases hg:g=0
  case neg =>
   rw [if_neg (fun h=>hg h.1)] at hR2;have Q4:(g==0)=false:=by rw [Za];exact hg
   subst hR2;have Z7:=@Wy.eq_def;have Z9:=@J0;have Qg:=@Vc;have Zv:=@Vf;have Zw:=@Jb;have Qn:=@Xm;have Q6:=@Xo;have Q5:=@P4;have Ja:=@L4;have Q7:=@Md;have Q0:=@N5;have Kq:Keg:=⟨⟩;exact mW
  subst hg;have Q4:((0:Int)==0)=true:=rfl;rcases Zn j l.length with ⟨hlt,hlb⟩|⟨hlt,hlb⟩
  rotate_left
  ·rw [if_pos ⟨rfl,.inl (by omega)⟩] at hR2
   have Z0:Wf (l.length:Int) (j:Int)=true:=by rw [Qx];omega
   subst hR2;have Z7:=@Wy.eq_def;have Z9:=@J0;have Qg:=@Vc;have Zv:=@Vf;have Zw:=@Jb;have Qn:=@Xm;have Q6:=@Xo;have Q5:=@P4;have Ja:=@L4;have Q7:=@Md;have Q0:=@N5;have Kq:Keh:=⟨⟩;exact mW
  have Z0:Wf (l.length:Int) (j:Int)=false:=by rw [←Bool.not_eq_true,Qx];omega
  have Z3:=Zr Kg hlt;obtain ⟨t,ht⟩:=exq (l.getD j Kg);rw [ht] at Z3 hR2;by_cases hk0:t.kind=0
  ·rw [if_neg (fun h=>by rcases h.2 with h|h;omega;exact h hk0)] at hR2
   have Zz:(t.kind != 0)=false:=by rw [bne_eq_false_iff_eq];exact hk0
   subst hR2;have Z7:=@Wy.eq_def;have Z9:=@J0;have Qg:=@Vc;have Zv:=@Vf;have Zw:=@Jb;have Qn:=@Xm;have Q6:=@Xo;have Q5:=@P4;have Ja:=@L4;have Q7:=@Md;have Q0:=@N5;have Kq:Kei:=⟨⟩;exact mW
  ·rw [if_pos ⟨rfl,.inr hk0⟩] at hR2;have Zz:(t.kind != 0)=true:=bne_iff_ne.2 hk0;subst hR2;have Z7:=@Wy.eq_def;have Z9:=@J0;have Qg:=@Vc;have Zv:=@Vf;have Zw:=@Jb;have Qn:=@Xm;have Q6:=@Xo;have Q5:=@P4;have Ja:=@L4;have Q7:=@Md;have Q0:=@N5;have Kq:Kej:=⟨⟩;exact mW):p:=h
structure KdZ:Prop
theorem KdZ.k (_:KdZ) (h:p:=by
 repeat' first|exact Z1|with_reducible apply Zb|intro _
 refine Zi [6,10,11,18,19,20,21,22,23,24,25,26,27,28,29,30,31,32,33,34,35,36,37,38,39,40,41,42,43,44,45,46,47,48,49,50,51] (fun p:Nat×Int×Int×List (List UInt8)×Nat=>[]) (fun p:Nat×Int×Int×List (List UInt8)×Nat=>[(8,.box true [.d (.int .i64 p.2.1),.d (.list 3 []),.d (.int .i64 p.2.2.1)]),(7,.box true [.d (.str name),.sl 47 (p.2.2.2.1.map (enc:List UInt8→D)).length,.nils 3,.nils 3]),(47,.row 1 (p.2.2.2.1.map enc) p.2.2.2.2)]) (fun p:Nat×Int×Int×List (List UInt8)×Nat=>Zl9 l p.1 ⟨p.2.1,[],p.2.2.1⟩ p.2.2.2.1=a∧ImpS l p.1 ⟨p.2.1,[],p.2.2.1⟩ p.2.2.2.1∧p.2.2.2.2≤p.2.2.2.1.length) (fun p:Nat×Int×Int×List (List UInt8)×Nat=>p.1) (l.length+1,0,0,[],0) ?_ ?_ ?_
 ·exact ⟨ha,hI0,by simp⟩
 ·exact Qk
 rintro ⟨f,i,e,imps,k⟩ ⟨hL,hI,hk⟩;simp only at hL hI hk;have hf:=hI.fuel;obtain ⟨f,rfl⟩:∃ k,f=k+1:=⟨f-1,by omega⟩
 rw [Zl9] at hL;have m1:=Zxb hT hI.pos hI.sites;have o1:=m1.nums;have hcn:=hI.cnt;simp only at o1;cases Qd:Fk l ⟨i,[],e⟩ 6 [105,109,112,111,114,116] with
 | true =>
  rw [if_neg (by rw [Qd];simp)] at hL
  have hnx:=hI.next hT Qd;have hadv:X3 ⟨i,[],e⟩=⟨i+1,[],e⟩:=rfl;have m2:=m1.is Qd;rw [hadv] at hL hnx m2;have o2:=m2.nums;simp only at o2;have m3:=m2.named 1;have hs2:=Ru l ⟨i+1,[],e⟩ 1;obtain ⟨⟨x,⟨i2,s2,e2⟩⟩,Qe⟩:=exq (Jm l ⟨i+1,[],e⟩ 1);rw [Qe] at hL hnx m3 hs2;simp only at hL hnx m3 hs2;subst hs2;have o3:=m3.nums;simp only at o3;have hs3:=Rn l ⟨i2,[],e2⟩ 5 [59];obtain ⟨⟨i3,s3,e3⟩,Z6⟩:=exq (Qs l ⟨i2,[],e2⟩ 5 [59]);rw [Z6] at hL hnx hs3;simp only at hs3;subst hs3;by_cases he2:e2=0
  case neg =>
   rw [if_neg (fun h=>he2 h.1)] at hL;have Qa:(e2==0)=false:=by rw [Za];exact he2
   have Z7:=@Wy.eq_def;have Z9:=@J0;have Qg:=@Vc;have Zv:=@Vf;have Zw:=@Jb;have Qn:=@Xm;have Q6:=@Xo;have Q5:=@P4;have Ja:=@L4;have Q7:=@Md;have Q0:=@N5;have Kq:Kea:=⟨⟩;exact mW
  subst he2;have Qa:((0:Int)==0)=true:=rfl;cases Qc:R0 imps x with
  | true =>
   rw [if_pos ⟨rfl,Qc⟩] at hL;obtain ⟨⟨Wa,Ws,We⟩,Qh⟩:=exq (J8 ⟨i+1,[],e⟩ 7);rw [Qh] at hL;subst hL;rw [if_pos rfl] at hR2;simp only at hR2;subst hR2;have Z7:=@Wy.eq_def;have Z9:=@J0;have Qg:=@Vc;have Zv:=@Vf;have Zw:=@Jb;have Qn:=@Xm;have Q6:=@Xo;have Q5:=@P4;have Ja:=@L4;have Q7:=@Md;have Q0:=@N5;have Kq:Keb:=⟨⟩;exact mW
  | false =>
   rw [if_neg (fun h=>by rw [Qc] at h;simp at h)] at hL
   have Z7:=@Wy.eq_def;have Z9:=@J0;have Qg:=@Vc;have Zv:=@Vf;have Zw:=@Jb;have Qn:=@Xm;have Q6:=@Xo;have Q5:=@P4;have Ja:=@L4;have Q7:=@Md;have Q0:=@N5;have Kq:Kec:=⟨⟩;exact mW
 | false =>
  rw [if_pos Qd] at hL;subst hL;rw [if_neg (by simp)] at hR2
  simp only at hR2;obtain ⟨b,hb⟩:=exq (Zmv l 201 ⟨i,[],e⟩ [] []);rw [hb] at hR2;have hD0:DefS l 201 ⟨i,[],e⟩ [] []:=⟨m1,rfl,by simp,rfl⟩
  clear hI;have Z7:=@Wy.eq_def;have Z9:=@J0;have Qg:=@Vc;have Zv:=@Vf;have Zw:=@Jb;have Qn:=@Xm;have Q6:=@Xo;have Q5:=@P4;have Ja:=@L4;have Q7:=@Md;have Q0:=@N5;have Kq:Ked:=⟨⟩;exact mW):p:=h
theorem good_module6:Qq Tryz.prog (104,Ed):=by
 obtain ⟨Kx,Kt,Kc,Kd,Kb,Ku,Kw,K,W4,Gd,M4,Ln,Ek,cL,_⟩:=X2 Z4 Zq [] false (Jh Se cR (Jh K4 My (Jh good_in6 bN.eq_def (Jh Gz Lz (Jh G9 P6 (Jh good_def6 jE.eq_def X1))))));have Ko:=Ed.eq_def;refine Wh K Tryz.func104 [.cell 4 43,.cell 5 137,.tmp 6] rfl 113 rfl (fun c hc cvs hpre=>?_);unfold Ed at hpre;obtain ⟨⟨l⟩,name,rfl,hT⟩:=eS hpre;simp only at hT;clear hpre;have hll:=hT.len;obtain ⟨R,Qp⟩:=exq (Uf l name);have hR2:=Qp;unfold Uf at hR2;simp only at hR2;obtain ⟨a,ha⟩:=exq (Zl9 l (l.length+1) ⟨0,[],0⟩ []);rw [ha] at hR2;have hI0:ImpS l (l.length+1) ⟨0,[],0⟩ []:=⟨⟨by simp,by simp⟩,rfl,fun _=>by simp,by simp,fun x hx=>(by cases hx),by omega⟩
 cases hc;refine Yv 7 ?_;have Z7:=@Wy.eq_def;have Z9:=@J0;have Qg:=@Vc;have Zv:=@Vf;have Zw:=@Jb;have Qn:=@Xm;have Q6:=@Xo;have Q5:=@P4;have Ja:=@L4;have Q7:=@Md;have Q0:=@N5;have Kq:KdZ:=⟨⟩;exact mW
end Go.Am.Ty
