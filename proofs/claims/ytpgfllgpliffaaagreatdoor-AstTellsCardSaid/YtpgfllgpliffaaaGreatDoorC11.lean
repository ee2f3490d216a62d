/- Contracts of functions that the law reaches, and plain laws. Conditions: those that each contract states. -/
import Derived.Test.YtpgfllgpliffaaaGreatDoorC10
set_option maxHeartbeats 4000000
set_option linter.unusedVariables false
set_option linter.unusedSimpArgs false
variable {p:Prop}
namespace Go.Am.Ty
open Go.Proofs Go.Rose Go.Rose.Rose Gr
def Qjn (w s:List UInt8):Option (List UInt8):=if w.isPrefixOf s then some (s.drop w.length) else none
theorem Qjq:∀ (w s:List UInt8),Qjn w (w++s)=some s:=by
 intro w s;unfold Qjn;rw [if_pos (by rw [List.isPrefixOf_iff_prefix];exact List.prefix_append w s)]
 simp
def Qjo (c:UInt8):Bool:=behind c||c==33
def Qjl (s:List UInt8):List UInt8×List UInt8:=(s.takeWhile Qjo,s.dropWhile Qjo)
theorem Qjk:∀ {w s:List UInt8},w.all Qjo=true→(∀ c r,s=c::r→Qjo c=false)→Qjl (w++s)=(w,s):=by
 intro w s hw hs;have h1:∀ a∈w,Qjo a=true:=List.all_eq_true.1 hw;have e1:s.takeWhile Qjo=[]:=by
  cases s with
  | nil=>rfl
  | cons c r=>rw [List.takeWhile_cons,hs c r rfl];rfl
 have e2:s.dropWhile Qjo=s:=by
  cases s with
  | nil=>rfl
  | cons c r=>rw [List.dropWhile_cons,hs c r rfl];rfl
 unfold Qjl;rw [List.takeWhile_append_of_pos h1,List.dropWhile_append_of_pos h1,e1,e2,List.append_nil]
theorem Qjt {c:UInt8} (h:behind c=true):Qjo c=true:=by unfold Qjo;rw [h];rfl
theorem Qjm {w:List UInt8} (h:Xt w=true):w.all Qjo=true∧w≠[]:=by
 cases w with
 | nil=>cases h
 | cons c r =>
  unfold Xt at h;rw [Zg] at h;refine ⟨?_,by simp⟩
  rw [List.all_cons,Zg];refine ⟨Qjt (by unfold behind;rw [h.1];rfl),List.all_eq_true.2 fun x hx=>Qjt (List.all_eq_true.1 h.2 x hx)⟩
theorem Qke {w:List UInt8} (h:Ht w=true):w.all Qjo=true∧w≠[]:=by
 cases w with
 | nil=>cases h
 | cons c r =>
  unfold Ht at h;rw [Zg] at h;refine ⟨?_,by simp⟩
  rw [List.all_cons,Zg];refine ⟨Qjt (by unfold behind;rw [h.1];simp),List.all_eq_true.2 fun x hx=>Qjt (List.all_eq_true.1 h.2 x hx)⟩
abbrev PT:=List UInt8→Option (List Node×List UInt8)
def Qmu (w:List UInt8):List Node→List Node
 | []=>[]
 | n::r=>⟨n.kind,w,n.n⟩::r
def Qmr (p:PT) (sep:List UInt8):Nat→List UInt8→Option (Nat×List Node×List UInt8)
 | 0,_=>none
 | k+1,s=>(p ((Qjl s).2.drop 2)).bind fun x =>
  match Qjn sep x.2 with
  | some r=>(Qmr p sep k r).map fun y=>(y.1+1,Qmu (Qjl s).1 x.1++y.2.1,y.2.2)
  | none=>some (1,Qmu (Qjl s).1 x.1,x.2)
def Qlf (n:Nat) (p:PT):PT
 | []=>none
 | c::r =>
  if c=63 then some ([⟨0,[],0⟩],r)
  else if c=105 then some ([⟨1,[],0⟩],r.drop 2)
  else if c=98 then some ([⟨2,[],0⟩],r.drop 3)
  else if c=115 then some ([⟨3,[],0⟩],r.drop 5)
  else if c=117 then some ([⟨4,[],0⟩],r.drop 3)
  else if c=40 then (p r).map fun x=>(x.1,x.2.drop 1)
  else if c=123 then if r.head?=some 125 then some ([⟨6,[],0⟩],r.drop 1) else (Qmr p [44,32] n r).map fun y=>(⟨6,[],y.1⟩::y.2.1,y.2.2.drop 1)
  else if c=91 then (Qmr p [32,124,32] n r).map fun y=>(⟨7,[],y.1⟩::y.2.1,y.2.2.drop 1)
  else none
def pT:Nat→PT
 | 0,_=>none
 | n+1,s=>(Qlf n (pT n) s).bind fun x =>
  match Qjn [32,45,62,32] x.2 with
  | some r=>(pT n r).map fun y=>(⟨5,[],0⟩::(x.1++y.1),y.2)
  | none=>some x
def Qlu (x:Rose Node):List Node:=Gz ⟨x.root.kind,[],x.root.n⟩::(ndss x.kids).map Gz
def Qkv (s:List UInt8):Prop:=Qjn [32,45,62,32] s=none
structure GT (x:Rose Node):Prop where
 wf:wf ar x
 ok:∀ p∈nds x,vH p
 lab:labT x=true
theorem Qlp:∀ (ks:List (Rose Node)),ks.length≤(ndss ks).length
 | []=>by simp
 | x::ks=>by
  have h1:=Qlp ks;have h2:=Ta x;rw [ndss,Zb,Zd];omega
theorem Ql5:∀ {ks:List (Rose Node)} {x:Rose Node},x∈ks→(nds x).length≤(ndss ks).length
 | y::ks,x,h=>by
  rw [ndss,Zb];rcases Z2.1 h with rfl|h
  ·omega
  ·have:=Ql5 h;omega
theorem Qle:∀ {ks:List (Rose Node)},labTs ks=true→∀ x∈ks,labT x=true
 | [],_,x,hx=>by cases hx
 | y::ks,h,x,hx=>by
  rw [labTs,Zg] at h;rcases Z2.1 hx with rfl|hx
  ·exact h.1
  ·exact Qle h.2 x hx
theorem Ql4:∀ {ks:List (Rose Node)} {x:Rose Node} {p:Node},x∈ks→p∈nds x→p∈ndss ks
 | y::ks,x,p,hx,hp=>by
  rw [ndss,List.mem_append];rcases Z2.1 hx with rfl|hx
  ·exact .inl hp
  ·exact .inr (Ql4 hx hp)
theorem Qlm {n:Node} {ks:List (Rose Node)} (h:GT (mk n ks)):∀ x∈ks,GT x:=by
 intro x hx;have hl:=h.lab;rw [labT,Zg] at hl;have hw:=Zvr.1 h.wf;exact ⟨Qlg hw.2 x hx,fun p hp=>h.ok p (by rw [Jt];exact List.mem_cons_of_mem _ (Ql4 hx hp)),Qle hl.2 x hx⟩
theorem Ql8 {n:Node} {ks:List (Rose Node)} (h:GT (mk n ks)):vH n:=h.ok n (by rw [Jt];simp)
theorem Qkj {n:Node} {ks:List (Rose Node)} (h:GT (mk n ks)):∀ x∈ks,(n.kind=6→Xt x.root.name=true)∧(n.kind=7→Ht x.root.name=true)∧(n.kind≠6→n.kind≠7→x.root.name=[]):=by
 intro x hx;have hk:vH x.root:=(Qlm h x hx).ok _ (by rw [E0];simp)
 have hl:=h.lab;rw [labT,Zg] at hl;unfold Zgg at hl;obtain ⟨j,hj,rfl⟩:=List.getElem_of_mem hx;have h1:=List.all_eq_true.1 hl.1 j (List.mem_range.2 hj);rw [Zk,Zh hj,Option.getD_some] at h1;unfold Ty.labK at h1;have h9:(ks[j].root.kind==9)=false:=by rw [Za];have:=hk.2.1;omega
 rw [h9,cond_false] at h1;simp only [Zg,Bool.not_eq_true',Bool.or_eq_false_iff,Bool.and_eq_false_iff,Za,Zi,Bool.not_eq_false'] at h1;obtain ⟨⟨h2,h3⟩,h4,_⟩:=h1;refine ⟨fun e=>?_,fun e=>?_,fun e6 e7=>?_⟩
 ·rcases h2 with h2|h2
  ·exact absurd e h2
  ·exact h2
 ·rcases h3 with h3|h3
  ·exact absurd e h3
  ·exact h3
 ·rcases h4 with h4|h4
  ·unfold bG at h4;simp [e6,e7] at h4
  ·exact h4
theorem Qky {k:Int} {w:List UInt8} {n:Int}:Gz ⟨k,w,n⟩=⟨k,w,if k=0 then 0 else n⟩:=by
 unfold Gz;split<;>simp_all
theorem Qll {x:Rose Node}:Qmu x.root.name (Qlu x)=(nds x).map Gz:=by
 obtain ⟨⟨k,w,n⟩,ks⟩:=x;rw [Jt,List.map_cons];unfold Qlu Qmu;simp only [Rose.root,Rose.kids,Qky]
theorem Ql0 {x:Rose Node} (h:x.root.name=[]):Qlu x=(nds x).map Gz:=by
 rw [←Qll,h];obtain ⟨⟨k,w,n⟩,ks⟩:=x;unfold Qlu Qmu;simp only [Rose.root,Rose.kids,Qky]
theorem Qlh {p:PT} {sep:List UInt8} {c:UInt8} {s:List UInt8} (hsep:sep≠[]) (U7:∀ r,Qkv (sep++r)) (kN:Qkv (c::s)) (Qgf:Qjn sep (c::s)=none) :
  ∀ (ks:List (Rose Node)) (k:Nat) (b:Bool),ks≠[]→ks.length≤k→(∀ x∈ks,x.root.name.all Qjo=true)→(∀ x∈ks,∀ s,Qkv s→p (prN x++s)=some (Qlu x,s)) →
   Qmr p sep k ((L4 sep true ((ks.map Rose.root).map (·.name)) (prNs ks))++c::s)=some (ks.length,(ndss ks).map Gz,c::s)
 | [],_,_,h,_,_,_=>absurd rfl h
 | x::ks,0,_,_,h,_,_=>by simp at h
 | x::ks,k+1,b,_,hk,hw,hp=>by
  have hx:=hp x (by simp)
  have Qnz:=hw x (by simp)
  rw [prNs,List.map_cons,List.map_cons,L4,if_pos rfl,List.nil_append,Qmr];cases ks with
  | nil =>
   have e1:Qjl (x.root.name++[58,32]++prN x++L4 sep false (([]:List (Rose Node)).map Rose.root |>.map (·.name)) (prNs [])++c::s)=(x.root.name,[58,32]++(prN x++c::s)):=by
    rw [show x.root.name++[58,32]++prN x++L4 sep false (([]:List (Rose Node)).map Rose.root |>.map (·.name)) (prNs [])++c::s=x.root.name++([58,32]++(prN x++c::s)) by simp [L4,prNs]]
    exact Qjk Qnz (fun a r e=>by cases e;rfl)
   rw [e1];show (p (prN x++c::s)).bind _=_;rw [hx _ kN,Option.bind_some];simp only [Qgf,Qll];simp [ndss]
  | cons y ks =>
   obtain ⟨R,hR⟩:=exq (L4 sep true (((y::ks).map Rose.root).map (·.name)) (prNs (y::ks)));have e0:L4 sep false (((y::ks).map Rose.root).map (·.name)) (prNs (y::ks))=sep++R:=by
    rw [←hR,prNs,List.map_cons,List.map_cons,L4,L4];simp
   have ih:=Qlh hsep U7 kN Qgf (y::ks) k b (by simp) (by simp at hk ⊢;omega) (fun z hz=>hw z (List.mem_cons_of_mem _ hz)) (fun z hz=>hp z (List.mem_cons_of_mem _ hz))
   rw [hR] at ih;rw [e0];have e1:Qjl (x.root.name++[58,32]++prN x++(sep++R)++c::s)=(x.root.name,[58,32]++(prN x++(sep++(R++c::s)))):=by
    rw [show x.root.name++[58,32]++prN x++(sep++R)++c::s=x.root.name++([58,32]++(prN x++(sep++(R++c::s)))) by simp]
    exact Qjk Qnz (fun a r e=>by cases e;rfl)
   rw [e1];show (p (prN x++(sep++(R++c::s)))).bind _=_;rw [hx _ (U7 _),Option.bind_some];simp only [Qjq,ih,Qll];simp [ndss]
theorem Qmh {n:Node} (h:vH n) (hk:n.kind≤4):Gz ⟨n.kind,[],n.n⟩=⟨n.kind,[],0⟩:=by
 have h1:=h.2.2;have h0:=h.1;unfold Va at h1;unfold Gz;simp only;split
 ·rfl
 ·rename_i hz;rw [if_neg (by omega),if_pos (by omega)] at h1
  rw [of_decide_eq_true h1]
mutual
theorem pT_ok:∀ (n:Nat) (x:Rose Node) (s:List UInt8),(nds x).length≤n→GT x→Qkv s→pT n (prN x++s)=some (Qlu x,s)
 | 0,x,s,hl,_,_=>by have:=Ta x;omega
 | n+1,mk p ks,s,hl,hg,hs=>by
  rw [Jt,Zd] at hl;by_cases h5:p.kind=5
  ·have hw:=Zvr.1 hg.wf;have h2:ks.length=2:=by have:=hw.1;rw [show (mk p ks).kids=ks from rfl,show (mk p ks).root=p from rfl,vZ h5] at this;exact this
   match ks,h2 with
   | [a,b],_ =>
    have ga:=Qlm hg a (by simp)
    have gb:=Qlm hg b (by simp)
    have la:=(Qkj hg a (by simp)).2.2 (by omega) (by omega)
    have lb:=(Qkj hg b (by simp)).2.2 (by omega) (by omega)
    simp only [ndss,List.append_nil,Zb] at hl;have ha:=Ta a;have hb:=Ta b;rw [mD h5];have Qgl:p.n=0:=by
     have h1:=(Ql8 hg).2.2;unfold Va at h1;rw [if_neg (by omega),if_pos (by omega)] at h1
     exact of_decide_eq_true h1
    have Ziq:Qlu (mk p [a,b])=⟨5,[],0⟩::(Qlu a++Qlu b):=by
     rw [Ql0 la,Ql0 lb];unfold Qlu Gz;simp [Rose.root,Rose.kids,h5,Qgl,ndss]
    have ihb:=pT_ok n b s (by omega) gb hs
    rw [Ziq,pT];by_cases ka:a.root.kind=5
    ·have iha:=pT_ok n a ([41]++([32,45,62,32]++(prN b++s))) (by omega) ga (by unfold Qkv Qjn;simp)
     have e1:El a.root.kind (prN a) (prN b)++s=40::(prN a++([41]++([32,45,62,32]++(prN b++s)))):=by unfold El;rw [if_pos ka];simp
     rw [e1,Qlf,if_neg (by decide),if_neg (by decide),if_neg (by decide),if_neg (by decide),if_neg (by decide),if_pos rfl,iha]
     simp only [Option.map_some,Option.bind_some];rw [show List.drop 1 ([41]++([32,45,62,32]++(prN b++s)))=[32,45,62,32]++(prN b++s) from rfl];simp only [Qjq,ihb,Option.map_some]
    ·have iha:=atom_ok n a ([32,45,62,32]++(prN b++s)) (by omega) ga ka
     have e1:El a.root.kind (prN a) (prN b)++s=prN a++([32,45,62,32]++(prN b++s)):=by unfold El;rw [if_neg ka];simp
     rw [e1,iha];simp only [Option.bind_some,Qjq,ihb,Option.map_some]
  ·have iha:=atom_ok n (mk p ks) s (by rw [Jt,Zd];omega) hg h5
   rw [pT,iha,Option.bind_some];simp only [show Qjn [32,45,62,32] s=none from hs]
theorem atom_ok:∀ (n:Nat) (x:Rose Node) (s:List UInt8),(nds x).length≤n+1→GT x→x.root.kind≠5→Qlf n (pT n) (prN x++s)=some (Qlu x,s)
 | n,mk p ks,s,hl,hg,h5=>by
  rw [Jt,Zd] at hl;have h5':p.kind≠5:=h5;have X5:=Ql8 hg;have hw:=Zvr.1 hg.wf;have Xs:ks.length=ar p:=hw.1;have Qn6:=Qlp ks;have kid:∀ x∈ks,∀ s,Qkv s→pT n (prN x++s)=some (Qlu x,s):=by
   intro x hx s hs;exact pT_ok n x s (by have:=Ql5 hx;omega) (Qlm hg x hx) hs
  rcases Int.lt_or_le 5 p.kind with h6|h6
  ·have aA:=pA X5 (by have:=X5.2.1;omega)
   have Qim:=Zhn (n:=p) (by have:=X5.2.1;omega)
   have hn:(ks.length:Int)=p.n:=by omega
   have Ziq:Qlu (mk p ks)=⟨p.kind,[],(ks.length:Int)⟩::(ndss ks).map Gz:=by
    unfold Qlu Gz;simp [Rose.root,Rose.kids,hn,show ¬ p.kind=0 by omega]
   by_cases k6:p.kind=6
   ·rw [Zac k6,Ziq,k6];by_cases h0:ks=[]
    ·subst h0;simp [gF,L4,prNs,Qlf,ndss]
    ·have hr:=Qlh (p:=pT n) (sep:=[44,32]) (c:=125) (s:=s) (by simp) (fun r=>rfl) rfl rfl ks n true h0 (by omega) (fun x hx=>(Qjm ((Qkj hg x hx).1 k6)).1) kid
     have e1:gF ⟨[123],[44,32],[125]⟩ ks++s=123::(L4 [44,32] true ((ks.map Rose.root).map (·.name)) (prNs ks)++125::s):=by simp [gF]
     have e2:(L4 [44,32] true ((ks.map Rose.root).map (·.name)) (prNs ks)++125::s).head?≠some 125:=by
      cases ks with
      | nil=>exact absurd rfl h0
      | cons x ks =>
       have hx:=(Qjm ((Qkj hg x (by simp)).1 k6))
       obtain ⟨w1,w2⟩:=hx;rw [prNs,List.map_cons,List.map_cons,L4,if_pos rfl];cases Ut:x.root.name with
       | nil=>exact absurd Ut w2
       | cons a r =>
        rw [Ut,List.all_cons,Zg] at w1;simp only [List.nil_append,List.cons_append,List.head?_cons,Zc];intro e;cases e;exact absurd w1.1 (by decide)
     rw [e1,Qlf,if_neg (by decide),if_neg (by decide),if_neg (by decide),if_neg (by decide),if_neg (by decide),if_neg (by decide),if_pos rfl,if_neg e2,hr]
     rfl
   ·have k7:p.kind=7:=by have:=X5.2.1;omega
    have h0:ks≠[]:=by
     rintro rfl;have h1:=X5.2.2;unfold Va at h1;rw [if_neg (by omega),if_neg (by omega),if_neg (by omega),if_pos k7,Zg] at h1
     have:=of_decide_eq_true h1.1;simp at hn;omega
    rw [Zab k7,Ziq,k7];have hr:=Qlh (p:=pT n) (sep:=[32,124,32]) (c:=93) (s:=s) (by simp) (fun r=>rfl) rfl rfl ks n true h0 (by omega) (fun x hx=>(Qke ((Qkj hg x hx).2.1 k7)).1) kid
    have e1:gF ⟨[91],[32,124,32],[93]⟩ ks++s=91::(L4 [32,124,32] true ((ks.map Rose.root).map (·.name)) (prNs ks)++93::s):=by simp [gF]
    rw [e1,Qlf,if_neg (by decide),if_neg (by decide),if_neg (by decide),if_neg (by decide),if_neg (by decide),if_neg (by decide),if_neg (by decide),if_pos rfl,hr]
    rfl
  ·have h4:p.kind≤4:=by omega
   have h0:ks=[]:=List.eq_nil_of_length_eq_zero (by rw [Xs,Zbg h4])
   subst h0;have Ziq:Qlu (mk p [])=[⟨p.kind,[],0⟩]:=by
    unfold Qlu;rw [show (mk p []).root=p from rfl,Qmh X5 h4];rfl
   rw [gN h4,Ziq];have hp:=X5.1;rcases (show p.kind=0∨p.kind=1∨p.kind=2∨p.kind=3∨p.kind=4 by omega) with h|h|h|h|h<;>rw [h]<;>rfl
end
open Go.Proofs Go.Rose Go.Rose.Rose Gr Lib
def Qka (c:UInt8):Bool:=Vq c 48 57
def Qmd (l:List UInt8):Nat:=l.foldl (fun a c=>a*10+(c.toNat-48)) 0
theorem Qmc {l:List UInt8} {c:UInt8}:Qmd (l++[c])=Qmd l*10+(c.toNat-48):=by simp [Qmd]
theorem Qne {n:Nat} (h:n<10):(UInt8.ofNat (48+n)).toNat=48+n:=by rw [UInt8.toNat_ofNat'];omega
theorem Qk4 {c:UInt8}:Qka c=true↔48≤c.toNat∧c.toNat≤57:=by
 unfold Qka Vq;rw [Zg,decide_eq_true_eq,decide_eq_true_eq,UInt8.le_iff_toNat_le,UInt8.le_iff_toNat_le];rfl
theorem Qj8 (u:Nat):Qmd (decDigits u)=u∧(decDigits u).all Qka=true∧decDigits u≠[]:=by
 induction u using Nat.strongRecOn with
 | _ u ih =>
  by_cases h:u<10
  ·rw [qB h];refine ⟨?_,?_,by simp⟩
   ·simp only [Qmd,List.foldl_cons,List.foldl_nil,Qne h];omega
   ·rw [List.all_cons,List.all_nil,Bool.and_true,Qk4,Qne h];omega
  ·obtain ⟨h1,h2,h3⟩:=ih (u / 10) (by omega)
   rw [uW h];refine ⟨?_,?_,by simp⟩
   ·rw [Qmc,h1,Qne (by omega)]
    omega
   ·rw [List.all_append,h2,Bool.true_and,List.all_cons,List.all_nil,Bool.and_true,Qk4,Qne (by omega)]
    omega
def Qkg (s:List UInt8):Prop:=∀ c r,s=c::r→Qjo c=false
theorem Qlr {c:UInt8} (h:Qka c=true):Qjo c=true:=Qjt (by unfold Qka at h;unfold behind;rw [h];simp)
def Qm9 (s:List UInt8):Nat×List UInt8:=(Qmd (s.takeWhile Qka),s.dropWhile Qka)
theorem Qmt {u:Nat} {s:List UInt8} (hs:Qkg s):Qm9 (decDigits u++s)=(u,s):=by
 obtain ⟨h1,h2,_⟩:=Qj8 u;have h3:∀ a∈decDigits u,Qka a=true:=List.all_eq_true.1 h2;have e0:∀ c r,s=c::r→Qka c=false:=by
  intro c r e;cases hd:Qka c with
  | false=>rfl
  | true=>have:=hs c r e;rw [Qlr hd] at this;cases this
 have e1:s.takeWhile Qka=[]:=by
  cases s with
  | nil=>rfl
  | cons c r=>rw [List.takeWhile_cons,e0 c r rfl];rfl
 have e2:s.dropWhile Qka=s:=by
  cases s with
  | nil=>rfl
  | cons c r=>rw [List.dropWhile_cons,e0 c r rfl];rfl
 unfold Qm9;rw [List.takeWhile_append_of_pos h3,List.dropWhile_append_of_pos h3,e1,e2,List.append_nil,h1]
def Ql3 (c:UInt8):Nat:=if c.toNat<58 then c.toNat-48 else c.toNat-87
theorem Qkt {n:Nat} (h:n<16):Ql3 (bI n)=n:=by
 have h1:∀ k:Fin 16,Ql3 (bI k.val)=k.val:=by decide
 exact h1 ⟨n,h⟩
def Qk6:Nat→List UInt8→Option (List UInt8×List UInt8)
 | 0,_=>none
 | _+1,[]=>none
 | k+1,c::r =>
  if c=34 then some ([],r)
  else if c=92 then
   if r.head?=some 120 then (Qk6 k (r.drop 3)).map fun y=>(UInt8.ofNat (Ql3 (r.getD 1 0)*16+Ql3 (r.getD 2 0))::y.1,y.2)
   else (Qk6 k (r.drop 1)).map fun y=>((if r.getD 0 0=110 then 10 else if r.getD 0 0=116 then 9 else r.getD 0 0)::y.1,y.2)
  else (Qk6 k r).map fun y=>(c::y.1,y.2)
theorem Qla {f:Nat} {X:List UInt8}:∀ (w:List UInt8),(∀ c∈w,c≠34∧c≠92)→Qk6 (f+w.length) (w++X)=(Qk6 f X).map fun y=>(w++y.1,y.2)
 | [],_=>by simp
 | c::w,h=>by
  obtain ⟨h1,h2⟩:=h c (by simp)
  show Qk6 (f+w.length+1) (c::(w++X))=_;rw [Qk6,if_neg h1,if_neg h2,Qla w (fun x hx=>h x (List.mem_cons_of_mem _ hx)),Option.map_map];rfl
theorem Qmk {l:List UInt8} (h:l≠[]):((decodeL l).2=1∧(decodeL l).1=(l.getD 0 0).toNat∧(decodeL l).1<128) ∨
  (2≤(decodeL l).2∧(decodeL l).2≤4∧128≤(decodeL l).1∧∀ i,i<(decodeL l).2→128≤(l.getD i 0).toNat)∨((decodeL l).2=1∧(decodeL l).1=65533):=by
 rw [decodeL_N];rcases decodeN_shape l.length (l.getD 0 0).toNat (l.getD 1 0).toNat (l.getD 2 0).toNat (l.getD 3 0).toNat with ⟨c,e⟩|⟨c1,c2,c3,cv,e⟩|⟨c1,c2,c3,c4,cv,cs,e⟩|⟨c1,c2,c3,c4,c5,cv,cw,e⟩|e
 ·rw [e];exact .inl ⟨rfl,rfl,c⟩
 ·rw [e];refine .inr (.inl ⟨by simp,by simp,by simp only;omega,fun i hi=>?_⟩)
  simp only at hi
  match i,hi with
  | 0,_=>omega
  | 1,_=>omega
 ·rw [e];refine .inr (.inl ⟨by simp,by simp,by simp only;omega,fun i hi=>?_⟩)
  simp only at hi
  match i,hi with
  | 0,_=>omega
  | 1,_=>omega
  | 2,_=>omega
 ·rw [e];refine .inr (.inl ⟨by simp,by simp,by simp only;omega,fun i hi=>?_⟩)
  simp only at hi
  match i,hi with
  | 0,_=>omega
  | 1,_=>omega
  | 2,_=>omega
  | 3,_=>omega
 ·rw [e];exact .inr (.inr ⟨rfl,rfl⟩)
theorem Qnr {l:List UInt8} (h:l≠[]):l.take 1=[l.getD 0 0]:=by
 cases l with
 | nil=>exact absurd rfl h
 | cons c r=>rfl
theorem Qkw {l:List UInt8} (h:l≠[]) (f:Nat) (X:List UInt8) :
  (decodeL l).2≤(Mp (decodeL l).1 (decodeL l).2 (l.getD 0 0)).length∧1≤(decodeL l).2∧(decodeL l).2≤l.length ∧
  Qk6 (f+(decodeL l).2) (Mp (decodeL l).1 (decodeL l).2 (l.getD 0 0)++X)=(Qk6 f X).map fun y=>(l.take (decodeL l).2++y.1,y.2):=by
 have M8:=decodeL_le l h;have Qjd:=encode_decode l h;have hc:=Qmk h;have V7:=(l.getD 0 0).toNat_lt;obtain ⟨r,hr⟩:=exq ((decodeL l).1);obtain ⟨n,hn⟩:=exq ((decodeL l).2);obtain ⟨c,Qc0⟩:=exq (l.getD 0 0);have Qge:=Qnr h;simp only [hr,hn,Qc0] at M8 Qjd hc Qge V7 ⊢;have Zxw:1≤n:=by rcases hc with ⟨h1,_⟩|⟨h1,_⟩|⟨h1,_⟩<;>omega
 have esc:∀ {d e:UInt8},n=1→d≠120→(if d=110 then (10:UInt8) else if d=116 then 9 else d)=c→Qk6 (f+n) ([92,d]++X)=(Qk6 f X).map fun y=>(l.take n++y.1,y.2):=by
  intro d e hn hd hv;subst hn;show Qk6 (f+1) (92::d::X)=_;rw [Qk6,if_neg (by decide),if_pos rfl,if_neg (by simp only [List.head?_cons,ne_eq,Zc];exact hd),Qge]
  simp only [List.drop_succ_cons,List.drop_zero,List.getD_cons_zero,hv];rfl
 have c_of:∀ {k:Nat},k<128→r=k→n=1∧c.toNat=k:=by
  intro k hk e;rcases hc with ⟨h1,h2,_⟩|⟨h1,_,h2,_⟩|⟨h1,h2⟩
  ·exact ⟨h1,by omega⟩
  ·omega
  ·omega
 unfold Mp;split
 ·rename_i e;obtain ⟨e1,e2⟩:=c_of (k:=92) (by omega) e
  have:c=92:=UInt8.toNat_inj.1 e2;exact ⟨by simp;omega,Zxw,M8,esc (e:=0) e1 (by decide) (by rw [this];rfl)⟩
 split
 ·rename_i _ e;obtain ⟨e1,e2⟩:=c_of (k:=34) (by omega) e
  have:c=34:=UInt8.toNat_inj.1 e2;exact ⟨by simp;omega,Zxw,M8,esc (e:=0) e1 (by decide) (by rw [this];rfl)⟩
 split
 ·rename_i _ _ e;obtain ⟨e1,e2⟩:=c_of (k:=10) (by omega) e
  have:c=10:=UInt8.toNat_inj.1 e2;exact ⟨by simp;omega,Zxw,M8,esc (e:=0) e1 (by decide) (by rw [this];rfl)⟩
 split
 ·rename_i _ _ _ e;obtain ⟨e1,e2⟩:=c_of (k:=9) (by omega) e
  have:c=9:=UInt8.toNat_inj.1 e2;exact ⟨by simp;omega,Zxw,M8,esc (e:=0) e1 (by decide) (by rw [this];rfl)⟩
 split
 ·rename_i zE Zvp _ _ e;have Qnw:n=1:=by
   rcases e with ⟨_,e⟩|e|e
   ·exact e
   ·exact (c_of (by omega) (rfl:r=r)).1
   ·exact (c_of (by omega) e).1
  subst Qnw;refine ⟨by simp,Zxw,M8,?_⟩
  show Qk6 (f+1) (92::120::bI (c.toNat / 16)::bI (c.toNat % 16)::X)=_;rw [Qk6,if_neg (by decide),if_pos rfl,if_pos (show (120::bI (c.toNat / 16)::bI (c.toNat % 16)::X).head?=some 120 from rfl),Qge]
  simp only [List.drop_succ_cons,List.drop_zero,List.getD_cons_zero,List.getD_cons_succ,Qkt (show c.toNat / 16<16 by omega),Qkt (show c.toNat % 16<16 by omega)]
  rw [show c.toNat / 16*16+c.toNat % 16=c.toNat by omega,UInt8.ofNat_toNat]
  rfl
 ·rename_i zE Zvp _ _ e;have hv:¬ (r=65533∧n=1):=fun h=>e (.inl h);rw [Qjd hv];have Z8:(l.take n).length=n:=by rw [List.length_take];omega
  refine ⟨by rw [Z8];exact Zl _,Zxw,M8,?_⟩
  have:=Qla (f:=f) (X:=X) (l.take n) ?_
  ·rw [Z8] at this;exact this
  ·intro x hx;obtain ⟨i,hi,rfl⟩:=List.getElem_of_mem hx;rw [List.getElem_take];have aL:i<n:=by omega
   have hg:l.getD i 0=l[i]'(by omega):=by simp [show i<l.length by omega]
   rcases hc with ⟨h1,h2,h3⟩|⟨_,_,_,h4⟩|h
   ·subst h1;obtain rfl:i=0:=by omega
    rw [←hg,Qc0];constructor
    ·rintro rfl;exact Zvp h2
    ·rintro rfl;exact zE h2
   ·have:=h4 i aL;rw [hg] at this;constructor
    ·intro e;rw [e] at this;exact absurd this (by decide)
    ·intro e;rw [e] at this;exact absurd this (by decide)
   ·exact absurd ⟨h.2,h.1⟩ hv
theorem Qlc:∀ (k:Nat) (l:List UInt8),l.length≤k→l.length+1≤(Ii k l).length∧∀ (j:Nat) (s:List UInt8),Qk6 (l.length+1+j) (Ii k l++s)=some (l,s)
 | 0,l,h=>by
  have:l=[]:=List.eq_nil_of_length_eq_zero (by omega)
  subst this;refine ⟨by simp [Ii],fun j s=>?_⟩
  show Qk6 (0+1+j) (34::s)=_;rw [show 0+1+j=j+1 by omega,Qk6,if_pos rfl]
 | k+1,l,h=>by
  by_cases h0:l=[]
  ·subst h0;refine ⟨by simp [Ii],fun j s=>?_⟩
   rw [Ii,if_pos rfl];show Qk6 (0+1+j) (34::s)=_;rw [show 0+1+j=j+1 by omega,Qk6,if_pos rfl]
  ·obtain ⟨b1,b2,b3,_⟩:=Qkw h0 0 [];obtain ⟨i1,i2⟩:=Qlc k (l.drop (decodeL l).2) (by rw [List.length_drop];omega)
   rw [List.length_drop] at i1 i2;rw [Ii,if_neg h0];refine ⟨by rw [Zb];omega,fun j s=>?_⟩
   obtain ⟨_,_,_,b4⟩:=Qkw h0 (l.length-(decodeL l).2+1+j) (Ii k (l.drop (decodeL l).2)++s);rw [List.append_assoc,show l.length+1+j=l.length-(decodeL l).2+1+j+(decodeL l).2 by omega,b4,i2,Option.map_some,List.take_append_drop]
theorem Qlv (l s:List UInt8):Qk6 ((Ii l.length l++s).length) (Ii l.length l++s)=some (l,s):=by
 obtain ⟨h1,h2⟩:=Qlc l.length l (Zl _);have h3:=h2 ((Ii l.length l++s).length-(l.length+1)) s;rw [show l.length+1+((Ii l.length l++s).length-(l.length+1))=(Ii l.length l++s).length by rw [Zb];omega] at h3
 exact h3
abbrev PE:=List UInt8→Option (List Part×List UInt8)
def Qkq (k:Int) (nm bd:List UInt8) (many:Int) (t u:List Node):Part:=⟨k,[],nm,bd,many,0,t,u⟩
def Qkd (nm:List UInt8) (num k:Int):Part:=⟨0,[],nm,[],0,num,[⟨k,[],0⟩],[]⟩
def Qno (w:List UInt8):List Part→List Part
 | []=>[]
 | n::r=>⟨n.kind,w,n.name,n.bind,n.many,n.num,n.t,n.u⟩::r
def Qkl (c:UInt8):Bool:=Qjo c||c==34||c==40||c==123||c==91
def Qmw (p:PE):Nat→List UInt8→Option (Nat×List Part×List UInt8)
 | 0,_=>none
 | k+1,s=>(p ((Qjl s).2.drop 3)).bind fun x =>
  match Qjn [44,32] x.2 with
  | some r=>(Qmw p k r).map fun y=>(y.1+1,Qno (Qjl s).1 x.1++y.2.1,y.2.2)
  | none=>some (1,Qno (Qjl s).1 x.1,x.2)
def Qmz (p:PE):Nat→List UInt8→Option (Nat×List Part×List UInt8)
 | 0,_=>none
 | k+1,s=>(p ((Qjl ((Qjl s).2.drop 1)).2.drop 4)).bind fun x =>
  match Qjn [32,124,32] x.2 with
  | some r=>(Qmz p k r).map fun y=>(y.1+1,⟨8,(Qjl s).1,[],(Qjl ((Qjl s).2.drop 1)).1,0,0,[],[]⟩::(x.1++y.2.1),y.2.2)
  | none=>some (1,⟨8,(Qjl s).1,[],(Qjl ((Qjl s).2.drop 1)).1,0,0,[],[]⟩::x.1,x.2)
def Qnj (p:PE) (s:List UInt8):Option (List Part×List UInt8) :=
 (pT 10000 ((Qjl s).2.drop 2)).bind fun t=>(p (t.2.drop 5)).map fun x=>(Qkq 2 [] (Qjl s).1 0 t.1 []::x.1,x.2.drop 1)
def Qnt (p:PE) (s:List UInt8):Option (List Part×List UInt8) :=
 (pT 10000 ((Qjl s).2.drop 2)).bind fun t=>(p (t.2.drop 3)).bind fun x=>(p (x.2.drop 4)).map fun y=>(Qkq 4 [] (Qjl s).1 0 t.1 []::(x.1++y.1),y.2.drop 1)
def Qns (p:PE) (s:List UInt8):Option (List Part×List UInt8) :=
 (pT 10000 ((Qjl ((Qjl s).2.drop 2)).2.drop 2)).bind fun t=>(pT 10000 (t.2.drop 3)).bind fun u=>(p (u.2.drop 3)).bind fun x=>(p (x.2.drop 4)).map fun y =>
  (Qkq 5 (Qjl s).1 (Qjl ((Qjl s).2.drop 2)).1 0 t.1 u.1::(x.1++y.1),y.2.drop 1)
def Qny (p:PE) (s:List UInt8):Option (List Part×List UInt8) :=
 (p s).bind fun x=>(p (x.2.drop 6)).bind fun y=>(p (y.2.drop 6)).map fun z=>(Qkq 6 [] [] 0 [] []::(x.1++(y.1++z.1)),z.2.drop 1)
def Qnk (n:Nat) (p:PE) (s:List UInt8):Option (List Part×List UInt8) :=
 (p s).bind fun x=>(Qmz p n (x.2.drop 4)).map fun y=>(Qkq 7 [] [] y.1 [] []::(x.1++y.2.1),y.2.2.drop 5)
def Qkh (c:UInt8):Bool:=c != 32
def Qm7 (p:PE) (s:List UInt8):Option (List Part×List UInt8) :=
 (p s).bind fun x =>
  if x.2.head?=some 58 then (pT 10000 (x.2.drop 2)).map fun t=>(Qkq 13 [] [] 0 t.1 []::x.1,t.2.drop 1)
  else if Qkl ((x.2.drop 1).getD 0 0)=true then (p (x.2.drop 1)).map fun y=>(Qkq 3 [] [] 0 [] []::(x.1++y.1),y.2.drop 1)
  else (p (((x.2.drop 1).dropWhile Qkh).drop 1)).map fun y=>(Qkq 9 ((x.2.drop 1).takeWhile Qkh) [] 0 [] []::(x.1++y.1),y.2.drop 1)
def Qk7 (n:Nat) (p:PE) (r:List UInt8):Option (List Part×List UInt8) :=
 if r.head?=some 41 then some ([Qkd [] 0 4],r.drop 1)
 else match Qjn [102,117,110,32,40] r with
 | some s=>Qnj p s
 | none=>match Qjn [108,101,116,32] r with
 | some s=>Qnt p s
 | none=>match Qjn [114,101,99,32] r with
 | some s=>Qns p s
 | none=>match Qjn [105,102,32] r with
 | some s=>Qny p s
 | none=>match Qjn [99,97,115,101,32] r with
 | some s=>Qnk n p s
 | none=>Qm7 p r
def Qjp (n:Nat) (p:PE):PE
 | []=>none
 | c::r =>
  if c=123 then
   if r.head?=some 125 then some ([Qkq 10 [] [] 0 [] []],r.drop 1)
   else (Qmw p n r).map fun y=>(Qkq 10 [] [] y.1 [] []::y.2.1,y.2.2.drop 1)
  else if c=91 then (p ((Qjl r).2.drop 3)).bind fun x=>(pT 10000 (x.2.drop 2)).map fun t=>(Qkq 12 (Qjl r).1 [] 0 t.1 []::x.1,t.2.drop 1)
  else if c=34 then (Qk6 r.length r).map fun y=>([Qkd y.1 0 3],y.2)
  else if c=40 then Qk7 n p r
  else if Qka c=true then some ([Qkd [] (Qm9 (c::r)).1 1],(Qm9 (c::r)).2)
  else if (Qjl (c::r)).1=[116,114,117,101] then some ([Qkd [] 1 2],(Qjl (c::r)).2)
  else if (Qjl (c::r)).1=[102,97,108,115,101] then some ([Qkd [] 0 2],(Qjl (c::r)).2)
  else some ([Qkq 1 (Qjl (c::r)).1 [] 0 [] []],(Qjl (c::r)).2)
def Qlt:Nat→List Part→List UInt8→List Part×List UInt8
 | 0,L,s=>(L,s)
 | k+1,L,s=>if s.head?=some 46 then Qlt k (Qkq 11 (Qjl (s.drop 1)).1 [] 0 [] []::L) (Qjl (s.drop 1)).2 else (L,s)
def pE:Nat→PE
 | 0,_=>none
 | n+1,s=>(Qjp n (pE n) s).map fun x=>Qlt n x.1 x.2
def Qj7 (s:List UInt8):Prop:=∀ c r,s=c::r→Qjo c=false∧c≠46
theorem Qj7.w {s:List UInt8} (h:Qj7 s):Qkg s:=fun c r e=>(h c r e).1
theorem pG {c:UInt8} {r:List UInt8} (h1:Qjo c=false) (h2:c≠46):Qj7 (c::r):=fun a b e=>by cases e;exact ⟨h1,h2⟩
theorem Qjw {c:UInt8} {r:List UInt8} (h1:Qjo c=false):Qkg (c::r):=fun a b e=>by cases e;exact h1
theorem Qmx:∀ {j:Nat} {L:List Part} {s:List UInt8},Qj7 s→Qlt j L s=(L,s)
 | 0,_,_,_=>rfl
 | j+1,L,[],_=>by simp [Qlt]
 | j+1,L,c::r,h=>by
  rw [Qlt,if_neg];rw [List.head?_cons,Zc];exact (h c r rfl).2
theorem Qjy {w k X:List UInt8} (hw:w.all Qjo=true) (h:(Qjl X).1≠w):Qjn (w++32::k) X=none:=by
 unfold Qjn;rw [if_neg];intro hp;obtain ⟨t,rfl⟩:=List.isPrefixOf_iff_prefix.1 hp;apply h;rw [List.append_assoc,Qjk hw (fun c r e=>by cases e;rfl)]
structure GE (x:Rose Part):Prop where
 wf:wf Xj x
 uses:Em (nds x)
 lab:labT5 x=true
 plain:∀ p∈nds x,p.kind≠14∧(p.kind=1→Qj9 p.name=false)
theorem Qki:∀ {ks:List (Rose Part)} {x:Rose Part},x∈ks→(nds x).length≤(ndss ks).length
 | y::ks,x,h=>by
  rw [ndss,Zb];rcases Z2.1 h with rfl|h
  ·omega
  ·have:=Qki h;omega
theorem Qlj:∀ (ks:List (Rose Part)),ks.length≤(ndss ks).length
 | []=>by simp
 | x::ks=>by
  have h1:=Qlj ks;have h2:=Ta x;rw [ndss,Zb,Zd];omega
theorem Qk1:∀ {ks:List (Rose Part)} {x:Rose Part} {p:Part},x∈ks→p∈nds x→p∈ndss ks
 | y::ks,x,p,hx,hp=>by
  rw [ndss,List.mem_append];rcases Z2.1 hx with rfl|hx
  ·exact .inl hp
  ·exact .inr (Qk1 hx hp)
theorem Qk3:∀ {ks:List (Rose Part)},labTs5 ks=true→∀ x∈ks,labT5 x=true
 | [],_,x,hx=>by cases hx
 | y::ks,h,x,hx=>by
  rw [labTs5,Zg] at h;rcases Z2.1 hx with rfl|hx
  ·exact h.1
  ·exact Qk3 h.2 x hx
theorem Qkp {p:Part} {ks:List (Rose Part)} (h:GE (mk p ks)):∀ x∈ks,GE x:=by
 intro x hx;have hl:=h.lab;rw [labT5,Zg] at hl;have hw:=Zvr.1 h.wf;exact ⟨Qlg hw.2 x hx,fun p hp=>h.uses p (by rw [Jt];exact List.mem_cons_of_mem _ (Qk1 hx hp)),Qk3 hl.2 x hx,fun p hp=>h.plain p (by rw [Jt];exact List.mem_cons_of_mem _ (Qk1 hx hp))⟩
theorem Qju {p:Part} {ks:List (Rose Part)} (h:GE (mk p ks)):U8 p=true:=h.uses p (by rw [Jt];simp)
theorem Qko {p:Part} {ks:List (Rose Part)} (h:GE (mk p ks)):ks.length=Xj p:=(Zvr.1 h.wf).1
theorem Qlz {p:Part} {ks:List (Rose Part)} (h:GE (mk p ks)):∀ (j:Nat) (hj:j<ks.length),
  ((p.kind≠7∨j=0)→ks[j].root.kind≠8∧(p.kind=10→Xt ks[j].root.label=true)∧(p.kind≠10→ks[j].root.label=[])) ∧
  (p.kind=7→0<j→ks[j].root.kind=8∧Ht ks[j].root.label=true):=by
 intro j hj;have hl:=h.lab;rw [labT5,Zg] at hl;unfold iF at hl;have h1:=List.all_eq_true.1 hl.1 j (List.mem_range.2 hj);rw [Zg] at h1;have h2:=h1.1;have hk:bF ks j=ks[j].root:=by unfold bF;simp [hj]
 rw [hk] at h2;unfold Ro at h2;rw [Zg,Zi] at h2;obtain ⟨h3,h4⟩:=h2;refine ⟨fun e=>?_,fun e7 e0=>?_⟩
 ·have hb:((p.kind==7)&&Jw 0 (j:Int))=false:=by
   rcases e with e|e
   ·rw [Za.2 e];rfl
   ·subst e;have:Jw 0 ((0:Nat):Int)=false:=by rw [Jj];omega
    rw [this,Bool.and_false]
  rw [hb] at h3 h4;rw [Za] at h3;refine ⟨h3,fun e10=>?_,fun e10=>?_⟩
  ·rw [Zi.2 e10] at h4;simpa using h4
  ·rw [Za.2 e10] at h4;simpa using h4
 ·have hb:((p.kind==7)&&Jw 0 (j:Int))=true:=by
   rw [Zi.2 e7,Bool.true_and];rw [Je];omega
  rw [hb] at h3 h4;rw [Zi] at h3;refine ⟨h3,?_⟩;have:(p.kind==10)=false:=by rw [Za];omega
  rw [this] at h4;simpa using h4
noncomputable def Qjz (x:Rose Part):List UInt8:=Q5 x.root (prTs x.kids)
def Qkz (p:Part):Part:=⟨p.kind,[],p.name,p.bind,p.many,p.num,p.t,p.u⟩
def Qk5 (x:Rose Part):List Part:=Vc (Qkz x.root)::(ndss x.kids).map Vc
theorem Qli {x:Rose Part} (h:x.root.label≠[]) (h8:x.root.kind≠8):prT x=x.root.label++[32,61,32]++Qjz x:=by
 obtain ⟨p,ks⟩:=x;rw [prT];unfold kU Qjz;simp only [Rose.root,Rose.kids] at h h8 ⊢;rw [if_neg (by rintro (e|e);exact h e;exact h8 e)]
theorem Qj4 {x:Rose Part} (h:x.root.label=[]∨x.root.kind=8):prT x=Qjz x:=by
 obtain ⟨p,ks⟩:=x;rw [prT];unfold kU Qjz;simp only [Rose.root,Rose.kids] at h ⊢;rw [if_pos h,List.nil_append]
theorem Qlk {x:Rose Part}:Qno x.root.label (Qk5 x)=(nds x).map Vc:=by
 obtain ⟨⟨k,l,a,b,m,n,t,u⟩,ks⟩:=x;rw [Jt,List.map_cons];rfl
theorem Qks {x:Rose Part} (h:x.root.label=[]):Qk5 x=(nds x).map Vc:=by
 rw [←Qlk,h];rfl
theorem Qjx {p:Part} {ks:List (Rose Part)}:Qk5 (mk p ks)=Vc (Qkz p)::(ndss ks).map Vc:=rfl
theorem Qjr {p:Part} {ks:List (Rose Part)}:Qjz (mk p ks)=Q5 p (prTs ks):=rfl
theorem Qj3 {t:List Node} (h:Ga t=true):eE t≠[]∧∀ s,Qkv s→pT 10000 (eE t++s)=some (t.map Gz,s):=by
 unfold Ga at h;rw [Zg] at h;obtain ⟨x,rfl,hx⟩:=Ie h.1;have hp:∀ n∈nds x,n.kind≠8∧n.kind≠9:=by
  intro n hm;have:=List.all_eq_true.1 h.2 n hm;rw [Zg,bne_iff_ne,bne_iff_ne] at this;exact this
 rw [oO hx.wf];refine ⟨Zfl x,fun s hs=>?_⟩;rw [pT_ok 10000 x s hx.len ⟨hx.wf,fun p hm=>Zfm (hx.numb p hm) (hp p hm),hx.lab⟩ hs,Ql0 hx.name]
theorem Qk0 {w:List UInt8} (h:Cu w=true):w.all Qjo=true∧∃ c r,w=c::r∧Vq c 97 122=true:=by
 have first:∀ {v:List UInt8},Xt v=true→∃ c r,v=c::r∧Vq c 97 122=true:=by
  intro v hv;cases v with
  | nil=>cases hv
  | cons c r=>unfold Xt at hv;rw [Zg] at hv;exact ⟨c,r,rfl,hv.1⟩
 unfold Cu at h;split at h
 ·rename_i k hk;rw [Zg] at h;have eC:∀ {s:List UInt8} {k:Nat},Eg s=some k→s=s.take k++33::s.drop (k+1):=by
   intro s
   induction s with
   | nil=>intro k e;cases e
   | cons c r ih =>
    intro k e;unfold Eg at e;split at e
    ·cases e;rename_i hc;subst hc;rfl
    ·obtain ⟨j,hj,rfl⟩:=Option.map_eq_some_iff.1 e;have:=ih hj;rw [List.take_succ_cons,List.drop_succ_cons,List.cons_append,←this]
  have e:=eC hk;obtain ⟨c,r,Qmo,hc⟩:=first h.1
  refine ⟨?_,c,r++33::w.drop (k+1),by rw [←List.cons_append,←Qmo];exact e,hc⟩
  rw [e,List.all_append,(Qjm h.1).1,List.all_cons,(Qjm h.2).1];rfl
 ·exact ⟨(Qjm h).1,first h⟩
def Ql2 (n:Nat):Prop:=∀ z:Rose Part,(nds z).length≤n→GE z→z.root.kind≠8→∀ s,Qj7 s→pE n (Qjz z++s)=some (Qk5 z,s)
theorem Qlq {n:Nat} (ih:Ql2 n) {z:Rose Part} (hl:(nds z).length≤n) (hg:GE z) (h8:z.root.kind≠8) (Ug:z.root.label=[]) {s:List UInt8} (hs:Qj7 s) :
  pE n (prT z++s)=some ((nds z).map Vc,s):=by rw [Qj4 (.inl Ug),ih z hl hg h8 s hs,Qks Ug]
theorem Qlb {sep:List UInt8} {y:Rose Part} {ks:List (Rose Part)}:W8 sep false (prTs (y::ks))=sep++W8 sep true (prTs (y::ks)):=by
 rw [prTs,W8,W8];simp
theorem Ql9 {p:PE} {s:List UInt8}:∀ (ks:List (Rose Part)) (k:Nat),ks≠[]→ks.length≤k →
  (∀ x∈ks,x.root.label.all Qjo=true∧x.root.label≠[]∧x.root.kind≠8∧∀ s,Qj7 s→p (Qjz x++s)=some (Qk5 x,s)) →
  Qmw p k (W8 [44,32] true (prTs ks)++125::s)=some (ks.length,(ndss ks).map Vc,125::s)
 | [],_,h,_,_=>absurd rfl h
 | x::ks,0,_,h,_=>by simp at h
 | x::ks,k+1,_,hk,hp=>by
  obtain ⟨hw,hn,h8,hx⟩:=hp x (by simp)
  cases ks with
  | nil =>
   have e0:W8 [44,32] true (prTs [x])++125::s=x.root.label++([32,61,32]++(Qjz x++125::s)):=by
    rw [prTs,prTs,W8,W8,Qli hn h8];simp
   rw [e0,Qmw,Qjk hw (fun c r e=>by cases e;rfl)]
   show (p (Qjz x++125::s)).bind _=_;rw [hx _ (pG rfl (by decide)),Option.bind_some]
   simp only [show Qjn [44,32] (125::s)=none from rfl,Qlk];simp [ndss]
  | cons y ks =>
   obtain ⟨R,hR⟩:=exq (W8 [44,32] true (prTs (y::ks)));have e0:W8 [44,32] true (prTs (x::y::ks))++125::s=x.root.label++([32,61,32]++(Qjz x++([44,32]++(R++125::s)))):=by
    rw [prTs,W8,Qlb,hR,Qli hn h8];simp
   have ih:=Ql9 (s:=s) (y::ks) k (by simp) (by simp at hk ⊢;omega) (fun z hz=>hp z (List.mem_cons_of_mem _ hz))
   rw [hR] at ih;rw [e0,Qmw,Qjk hw (fun c r e=>by cases e;rfl)]
   show (p (Qjz x++([44,32]++(R++125::s)))).bind _=_;rw [hx ([44,32]++(R++125::s)) (pG (c:=44) (r:=32::(R++125::s)) rfl (by decide)),Option.bind_some]
   simp only [Qjq,ih,Qlk];simp [ndss]
structure Br (p:PE) (x:Rose Part):Prop where
 at_:∃ q e,x=mk q [e]∧prT x=q.label++([32]++(q.bind++([32,45,62,32]++prT e)))∧q.label.all Qjo=true∧q.bind.all Qjo=true ∧
  (nds x).map Vc=⟨8,q.label,[],q.bind,0,0,[],[]⟩::(nds e).map Vc∧∀ s,Qj7 s→p (prT e++s)=some ((nds e).map Vc,s)
theorem Qmb {p:PE} {s:List UInt8}:∀ (ks:List (Rose Part)) (k:Nat),ks≠[]→ks.length≤k→(∀ x∈ks,Br p x) →
  Qmz p k (W8 [32,124,32] true (prTs ks)++32::101::s)=some (ks.length,(ndss ks).map Vc,32::101::s)
 | [],_,h,_,_=>absurd rfl h
 | x::ks,0,_,h,_=>by simp at h
 | x::ks,k+1,_,hk,hp=>by
  obtain ⟨q,e,rfl,Qbj,hw,hb,hn,hx⟩:=(hp x (by simp)).at_
  cases ks with
  | nil =>
   have e0:W8 [32,124,32] true (prTs [mk q [e]])++32::101::s=q.label++([32]++(q.bind++([32,45,62,32]++(prT e++32::101::s)))):=by
    rw [prTs,prTs,W8,W8,Qbj];simp
   rw [e0,Qmz,Qjk hw (fun c r e=>by cases e;rfl)]
   simp only;rw [show List.drop 1 ([32]++(q.bind++([32,45,62,32]++(prT e++32::101::s))))=q.bind++([32,45,62,32]++(prT e++32::101::s)) from rfl,Qjk hb (fun c r e=>by cases e;rfl)]
   show (p (prT e++32::101::s)).bind _=_;rw [hx _ (pG rfl (by decide)),Option.bind_some]
   simp only [show Qjn [32,124,32] (32::101::s)=none from rfl];rw [ndss,List.map_append,hn];simp [ndss]
  | cons y ks =>
   obtain ⟨R,hR⟩:=exq (W8 [32,124,32] true (prTs (y::ks)));have e0:W8 [32,124,32] true (prTs (mk q [e]::y::ks))++32::101::s=q.label++([32]++(q.bind++([32,45,62,32]++(prT e++([32,124,32]++(R++32::101::s)))))):=by
    rw [prTs,W8,Qlb,hR,Qbj];simp
   have ih:=Qmb (s:=s) (y::ks) k (by simp) (by simp at hk ⊢;omega) (fun z hz=>hp z (List.mem_cons_of_mem _ hz))
   rw [hR] at ih;rw [e0,Qmz,Qjk hw (fun c r e=>by cases e;rfl)]
   simp only;rw [show List.drop 1 ([32]++(q.bind++([32,45,62,32]++(prT e++([32,124,32]++(R++32::101::s))))))=q.bind++([32,45,62,32]++(prT e++([32,124,32]++(R++32::101::s)))) from rfl,Qjk hb (fun c r e=>by cases e;rfl)]
   show (p (prT e++([32,124,32]++(R++32::101::s)))).bind _=_;rw [hx ([32,124,32]++(R++32::101::s)) (pG (c:=32) (r:=124::32::(R++32::101::s)) rfl (by decide)),Option.bind_some]
   simp only [Qjq,ih];have e9:(ndss (mk q [e]::y::ks)).map Vc=⟨8,q.label,[],q.bind,0,0,[],[]⟩::((nds e).map Vc++(ndss (y::ks)).map Vc):=by
    rw [show ndss (mk q [e]::y::ks)=nds (mk q [e])++ndss (y::ks) from by rw [ndss],List.map_append,hn]
    rfl
   rw [e9];simp
theorem Qk9 {p:Part} (h:U8 p=true):0≤p.kind∧p.kind≤14:=by
 refine Decidable.byContradiction fun hk=>?_;have h0:p.kind≠0:=by omega
 have h1:p.kind≠1:=by omega
 have h2:p.kind≠2:=by omega
 have h3:p.kind≠3:=by omega
 have h4:p.kind≠4:=by omega
 have h5:p.kind≠5:=by omega
 have h6:p.kind≠6:=by omega
 have h7:p.kind≠7:=by omega
 have h8:p.kind≠8:=by omega
 have h9:p.kind≠9:=by omega
 have Bf:p.kind≠10:=by omega
 have Qi3:p.kind≠11:=by omega
 have Qi2:p.kind≠12:=by omega
 have Qi1:p.kind≠13:=by omega
 have Qi0:p.kind≠14:=by omega
 unfold U8 Xb at h;simp [h0,h1,h2,h3,h4,h5,h6,h7,h8,h9,Bf,Qi3,Qi2,Qi1,Qi0] at h
def Qnp:List (List UInt8):=[[102,117,110],[108,101,116],[114,101,99],[105,102],[99,97,115,101]]
def HX (X:List UInt8):Prop:=(∃ c r,X=c::r∧Qkl c=true∧c≠41)∧(Qjl X).1∉Qnp
theorem Qmv {c:UInt8} {r:List UInt8} (h1:Qkl c=true) (h2:Qjo c=false) (h3:c≠41):HX (c::r):=by
 refine ⟨⟨c,r,rfl,h1,h3⟩,?_⟩;unfold Qjl;rw [List.takeWhile_cons,h2];exact (by decide:([]:List UInt8)∉Qnp)
theorem Qnd {w s:List UInt8} (h:w.all Qjo=true) (hw:w≠[]) (hk:w∉Qnp) (hs:Qkg s):HX (w++s):=by
 refine ⟨?_,by rw [Qjk h hs];exact hk⟩
 cases w with
 | nil=>exact absurd rfl hw
 | cons c r =>
  rw [List.all_cons,Zg] at h;refine ⟨c,r++s,rfl,by unfold Qkl;rw [h.1];rfl,?_⟩
  rintro rfl;exact absurd h.1 (by decide)
theorem Qnu {w:List UInt8} (h:Qj9 w=false):w∉Qnp:=by
 intro hm;have:∀ v∈Qnp,Qj9 v=true:=by decide
 rw [this w hm] at h;cases h
theorem Qld {p:Part} {ks:List (Rose Part)} (hg:GE (mk p ks)) (h0:p.kind=0) :
  (∃ u:Nat,Vc (Qkz p)=Qkd [] u 1∧D2 p=Lib.decDigits u)∨(Vc (Qkz p)=Qkd [] 1 2∧D2 p=[116,114,117,101])∨(Vc (Qkz p)=Qkd [] 0 2∧D2 p=[102,97,108,115,101]) ∨
  (Vc (Qkz p)=Qkd p.name 0 3∧D2 p=34::Ii p.name.length p.name)∨(Vc (Qkz p)=Qkd [] 0 4∧D2 p=[40,41]):=by
 have hu:=Qju hg;obtain ⟨k,lb,nm,bd,mn,nu,t,u⟩:=p;simp only at h0;subst h0;unfold U8 Xb at hu;simp only [Zg,Zi,ne_eq,not_true_eq_false,false_and,if_false,if_true] at hu;obtain ⟨⟨⟨rfl,rfl⟩,Zkh⟩,Qkb⟩:=hu;have Qn2:u=[]:=List.eq_nil_of_length_eq_zero (by omega)
 subst Qn2;unfold Vv Qk8 at Qkb;split at Qkb
 ·cases Qkb
 ·rename_i hc;simp only [not_or,Decidable.not_not] at hc;obtain ⟨h1,h2,h3,h4,h5⟩:=hc
  match t,h1 with
  | [⟨a,b,c⟩],_ =>
   simp only [List.getD_cons_zero] at h2 h3 Qkb;subst h2 h3;unfold D2;simp only [List.getD_cons_zero];split at Qkb
   ·rename_i e;subst e;rw [Zi] at Qkb;subst Qkb;refine .inl ⟨nu.toNat,?_,?_⟩
    ·unfold Vc Qkz Qkd;simp [Qky];omega
    ·rw [if_pos rfl,Zam (by omega)]
   split at Qkb
   ·rename_i _ e;subst e;rw [Zg,Zi,Je] at Qkb;obtain ⟨rfl,h6⟩:=Qkb;rcases (show nu=1∨nu=0 by omega) with rfl|rfl
    ·exact .inr (.inl ⟨by unfold Vc Qkz Qkd;simp [Qky],rfl⟩)
    ·exact .inr (.inr (.inl ⟨by unfold Vc Qkz Qkd;simp [Qky],rfl⟩))
   split at Qkb
   ·rename_i _ _ e;subst e;rw [Zi] at Qkb;subst Qkb;exact .inr (.inr (.inr (.inl ⟨by unfold Vc Qkz Qkd;simp [Qky],rfl⟩)))
   split at Qkb
   ·rename_i _ _ _ e;subst e;rw [Zg,Zi,Zi] at Qkb;obtain ⟨rfl,rfl⟩:=Qkb;exact .inr (.inr (.inr (.inr ⟨by unfold Vc Qkz Qkd;simp [Qky],rfl⟩)))
   ·cases Qkb
theorem Qnq (u:Nat):Lib.decDigits u∉Qnp:=by
 intro hm;have:=(Qj8 u).2.1;have h2:∀ v∈Qnp,v.all Qka=false:=by decide
 rw [h2 _ hm] at this;cases this
theorem Qmy (u:Nat):(Lib.decDigits u).all Qjo=true:=List.all_eq_true.2 fun c hc=>Qlr (List.all_eq_true.1 (Qj8 u).2.1 c hc)
theorem Qkk {p:Part} {ks:List (Rose Part)} (hg:GE (mk p ks)) (h7:p.kind≠7) (Bf:p.kind≠10):∀ x∈ks,x.root.kind≠8∧x.root.label=[]:=by
 intro x hx;obtain ⟨j,hj,rfl⟩:=List.getElem_of_mem hx;obtain ⟨h1,_,h2⟩:=(Qlz hg j hj).1 (.inl h7);exact ⟨h1,h2 Bf⟩
theorem Qnm {α:Type}:∀ {l:List α},l.length=1→∃ a,l=[a]
 | [a],_=>⟨a,rfl⟩
theorem Qnl {α:Type}:∀ {l:List α},l.length=2→∃ a b,l=[a,b]
 | [a,b],_=>⟨a,b,rfl⟩
theorem Qmq {α:Type}:∀ {l:List α},l.length=3→∃ a b c,l=[a,b,c]
 | [a,b,c],_=>⟨a,b,c,rfl⟩
theorem Qmj {p:Part} {ks:List (Rose Part)} (hg:GE (mk p ks)) (h:p.kind=2∨p.kind=8∨p.kind=11∨p.kind=12∨p.kind=13):∃ a,ks=[a]:=by
 refine Qnm ?_;rw [Qko hg];unfold Xj Qu;rw [if_pos (by omega)]
 rfl
theorem Qnc {p:Part} {ks:List (Rose Part)} (hg:GE (mk p ks)) (h:p.kind=3∨p.kind=4∨p.kind=5∨p.kind=9):∃ a b,ks=[a,b]:=by
 refine Qnl ?_;rw [Qko hg];unfold Xj Qu;rw [if_neg (by omega),if_pos (by omega)]
 rfl
theorem Qnx {p:Part} {ks:List (Rose Part)} (hg:GE (mk p ks)) (h:p.kind=6):∃ a b c,ks=[a,b,c]:=by
 refine Qmq ?_;rw [Qko hg];unfold Xj Qu;rw [if_neg (by omega),if_neg (by omega),if_pos h]
 rfl
theorem Qnn {p:Part} {ks:List (Rose Part)} (hg:GE (mk p ks)) (h:p.kind=0∨p.kind=1):ks=[]:=by
 refine List.eq_nil_of_length_eq_zero ?_;rw [Qko hg];unfold Xj Qu;rw [if_neg (by omega),if_neg (by omega),if_neg (by omega),if_neg (by omega),if_neg (by omega)]
 rfl
theorem Ql7:∀ (m:Nat) (x:Rose Part),(nds x).length≤m→GE x→x.root.kind≠8→∀ s,Qkg s→HX (Qjz x++s)
 | 0,x,hl,_,_,_,_=>by have:=Ta x;omega
 | m+1,mk p ks,hl,hg,h8,s,hs=>by
  have h8':p.kind≠8:=h8;have hk:=Qk9 (Qju hg);have Qi0:=(hg.plain p (by rw [Jt];simp)).1
  have hu:=Qju hg;have Qn5:(∃ r,Qjz (mk p ks)=40::r)→HX (Qjz (mk p ks)++s):=by
   rintro ⟨r,e⟩;rw [e];exact Qmv rfl rfl (by decide)
  rcases (show p.kind=0∨p.kind=1∨p.kind=2∨p.kind=3∨p.kind=4∨p.kind=5∨p.kind=6∨p.kind=7∨p.kind=9∨p.kind=10∨p.kind=11∨p.kind=12∨p.kind=13 by omega) with h|h|h|h|h|h|h|h|h|h|h|h|h
  ·have e:Qjz (mk p ks)=D2 p:=by rw [Qjr];unfold Q5;rw [if_pos h]
   rcases Qld hg h with ⟨u,_,e2⟩|⟨_,e2⟩|⟨_,e2⟩|⟨_,e2⟩|⟨_,e2⟩
   ·rw [e,e2];exact Qnd (Qmy u) (Qj8 u).2.2 (Qnq u) hs
   ·rw [e,e2];exact Qnd (by decide) (by decide) (by decide) hs
   ·rw [e,e2];exact Qnd (by decide) (by decide) (by decide) hs
   ·rw [e,e2];exact Qmv rfl rfl (by decide)
   ·rw [e,e2];exact Qmv rfl rfl (by decide)
  ·have e:Qjz (mk p ks)=p.name:=by
    rw [Qjr];unfold Q5 Xz;rw [if_neg (by omega),if_neg (by omega),if_neg (by omega),if_pos h]
    by_cases hn:p.name=[]
    ·rw [hn];have hz:ks=[]:=Qnn hg (.inr h);subst hz;rfl
    ·rw [Ai hn,Jf,List.append_nil]
   have Zx0:=(hg.plain p (by rw [Jt];simp)).2 h
   unfold U8 Xb at hu;rw [if_neg (by have:=Decidable.em (p.num=0);intro hc;obtain ⟨_,_,hc⟩:=hc;simp [h,hc] at hu),if_neg (by omega),if_pos h,Zg] at hu
   obtain ⟨hw,c,r,Qmo,_⟩:=Qk0 hu.2;rw [e];exact Qnd hw (by rw [Qmo];simp) (Qnu Zx0) hs
  all_goals try (refine Qn5 ?_;obtain ⟨k,lb,nm,bd,mn,nu,t,u⟩:=p;simp only at h;subst h;exact ⟨_,rfl⟩)
  ·obtain ⟨k,lb,nm,bd,mn,nu,t,u⟩:=p;simp only at h;subst h;exact Qmv (c:=123) rfl rfl (by decide)
  ·obtain ⟨a,rfl⟩:=Qmj hg (.inr (.inr (.inl h)));obtain ⟨ka,la⟩:=Qkk hg (by omega) (by omega) a (by simp)
   rw [Jt,Zd] at hl;simp only [ndss,List.append_nil] at hl;have hn:p.name≠[]:=by
    unfold U8 Xb at hu;obtain ⟨k,lb,nm,bd,mn,nu,t,u⟩:=p;simp only at h;subst h;simp at hu;exact (Qjm hu.2.1.1.1).2
   have e:Qjz (mk p [a])++s=Qjz a++(46::(p.name++s)):=by
    obtain ⟨k,lb,nm,bd,mn,nu,t,u⟩:=p;simp only at h hn;subst h;rw [Qjr,prTs,prTs,Qj4 (.inl la)];simp [Q5,Xz,Jf,hn]
   rw [e];exact Ql7 m a (by omega) (Qkp hg a (by simp)) ka _ (Qjw rfl)
  ·obtain ⟨k,lb,nm,bd,mn,nu,t,u⟩:=p;simp only at h;subst h;exact Qmv (c:=91) rfl rfl (by decide)
theorem Qkx {n:Nat} {p:PE} {X:List UInt8} (h:HX X):Qk7 n p X=Qm7 p X:=by
 obtain ⟨⟨c,r,rfl,_,Qn4⟩,hk⟩:=h;have k1:Qjn [102,117,110,32,40] (c::r)=none:=Qjy (w:=[102,117,110]) (k:=[40]) (by decide) (fun e=>hk (by rw [e];decide))
 have k2:Qjn [108,101,116,32] (c::r)=none:=Qjy (w:=[108,101,116]) (k:=[]) (by decide) (fun e=>hk (by rw [e];decide))
 have k3:Qjn [114,101,99,32] (c::r)=none:=Qjy (w:=[114,101,99]) (k:=[]) (by decide) (fun e=>hk (by rw [e];decide))
 have k4:Qjn [105,102,32] (c::r)=none:=Qjy (w:=[105,102]) (k:=[]) (by decide) (fun e=>hk (by rw [e];decide))
 have k5:Qjn [99,97,115,101,32] (c::r)=none:=Qjy (w:=[99,97,115,101]) (k:=[]) (by decide) (fun e=>hk (by rw [e];decide))
 unfold Qk7;rw [if_neg (by rw [List.head?_cons,Zc];exact Qn4)]
 simp only [k1,k2,k3,k4,k5]
theorem Qjv {n:Nat} (ih:Ql2 n) {p:Part} {ks:List (Rose Part)} (hg:GE (mk p ks)) (hl:(nds (mk p ks)).length≤n+1) (h7:p.kind≠7) (Bf:p.kind≠10) :
  ∀ x∈ks,∀ s,Qj7 s→pE n (prT x++s)=some ((nds x).map Vc,s):=by
 intro x hx s hs;obtain ⟨h1,h2⟩:=Qkk hg h7 Bf x hx;have:=Qki hx;rw [Jt,Zd] at hl;exact Qlq ih (by omega) (Qkp hg x hx) h1 h2 hs
theorem Qkn {p:Part} {ks:List (Rose Part)} (hg:GE (mk p ks)) (h7:p.kind≠7) (Bf:p.kind≠10):∀ x∈ks,∀ s,Qkg s→HX (prT x++s):=by
 intro x hx s hs;obtain ⟨h1,h2⟩:=Qkk hg h7 Bf x hx;rw [Qj4 (.inl h2)];exact Ql7 _ x (Zl _) (Qkp hg x hx) h1 s hs
theorem Qj6 {n:Nat} {p:PE} {r:List UInt8}:Qjp n p (40::r)=Qk7 n p r:=by
 rw [Qjp,if_neg (by decide),if_neg (by decide),if_neg (by decide),if_pos rfl]
theorem Qm4 {n:Nat} (ih:Ql2 n) {p:Part} {ks:List (Rose Part)} (hg:GE (mk p ks)) (hl:(nds (mk p ks)).length≤n+1) (h:p.kind=2) (s:List UInt8) :
  Qjp n (pE n) (Qjz (mk p ks)++s)=some (Qk5 (mk p ks),s):=by
 obtain ⟨a,rfl⟩:=Qmj hg (.inl h);have K:=Qjv ih hg hl (by omega) (by omega)
 have hu:=Qju hg;obtain ⟨k,lb,nm,bd,mn,nu,t,u⟩:=p;simp only at h;subst h;unfold U8 Xb at hu;simp at hu;obtain ⟨rfl,⟨⟨⟨rfl,rfl⟩,hb⟩,ht⟩,rfl⟩:=hu;obtain ⟨rK,Sy⟩:=Qjm hb;obtain ⟨Qge,Qhg⟩:=Qj3 ht;have e:Qjz (mk ⟨2,lb,[],bd,0,0,t,[]⟩ [a])++s=40::102::117::110::32::40::(bd++58::32::(eE t++41::32::45::62::32::(prT a++41::s))):=by
  rw [Qjr];simp [Q5,Xz,Jf,prTs,Sy,Qge]
 rw [e,Qj6,Qk7,if_neg (by simp)]
 have k1:=Qjq [102,117,110,32,40] (bd++58::32::(eE t++41::32::45::62::32::(prT a++41::s)));simp only [List.cons_append,List.nil_append] at k1;simp only [k1];unfold Qnj;rw [Qjk rK (fun c r e=>by cases e;rfl)]
 simp only [List.drop_succ_cons,List.drop_zero];rw [Qhg _ (by show Qjn [32,45,62,32] _=none;rfl)]
 simp only [Option.bind_some,List.drop_succ_cons,List.drop_zero];rw [K a (by simp) _ (pG rfl (by decide))]
 simp [Qjx,Vc,Qkz,Qkq,ndss]
theorem Qm3 {n:Nat} (ih:Ql2 n) {p:Part} {ks:List (Rose Part)} (hg:GE (mk p ks)) (hl:(nds (mk p ks)).length≤n+1) (h:p.kind=4) (s:List UInt8) :
  Qjp n (pE n) (Qjz (mk p ks)++s)=some (Qk5 (mk p ks),s):=by
 obtain ⟨a,b,rfl⟩:=Qnc hg (.inr (.inl h));have K:=Qjv ih hg hl (by omega) (by omega)
 have hu:=Qju hg;obtain ⟨k,lb,nm,bd,mn,nu,t,u⟩:=p;simp only at h;subst h;unfold U8 Xb at hu;simp at hu;obtain ⟨rfl,⟨⟨⟨rfl,rfl⟩,hb⟩,ht⟩,rfl⟩:=hu;obtain ⟨rK,Sy⟩:=Qjm hb;obtain ⟨Qge,Qhg⟩:=Qj3 ht;have e:Qjz (mk ⟨4,lb,[],bd,0,0,t,[]⟩ [a,b])++s=40::108::101::116::32::(bd++58::32::(eE t++32::61::32::(prT a++32::105::110::32::(prT b++41::s)))):=by
  rw [Qjr];simp [Q5,Xz,Jf,prTs,Sy,Qge]
 rw [e,Qj6,Qk7,if_neg (by simp)]
 have k1:=Qjq [108,101,116,32] (bd++58::32::(eE t++32::61::32::(prT a++32::105::110::32::(prT b++41::s))));simp only [List.cons_append,List.nil_append] at k1;simp only [show ∀ r,Qjn [102,117,110,32,40] (108::r)=none from fun _=>rfl,k1];unfold Qnt;rw [Qjk rK (fun c r e=>by cases e;rfl)]
 simp only [List.drop_succ_cons,List.drop_zero];rw [Qhg _ (by show Qjn [32,45,62,32] _=none;rfl)]
 simp only [Option.bind_some,List.drop_succ_cons,List.drop_zero];rw [K a (by simp) _ (pG rfl (by decide))]
 simp only [Option.bind_some,List.drop_succ_cons,List.drop_zero];rw [K b (by simp) _ (pG rfl (by decide))]
 simp [Qjx,Vc,Qkz,Qkq,ndss]
theorem Qm1 {n:Nat} (ih:Ql2 n) {p:Part} {ks:List (Rose Part)} (hg:GE (mk p ks)) (hl:(nds (mk p ks)).length≤n+1) (h:p.kind=5) (s:List UInt8) :
  Qjp n (pE n) (Qjz (mk p ks)++s)=some (Qk5 (mk p ks),s):=by
 obtain ⟨a,b,rfl⟩:=Qnc hg (.inr (.inr (.inl h)));have K:=Qjv ih hg hl (by omega) (by omega)
 have hu:=Qju hg;obtain ⟨k,lb,nm,bd,mn,nu,t,u⟩:=p;simp only at h;subst h;unfold U8 Xb at hu;simp at hu;obtain ⟨rfl,⟨⟨⟨hw,rfl⟩,hb⟩,ht⟩,hu⟩:=hu;obtain ⟨Zil,Zyk⟩:=Qjm hw;obtain ⟨rK,Sy⟩:=Qjm hb;obtain ⟨Qge,Qhg⟩:=Qj3 ht;obtain ⟨Zvf,Qn1⟩:=Qj3 hu;have e:Qjz (mk ⟨5,lb,nm,bd,0,0,t,u⟩ [a,b])++s=40::114::101::99::32::(nm++32::40::(bd++58::32::(eE t++41::58::32::(eE u++32::61::32::(prT a++32::105::110::32::(prT b++41::s)))))):=by
  rw [Qjr];simp [Q5,Xz,Jf,prTs,Zyk,Sy,Qge,Zvf]
 rw [e,Qj6,Qk7,if_neg (by simp)]
 have k1:=Qjq [114,101,99,32] (nm++32::40::(bd++58::32::(eE t++41::58::32::(eE u++32::61::32::(prT a++32::105::110::32::(prT b++41::s))))));simp only [List.cons_append,List.nil_append] at k1;simp only [show ∀ r,Qjn [102,117,110,32,40] (114::r)=none from fun _=>rfl,show ∀ r,Qjn [108,101,116,32] (114::r)=none from fun _=>rfl,k1];unfold Qns;rw [Qjk Zil (fun c r e=>by cases e;rfl)]
 simp only [List.drop_succ_cons,List.drop_zero];rw [Qjk rK (fun c r e=>by cases e;rfl)]
 simp only [List.drop_succ_cons,List.drop_zero];rw [Qhg _ (by show Qjn [32,45,62,32] _=none;rfl)]
 simp only [Option.bind_some,List.drop_succ_cons,List.drop_zero];rw [Qn1 _ (by show Qjn [32,45,62,32] _=none;rfl)]
 simp only [Option.bind_some,List.drop_succ_cons,List.drop_zero];rw [K a (by simp) _ (pG rfl (by decide))]
 simp only [Option.bind_some,List.drop_succ_cons,List.drop_zero];rw [K b (by simp) _ (pG rfl (by decide))]
 simp [Qjx,Vc,Qkz,Qkq,ndss]
theorem Qng {n:Nat} (ih:Ql2 n) {p:Part} {ks:List (Rose Part)} (hg:GE (mk p ks)) (hl:(nds (mk p ks)).length≤n+1) (h:p.kind=6) (s:List UInt8) :
  Qjp n (pE n) (Qjz (mk p ks)++s)=some (Qk5 (mk p ks),s):=by
 obtain ⟨a,b,c,rfl⟩:=Qnx hg h;have K:=Qjv ih hg hl (by omega) (by omega)
 have hu:=Qju hg;obtain ⟨k,lb,nm,bd,mn,nu,t,u⟩:=p;simp only at h;subst h;unfold U8 Xb at hu;simp at hu;obtain ⟨rfl,⟨⟨rfl,rfl,rfl⟩,rfl⟩,rfl⟩:=hu;have e:Qjz (mk ⟨6,lb,[],[],0,0,[],[]⟩ [a,b,c])++s=40::105::102::32::(prT a++32::116::104::101::110::32::(prT b++32::101::108::115::101::32::(prT c++41::s))):=by
  rw [Qjr];simp [Q5,Xz,Jf,prTs]
 rw [e,Qj6,Qk7,if_neg (by simp)]
 have k1:=Qjq [105,102,32] (prT a++32::116::104::101::110::32::(prT b++32::101::108::115::101::32::(prT c++41::s)));simp only [List.cons_append,List.nil_append] at k1;simp only [show ∀ r,Qjn [102,117,110,32,40] (105::r)=none from fun _=>rfl,show ∀ r,Qjn [108,101,116,32] (105::r)=none from fun _=>rfl,show ∀ r,Qjn [114,101,99,32] (105::r)=none from fun _=>rfl,k1];unfold Qny;rw [K a (by simp) _ (pG rfl (by decide))]
 simp only [Option.bind_some,List.drop_succ_cons,List.drop_zero];rw [K b (by simp) _ (pG rfl (by decide))]
 simp only [Option.bind_some,List.drop_succ_cons,List.drop_zero];rw [K c (by simp) _ (pG rfl (by decide))]
 simp [Qjx,Vc,Qkz,Qkq,ndss]
theorem Qm5 {n:Nat} (ih:Ql2 n) {p:Part} {ks:List (Rose Part)} (hg:GE (mk p ks)) (hl:(nds (mk p ks)).length≤n+1) (h:p.kind=3) (s:List UInt8) :
  Qjp n (pE n) (Qjz (mk p ks)++s)=some (Qk5 (mk p ks),s):=by
 obtain ⟨a,b,rfl⟩:=Qnc hg (.inl h);have K:=Qjv ih hg hl (by omega) (by omega)
 have H:=Qkn hg (by omega) (by omega)
 have hu:=Qju hg;obtain ⟨k,lb,nm,bd,mn,nu,t,u⟩:=p;simp only at h;subst h;unfold U8 Xb at hu;simp at hu;obtain ⟨rfl,⟨⟨rfl,rfl,rfl⟩,rfl⟩,rfl⟩:=hu;have e:Qjz (mk ⟨3,lb,[],[],0,0,[],[]⟩ [a,b])++s=40::(prT a++32::(prT b++41::s)):=by
  rw [Qjr];simp [Q5,Xz,Jf,prTs]
 rw [e,Qj6,Qkx (H a (by simp) _ (Qjw rfl))]
 unfold Qm7;rw [K a (by simp) _ (pG rfl (by decide))]
 obtain ⟨⟨c,r,Qmo,Us,_⟩,_⟩:=H b (by simp) (41::s) (Qjw rfl)
 simp only [Option.bind_some,List.drop_succ_cons,List.drop_zero,List.head?_cons,Zc];rw [if_neg (by decide),if_pos (by rw [Qmo];exact Us),K b (by simp) _ (pG rfl (by decide))]
 simp [Qjx,Vc,Qkz,Qkq,ndss]
theorem Qmg {w:List UInt8} (h:Zee w=true):w.all Qkh=true∧∃ c r,w=c::r∧Qkl c=false:=by
 unfold Zee at h;rw [List.any_eq_true] at h;obtain ⟨o,ho,he⟩:=h;rw [Zi] at he;subst he;have h1:∀ o∈bY,o.all Qkh=true∧Qkl (o.getD 0 0)=false∧o≠[]:=by decide
 obtain ⟨h2,h3,h4⟩:=h1 o ho;refine ⟨h2,?_⟩;cases o with
 | nil=>exact absurd rfl h4
 | cons c r=>exact ⟨c,r,rfl,h3⟩
theorem Qnf {n:Nat} (ih:Ql2 n) {p:Part} {ks:List (Rose Part)} (hg:GE (mk p ks)) (hl:(nds (mk p ks)).length≤n+1) (h:p.kind=9) (s:List UInt8) :
  Qjp n (pE n) (Qjz (mk p ks)++s)=some (Qk5 (mk p ks),s):=by
 obtain ⟨a,b,rfl⟩:=Qnc hg (.inr (.inr (.inr h)));have K:=Qjv ih hg hl (by omega) (by omega)
 have H:=Qkn hg (by omega) (by omega)
 have hu:=Qju hg;obtain ⟨k,lb,nm,bd,mn,nu,t,u⟩:=p;simp only at h;subst h;unfold U8 Xb at hu;simp at hu;obtain ⟨rfl,⟨⟨ho,rfl,rfl⟩,rfl⟩,rfl⟩:=hu;obtain ⟨zY,c,r,Qmo,Us⟩:=Qmg ho;have Zh4:nm≠[]:=by rw [Qmo];simp
 have e:Qjz (mk ⟨9,lb,nm,[],0,0,[],[]⟩ [a,b])++s=40::(prT a++32::(nm++32::(prT b++41::s))):=by
  rw [Qjr];simp [Q5,Xz,Jf,prTs,Zh4]
 rw [e,Qj6,Qkx (H a (by simp) _ (Qjw rfl))]
 unfold Qm7;rw [K a (by simp) _ (pG rfl (by decide))]
 have h3:∀ a∈nm,Qkh a=true:=List.all_eq_true.1 zY;have t1:(nm++32::(prT b++41::s)).takeWhile Qkh=nm:=by
  rw [List.takeWhile_append_of_pos h3,List.takeWhile_cons,show Qkh 32=false from rfl];simp
 have t2:(nm++32::(prT b++41::s)).dropWhile Qkh=32::(prT b++41::s):=by
  rw [List.dropWhile_append_of_pos h3,List.dropWhile_cons,show Qkh 32=false from rfl];simp
 simp only [Option.bind_some,List.drop_succ_cons,List.drop_zero,List.head?_cons,Zc,t1,t2];rw [if_neg (by decide),if_neg (by rw [Qmo];simp [Us]),K b (by simp) _ (pG rfl (by decide))]
 simp [Qjx,Vc,Qkz,Qkq,ndss]
theorem Qm6 {n:Nat} (ih:Ql2 n) {p:Part} {ks:List (Rose Part)} (hg:GE (mk p ks)) (hl:(nds (mk p ks)).length≤n+1) (h:p.kind=13) (s:List UInt8) :
  Qjp n (pE n) (Qjz (mk p ks)++s)=some (Qk5 (mk p ks),s):=by
 obtain ⟨a,rfl⟩:=Qmj hg (.inr (.inr (.inr (.inr h))));have K:=Qjv ih hg hl (by omega) (by omega)
 have H:=Qkn hg (by omega) (by omega)
 have hu:=Qju hg;obtain ⟨k,lb,nm,bd,mn,nu,t,u⟩:=p;simp only at h;subst h;unfold U8 Xb at hu;simp at hu;obtain ⟨rfl,⟨⟨rfl,rfl,rfl⟩,ht⟩,rfl⟩:=hu;obtain ⟨Qge,Qhg⟩:=Qj3 ht;have e:Qjz (mk ⟨13,lb,[],[],0,0,t,[]⟩ [a])++s=40::(prT a++58::32::(eE t++41::s)):=by
  rw [Qjr];simp [Q5,Xz,Jf,prTs,Qge]
 rw [e,Qj6,Qkx (H a (by simp) _ (Qjw rfl))]
 unfold Qm7;rw [K a (by simp) _ (pG rfl (by decide))]
 simp only [Option.bind_some,List.drop_succ_cons,List.drop_zero,List.head?_cons,if_true];rw [Qhg _ (by show Qjn [32,45,62,32] _=none;rfl)]
 simp [Qjx,Vc,Qkz,Qkq,ndss]
theorem Qm0 {n:Nat} (ih:Ql2 n) {p:Part} {ks:List (Rose Part)} (hg:GE (mk p ks)) (hl:(nds (mk p ks)).length≤n+1) (h:p.kind=12) (s:List UInt8) :
  Qjp n (pE n) (Qjz (mk p ks)++s)=some (Qk5 (mk p ks),s):=by
 obtain ⟨a,rfl⟩:=Qmj hg (.inr (.inr (.inr (.inl h))));have K:=Qjv ih hg hl (by omega) (by omega)
 have hu:=Qju hg;obtain ⟨k,lb,nm,bd,mn,nu,t,u⟩:=p;simp only at h;subst h;unfold U8 Xb at hu;simp at hu;obtain ⟨rfl,⟨⟨hw,rfl,rfl⟩,ht⟩,rfl⟩:=hu;obtain ⟨Zil,Zyk⟩:=Qke hw;obtain ⟨Qge,Qhg⟩:=Qj3 ht;have e:Qjz (mk ⟨12,lb,nm,[],0,0,t,[]⟩ [a])++s=91::(nm++32::61::32::(prT a++58::32::(eE t++93::s))):=by
  rw [Qjr];simp [Q5,Xz,Jf,prTs,Zyk,Qge]
 rw [e,Qjp,if_neg (by decide),if_pos rfl,Qjk Zil (fun c r e=>by cases e;rfl)]
 simp only [List.drop_succ_cons,List.drop_zero];rw [K a (by simp) _ (pG rfl (by decide))]
 simp only [Option.bind_some,List.drop_succ_cons,List.drop_zero];rw [Qhg _ (by show Qjn [32,45,62,32] _=none;rfl)]
 simp [Qjx,Vc,Qkz,Qkq,ndss]
theorem Qna {c:UInt8} (h:Qka c=true):c≠123∧c≠91∧c≠34∧c≠40:=by
 refine ⟨?_,?_,?_,?_⟩<;>(rintro rfl;exact absurd h (by decide))
theorem Qm2 {n:Nat} {p:Part} {ks:List (Rose Part)} (hg:GE (mk p ks)) (h:p.kind=0) {s:List UInt8} (hs:Qkg s) :
  Qjp n (pE n) (Qjz (mk p ks)++s)=some (Qk5 (mk p ks),s):=by
 have hz:ks=[]:=Qnn hg (.inl h);subst hz;have e:Qjz (mk p [])=D2 p:=by rw [Qjr];unfold Q5;rw [if_pos h]
 have ec:Qk5 (mk p [])=[Vc (Qkz p)]:=by rw [Qjx];rfl
 rw [e,ec];rcases Qld hg h with ⟨u,e1,e2⟩|⟨e1,e2⟩|⟨e1,e2⟩|⟨e1,e2⟩|⟨e1,e2⟩
 ·rw [e1,e2];obtain ⟨v1,v2,v3⟩:=Qj8 u;have hn:=Qmt (u:=u) hs;cases hd:Lib.decDigits u with
  | nil=>exact absurd hd v3
  | cons c r =>
   rw [hd,List.all_cons,Zg] at v2;rw [hd] at hn;obtain ⟨n1,n2,n3,n4⟩:=Qna v2.1;rw [List.cons_append] at hn ⊢;rw [Qjp,if_neg n1,if_neg n2,if_neg n3,if_neg n4,if_pos v2.1,hn]
 ·rw [e1,e2];have hw:=Qjk (w:=[116,114,117,101]) (s:=s) (by decide) hs
  show Qjp n (pE n) (116::114::117::101::s)=_;rw [Qjp,if_neg (by decide),if_neg (by decide),if_neg (by decide),if_neg (by decide),if_neg (by decide)]
  simp only [List.cons_append,List.nil_append] at hw;rw [hw,if_pos rfl]
 ·rw [e1,e2];have hw:=Qjk (w:=[102,97,108,115,101]) (s:=s) (by decide) hs
  show Qjp n (pE n) (102::97::108::115::101::s)=_;rw [Qjp,if_neg (by decide),if_neg (by decide),if_neg (by decide),if_neg (by decide),if_neg (by decide)]
  simp only [List.cons_append,List.nil_append] at hw;rw [hw,if_neg (by show ¬ ([102,97,108,115,101]:List UInt8)=[116,114,117,101];decide),if_pos rfl]
 ·rw [e1,e2];show Qjp n (pE n) (34::(Ii p.name.length p.name++s))=_;rw [Qjp,if_neg (by decide),if_neg (by decide),if_pos rfl,Qlv]
  rfl
 ·rw [e1,e2];show Qjp n (pE n) (40::41::s)=_;rw [Qj6,Qk7,if_pos (show (41::s).head?=some 41 from rfl)];rfl
theorem Qnb {c:UInt8} (h:Vq c 97 122=true):c≠123∧c≠91∧c≠34∧c≠40∧Qka c=false:=by
 refine ⟨?_,?_,?_,?_,?_⟩
 ·rintro rfl;exact absurd h (by decide)
 ·rintro rfl;exact absurd h (by decide)
 ·rintro rfl;exact absurd h (by decide)
 ·rintro rfl;exact absurd h (by decide)
 ·cases hd:Qka c with
  | false=>rfl
  | true =>
   have h1:=Qk4.1 hd;unfold Vq at h;rw [Zg,decide_eq_true_eq,UInt8.le_iff_toNat_le] at h;have:(97:UInt8).toNat=97:=rfl;omega
theorem Qmm {n:Nat} {p:Part} {ks:List (Rose Part)} (hg:GE (mk p ks)) (h:p.kind=1) {s:List UInt8} (hs:Qkg s) :
  Qjp n (pE n) (Qjz (mk p ks)++s)=some (Qk5 (mk p ks),s):=by
 have hz:ks=[]:=Qnn hg (.inr h);subst hz;have Zx0:=(hg.plain p (by rw [Jt];simp)).2 h
 have hu:=Qju hg;obtain ⟨k,lb,nm,bd,mn,nu,t,u⟩:=p;simp only at h Zx0;subst h;unfold U8 Xb at hu;simp at hu;obtain ⟨rfl,⟨⟨⟨rfl,rfl⟩,rfl⟩,rfl⟩,hn⟩:=hu;obtain ⟨hw,c,r,Qmo,hc⟩:=Qk0 hn;obtain ⟨n1,n2,n3,n4,n5⟩:=Qnb hc;have vP:nm≠[]:=by rw [Qmo];simp
 have e:Qjz (mk ⟨1,lb,nm,[],0,0,[],[]⟩ [])=nm:=by
  rw [Qjr];simp [Q5,Xz,Jf,prTs,vP]
 have w:=Qjk hw hs;have ht:nm≠[116,114,117,101]:=by rintro rfl;exact absurd Zx0 (by decide)
 have hf:nm≠[102,97,108,115,101]:=by rintro rfl;exact absurd Zx0 (by decide)
 rw [e];have w2:Qjl (c::(r++s))=(nm,s):=by rw [←List.cons_append,←Qmo];exact w
 rw [show nm++s=c::(r++s) by rw [←List.cons_append,←Qmo],Qjp,if_neg n1,if_neg n2,if_neg n3,if_neg n4,if_neg (by rw [n5];decide),w2,if_neg ht,if_neg hf]
 simp [Qjx,Vc,Qkz,Qkq,ndss]
theorem Qml {n:Nat} (ih:Ql2 n) {p:Part} {ks:List (Rose Part)} (hg:GE (mk p ks)) (hl:(nds (mk p ks)).length≤n+1) (h:p.kind=10) (s:List UInt8) :
  Qjp n (pE n) (Qjz (mk p ks)++s)=some (Qk5 (mk p ks),s):=by
 have Z8:=Qko hg;have L:=Qlz hg;have hu:=Qju hg;have hk:=fun x hx=>Qkp hg x hx;rw [Jt,Zd] at hl;obtain ⟨k,lb,nm,bd,mn,nu,t,u⟩:=p;simp only at h L;subst h;unfold U8 Xb at hu;simp at hu;obtain ⟨rfl,⟨⟨⟨⟨rfl,rfl⟩,h0⟩,Qn3⟩,rfl⟩,rfl⟩:=hu;have h0':0≤mn:=by
  rcases G9 0 mn with h|h
  ·exact h.1
  ·rw [h.2] at h0;cases h0
 have Qcw:mn=(ks.length:Int):=by
  rw [Z8];unfold Xj Qu Mt;simp;split<;>omega
 have e:Qjz (mk ⟨10,lb,[],[],mn,0,[],[]⟩ ks)++s=123::(W8 [44,32] true (prTs ks)++125::s):=by
  rw [Qjr];simp [Q5]
 have ec:Qk5 (mk ⟨10,lb,[],[],mn,0,[],[]⟩ ks)=Qkq 10 [] [] (ks.length:Int) [] []::(ndss ks).map Vc:=by rw [Qjx,Qcw];rfl
 rw [e,ec,Qjp,if_pos rfl];by_cases Xs:ks=[]
 ·subst Xs;simp [prTs,W8,ndss]
 ·have key:∀ x∈ks,x.root.label.all Qjo=true∧x.root.label≠[]∧x.root.kind≠8∧∀ s,Qj7 s→pE n (Qjz x++s)=some (Qk5 x,s):=by
   intro x hx;have M8:=Qki hx;have gx:=hk x hx;obtain ⟨j,hj,rfl⟩:=List.getElem_of_mem hx;obtain ⟨h8,Bf,_⟩:=(L j hj).1 (.inl (by decide))
   obtain ⟨w1,w2⟩:=Qjm (Bf rfl);exact ⟨w1,w2,h8,fun s hs=>ih _ (by omega) gx h8 s hs⟩
  have hr:=Ql9 (p:=pE n) (s:=s) ks n Xs (by have:=Qlj ks;omega) key
  have e2:(W8 [44,32] true (prTs ks)++125::s).head?≠some 125:=by
   cases ks with
   | nil=>exact absurd rfl Xs
   | cons x ks =>
    obtain ⟨w1,w2,w8,_⟩:=key x (by simp)
    rw [prTs,W8,Qli w2 w8];cases Ut:x.root.label with
    | nil=>exact absurd Ut w2
    | cons a r =>
     rw [Ut,List.all_cons,Zg] at w1;intro e;cases e;exact absurd w1.1 (by decide)
  rw [if_neg e2,hr];rfl
theorem Qnv {n:Nat} (ih:Ql2 n) {x:Rose Part} (hg:GE x) (hl:(nds x).length≤n+1) (h8:x.root.kind=8) (Ug:Ht x.root.label=true):Br (pE n) x:=by
 obtain ⟨p,ks⟩:=x;have h:p.kind=8:=h8;have hlab':Ht p.label=true:=Ug;obtain ⟨a,rfl⟩:=Qmj hg (.inr (.inl h));have K:=Qjv ih hg hl (by omega) (by omega)
 have hu:=Qju hg;obtain ⟨k,lb,nm,bd,mn,nu,t,u⟩:=p;simp only at h hlab';subst h;unfold U8 Xb at hu;simp at hu;obtain ⟨rfl,⟨⟨⟨rfl,rfl⟩,hb⟩,rfl⟩,rfl⟩:=hu;obtain ⟨rK,Sy⟩:=Qjm hb;obtain ⟨Mn,M9⟩:=Qke hlab';refine ⟨⟨_,a,rfl,?_,Mn,rK,?_,K a (by simp)⟩⟩
 ·rw [Qj4 (.inr rfl),Qjr];simp [Q5,Xz,Jf,prTs,Sy,M9]
 ·rw [Jt];simp [Vc,ndss]
theorem Qmn {n:Nat} (ih:Ql2 n) {p:Part} {ks:List (Rose Part)} (hg:GE (mk p ks)) (hl:(nds (mk p ks)).length≤n+1) (h:p.kind=7) (s:List UInt8) :
  Qjp n (pE n) (Qjz (mk p ks)++s)=some (Qk5 (mk p ks),s):=by
 have Z8:=Qko hg;have L:=Qlz hg;have hu:=Qju hg;have hk:=fun x hx=>Qkp hg x hx;rw [Jt,Zd] at hl;obtain ⟨k,lb,nm,bd,mn,nu,t,u⟩:=p;simp only at h L;subst h;unfold U8 Xb at hu;simp at hu;obtain ⟨rfl,⟨⟨⟨⟨rfl,rfl⟩,h0⟩,Qn3⟩,rfl⟩,rfl⟩:=hu;have h0':1≤mn:=by
  rcases G9 1 mn with h|h
  ·exact h.1
  ·rw [h.2] at h0;cases h0
 have Qcw:(ks.length:Int)=mn+1:=by
  rw [Z8];unfold Xj Qu Mt;simp;split<;>omega
 cases ks with
 | nil=>simp at Qcw;omega
 | cons a bs =>
  have Qn0:(bs.length:Int)=mn:=by simp at Qcw;omega
  have Qil:bs≠[]:=by rintro rfl;simp at Qn0;omega
  rw [ndss,Zb] at hl;obtain ⟨ka,_,la⟩:=(L 0 (by simp)).1 (.inr rfl)
  have ka':a.root.kind≠8:=ka;have la':a.root.label=[]:=la (by decide)
  have Ka:∀ s,Qj7 s→pE n (prT a++s)=some ((nds a).map Vc,s):=fun s hs=>Qlq ih (by omega) (hk a (by simp)) ka' la' hs
  have key:∀ x∈bs,Br (pE n) x:=by
   intro x hx;have M8:=Qki hx;have gx:=hk x (List.mem_cons_of_mem _ hx);obtain ⟨j,hj,rfl⟩:=List.getElem_of_mem hx;obtain ⟨h8,ht⟩:=(L (j+1) (by simp;omega)).2 rfl (by omega)
   exact Qnv ih gx (by omega) h8 ht
  have hr:=Qmb (p:=pE n) (s:=110::100::41::s) bs n Qil (by have:=Qlj bs;omega) key
  have e:Qjz (mk ⟨7,lb,[],[],mn,0,[],[]⟩ (a::bs))++s=40::99::97::115::101::32::(prT a++32::111::102::32::(W8 [32,124,32] true (prTs bs)++32::101::110::100::41::s)):=by
   rw [Qjr,prTs];simp [Q5]
  have ec:Qk5 (mk ⟨7,lb,[],[],mn,0,[],[]⟩ (a::bs))=Qkq 7 [] [] (bs.length:Int) [] []::((nds a).map Vc++(ndss bs).map Vc):=by
   rw [Qjx,Qn0,ndss,List.map_append];rfl
  rw [e,ec,Qj6,Qk7,if_neg (by simp)]
  have k1:=Qjq [99,97,115,101,32] (prT a++32::111::102::32::(W8 [32,124,32] true (prTs bs)++32::101::110::100::41::s));simp only [List.cons_append,List.nil_append] at k1;simp only [show ∀ r,Qjn [102,117,110,32,40] (99::r)=none from fun _=>rfl,show ∀ r,Qjn [108,101,116,32] (99::r)=none from fun _=>rfl,show ∀ r,Qjn [114,101,99,32] (99::r)=none from fun _=>rfl,show ∀ r,Qjn [105,102,32] (99::r)=none from fun _=>rfl,k1];unfold Qnk;rw [Ka _ (pG rfl (by decide))]
  simp only [Option.bind_some,List.drop_succ_cons,List.drop_zero];rw [hr];rfl
theorem Qma {n:Nat} (ih:Ql2 n):∀ (m:Nat) (x:Rose Part),(nds x).length≤m→(nds x).length≤n+1→GE x→x.root.kind≠8→∀ s,Qkg s →
  ∃ k L s0,Qjp n (pE n) (Qjz x++s)=some (L,s0)∧k+1≤(nds x).length∧∀ j,Qlt (k+j) L s0=Qlt j (Qk5 x) s
 | 0,x,hm,_,_,_,_,_=>by have:=Ta x;omega
 | m+1,mk p ks,hm,hl,hg,h8,s,hs=>by
  have h8':p.kind≠8:=h8;have hk:=Qk9 (Qju hg);have Qi0:=(hg.plain p (by rw [Jt];simp)).1
  by_cases Qi3:p.kind=11
  ·obtain ⟨a,rfl⟩:=Qmj hg (.inr (.inr (.inl Qi3)));obtain ⟨ka,la⟩:=Qkk hg (by omega) (by omega) a (by simp)
   have ga:=Qkp hg a (by simp)
   have hu:=Qju hg;rw [Jt,Zd] at hl hm ⊢;simp only [ndss,List.append_nil] at hl hm ⊢;obtain ⟨k,lb,nm,bd,mn,nu,t,u⟩:=p;simp only at Qi3;subst Qi3;unfold U8 Xb at hu;simp at hu;obtain ⟨rfl,⟨⟨hw,rfl,rfl⟩,rfl⟩,rfl⟩:=hu;obtain ⟨Zil,Zyk⟩:=Qjm hw;have e:Qjz (mk ⟨11,lb,nm,[],0,0,[],[]⟩ [a])++s=Qjz a++(46::(nm++s)):=by
    rw [Qjr,prTs,prTs,Qj4 (.inl la)];simp [Q5,Xz,Jf,Zyk]
   obtain ⟨k,L,s0,b1,b2,b3⟩:=Qma ih m a (by omega) (by omega) ga ka (46::(nm++s)) (Qjw rfl)
   refine ⟨k+1,L,s0,by rw [e];exact b1,by omega,fun j=>?_⟩
   rw [show k+1+j=k+(j+1) by omega,b3 (j+1),Qlt,if_pos (show (46::(nm++s)).head?=some 46 from rfl)]
   rw [show List.drop 1 (46::(nm++s))=nm++s from rfl,Qjk Zil hs,Qks la];simp [Qjx,Vc,Qkz,Qkq,ndss]
  ·refine ⟨0,Qk5 (mk p ks),s,?_,by have:=Ta (mk p ks);omega,fun j=>by rw [Nat.zero_add]⟩
   rcases (show p.kind=0∨p.kind=1∨p.kind=2∨p.kind=3∨p.kind=4∨p.kind=5∨p.kind=6∨p.kind=7∨p.kind=9∨p.kind=10∨p.kind=12∨p.kind=13 by omega) with h|h|h|h|h|h|h|h|h|h|h|h
   ·exact Qm2 hg h hs
   ·exact Qmm hg h hs
   ·exact Qm4 ih hg hl h s
   ·exact Qm5 ih hg hl h s
   ·exact Qm3 ih hg hl h s
   ·exact Qm1 ih hg hl h s
   ·exact Qng ih hg hl h s
   ·exact Qmn ih hg hl h s
   ·exact Qnf ih hg hl h s
   ·exact Qml ih hg hl h s
   ·exact Qm0 ih hg hl h s
   ·exact Qm6 ih hg hl h s
theorem Qms:∀ n,Ql2 n
 | 0=>fun z hl=>by have:=Ta z;omega
 | n+1=>fun z hl hg h8 s hs=>by
  obtain ⟨k,L,s0,b1,b2,b3⟩:=Qma (Qms n) _ z (Zl _) hl hg h8 s hs.w;rw [pE,b1,Option.map_some];have:=b3 (n-k);rw [show k+(n-k)=n by omega] at this
  simp only [this,Qmx hs]
theorem Qm8 {x y:Rose Part} (hx:GE x) (hy:GE y) (kx:x.root.kind≠8) (ky:y.root.kind≠8) (lx:x.root.label=[]) (ly:y.root.label=[]) (h:prT x=prT y) :
  (nds x).map Vc=(nds y).map Vc:=by
 have hs:Qj7 []:=fun c r e=>by cases e
 have e1:=Qms ((nds x).length+(nds y).length) x (by omega) hx kx [] hs
 have e2:=Qms ((nds x).length+(nds y).length) y (by omega) hy ky [] hs
 rw [←Qj4 (.inl lx),h,Qj4 (.inl ly),e2] at e1;rw [Qks lx,Qks ly] at e1;have:=Option.some.inj e1;exact (Prod.mk.inj this).1.symm
open Enc (enc dec)
mutual
def mapR {α:Type} (f:α→α):Rose α→Rose α
 | mk n ks=>mk (f n) (mapRs f ks)
def mapRs {α:Type} (f:α→α):List (Rose α)→List (Rose α)
 | []=>[]
 | x::xs=>mapR f x::mapRs f xs
end
theorem Qk2 {α:Type} {f:α→α}:∀ ks:List (Rose α),mapRs f ks=ks.map (mapR f)
 | []=>rfl
 | x::ks=>by rw [mapRs,Qk2 ks];rfl
mutual
theorem nds_mapR {α:Type} {f:α→α}:∀ x:Rose α,nds (mapR f x)=(nds x).map f
 | mk n ks=>by rw [mapR,Jt,Jt,ndss_mapR ks];rfl
theorem ndss_mapR {α:Type} {f:α→α}:∀ ks:List (Rose α),ndss (mapRs f ks)=(ndss ks).map f
 | []=>rfl
 | x::ks=>by rw [mapRs,ndss,ndss,nds_mapR x,ndss_mapR ks,List.map_append]
end
mutual
theorem wf_mapR {α:Type} {ar:α→Nat} {f:α→α} (hf:∀ n,ar (f n)=ar n):∀ {x:Rose α},wf ar x→wf ar (mapR f x)
 | mk n ks,h=>by
  rw [mapR];have h2:=Zvr.1 h;refine Zvr.2 ⟨?_,wfs_mapR hf h2.2⟩;show (mapRs f ks).length=ar (f n);rw [Qk2,Qn,hf];exact h2.1
theorem wfs_mapR {α:Type} {ar:α→Nat} {f:α→α} (hf:∀ n,ar (f n)=ar n):∀ {ks:List (Rose α)},wfs ar ks→wfs ar (mapRs f ks)
 | [],_=>trivial
 | x::ks,h=>⟨wf_mapR hf h.1,wfs_mapR hf h.2⟩
end
theorem Qls {α:Type} {ar:α→Nat} {f:α→α} (hf:∀ n,ar (f n)=ar n):∀ (l:List α) (o:Nat),Hw ar (l.map f) o=Hw ar l o
 | [],0=>rfl
 | [],o+1=>rfl
 | n::l,0=>rfl
 | n::l,o+1=>by rw [List.map_cons,Hw,Hw,hf,Qls hf l]
theorem Qku {α:Type} [Inhabited α] {ar:α→Nat} {f:α→α} (hf:∀ n,ar (f n)=ar n) {l:List α} :
  Vs ar (l.map f) 0=mapR f (Vs ar l 0)∨Vs ar (l.map f) 0=Vs ar l 0:=by
 by_cases h:∃ x,At ar l 0 x
 ·obtain ⟨x,hx⟩:=h;left;rw [Xp hx];obtain ⟨hw,r,hr⟩:=hx;refine Xp ⟨wf_mapR hf hw,r.map f,?_⟩;rw [List.drop_zero] at hr ⊢;rw [hr,List.map_append,nds_mapR]
 ·right;have h2:¬ ∃ x,At ar (l.map f) 0 x:=by
   rintro ⟨y,hy⟩;have e:=qH hy;rw [List.drop_zero,Qls hf] at e;obtain ⟨x,hx,_⟩:=Ql1 (i:=0) (l:=l) (by rw [List.drop_zero];exact e)
   exact h ⟨x,hx⟩
  unfold Vs;rw [dif_neg h,dif_neg h2]
theorem Qnh (n:Node):ar (Gz n)=ar n:=by
 unfold Gz;split
 ·rename_i h;rw [Zbg (by simp only;omega),Zbg (by omega)]
 ·rfl
theorem Qkm (n:Node):(Gz n).kind=n.kind:=by unfold Gz;split<;>rfl
theorem Qmi (n:Node):(Gz n).name=n.name:=by unfold Gz;split<;>rfl
theorem Qme (ks:List (Rose Node)):(mapRs Gz ks).map root=(ks.map root).map Gz:=by
 rw [Qk2,List.map_map,List.map_map];refine List.map_congr_left fun x _=>?_;cases x;rfl
theorem Qlx {n:Node} {rs:List Node} {ps:List (List UInt8)}:dB (Gz n) (rs.map Gz) ps=dB n rs ps:=by
 unfold dB;have e1:((rs.map Gz).getD 0 n0).kind=(rs.getD 0 n0).kind:=by
  cases rs with
  | nil=>rfl
  | cons a r=>exact Qkm a
 have e2:(rs.map Gz).map (·.name)=rs.map (·.name):=by
  rw [List.map_map];exact List.map_congr_left fun x _=>Qmi x
 rw [Qkm,e1,e2]
mutual
theorem prN_norm:∀ x:Rose Node,prN (mapR Gz x)=prN x
 | mk n ks=>by rw [mapR,prN,prN,prNs_norm ks,Qme,Qlx]
theorem prNs_norm:∀ ks:List (Rose Node),prNs (mapRs Gz ks)=prNs ks
 | []=>rfl
 | x::ks=>by rw [mapRs,prNs,prNs,prN_norm x,prNs_norm ks]
end
theorem Qmp (t:List Node):eE (t.map Gz)=eE t:=by
 unfold eE;rcases Qku (f:=Gz) Qnh (l:=t) with h|h
 ·rw [h,prN_norm]
 ·rw [h]
theorem Qlw {p:Part} {ps:List (List UInt8)}:Q5 (Vc p) ps=Q5 p ps:=by
 obtain ⟨k,lb,nm,bd,mn,nu,t,u⟩:=p;have e1:((t.map Gz).getD 0 n0).kind=(t.getD 0 n0).kind:=by
  cases t with
  | nil=>rfl
  | cons a r=>exact Qkm a
 have e2:D2 (Vc ⟨k,lb,nm,bd,mn,nu,t,u⟩)=D2 ⟨k,lb,nm,bd,mn,nu,t,u⟩:=by
  unfold D2 Vc;simp only [e1]
 have e3:Xz (Vc ⟨k,lb,nm,bd,mn,nu,t,u⟩)=Xz ⟨k,lb,nm,bd,mn,nu,t,u⟩:=by
  unfold Xz Vc;simp only [Qmp]
 unfold Q5;rw [e2,e3];rfl
mutual
theorem prT_norm:∀ x:Rose Part,prT (mapR Vc x)=prT x
 | mk p ks=>by rw [mapR,prT,prT,prTs_norm ks,Qlw];rfl
theorem prTs_norm:∀ ks:List (Rose Part),prTs (mapRs Vc ks)=prTs ks
 | []=>rfl
 | x::ks=>by rw [mapRs,prTs,prTs,prT_norm x,prTs_norm ks]
end
theorem Qlo (a:List Part):Zv7 (a.map Vc)=Zv7 a:=by
 unfold Zv7;rcases Qku (f:=Vc) (ar:=Xj) (fun _=>rfl) (l:=a) with h|h
 ·rw [h,prT_norm]
 ·rw [h]
theorem Qni {x:Rose Part} (hx:RP x) (hp:Qj2 (nds x)=true):GE x:=by
 refine ⟨hx.wf,hx.uses,hx.lab,fun p hm=>?_⟩;unfold Qj2 at hp;rw [Bool.not_eq_true',List.any_eq_false] at hp;have h1:=hp p hm;unfold Qkr at h1;simp only [Bool.or_eq_true,Zg,Zi,not_or,not_and,Bool.not_eq_true] at h1;exact h1
theorem Qmf {a b:List Part} (ha:Y6 a=true) (hb:Y6 b=true) (pa:Qj2 a=true) (pb:Qj2 b=true):(Zv7 a==Zv7 b)=Bn a b:=by
 unfold Bn;rw [Bool.eq_iff_iff,Zi,Zi];constructor
 ·intro h;obtain ⟨x,rfl,hx⟩:=Kz ha;obtain ⟨y,rfl,hy⟩:=Kz hb;rw [wI hx.wf,wI hy.wf] at h;exact Qm8 (Qni hx pa) (Qni hy pb) hx.kind hy.kind hx.label hy.label h
 ·intro h;rw [←Qlo a,←Qlo b,h]
def con_AstPrints:Con:=Vx (fun (a b:Sl Part)=>Qbd a.l∧Qbd b.l) (fun _ _=>true)
set_option maxRecDepth 100000 in
theorem good_AstPrints:Jd Tryz.prog (5,con_AstPrints):=by
 obtain ⟨Kx,Kt,Kc,Kd,Kb,Ku,Kw,K,Y0,Xr,eV,kB,Zd6,Zhv,_⟩:=Yc Qp Z0 [] false (Xu good_Few5 O3.eq_def (Xu good_Right5 T4.eq_def (Xu good_plainL5 Qj1.eq_def (Xu good_alive05 B9.eq_def (Xu good_PrintG T8.eq_def (Xu good_SameA Fq.eq_def Yb))))));have Ko:=con_AstPrints.eq_def;refine Ve K Tryz.func5 [.tmp 4] rfl 46 rfl (fun c hc J0 Zo=>?_);unfold con_AstPrints at Zo;obtain ⟨⟨a⟩,⟨b⟩,rfl,⟨ha,hA⟩,hb,hB⟩:=Jh Zo;simp only at ha hA hb hB;clear Zo;cases Qz:Zdl a 120 with
 | false =>
  cases hc;refine Ym 2 ?_;exact Ng
 | true =>
 have ea:FewE a 120:=Zjl Qz;cases Q2:Zdl b 120 with
 | false =>
  cases hc;refine Ym 2 ?_;exact Ng
 | true =>
 have eb:FewE b 120:=Zjl Q2;have a2:=ea.fit6;have b2:=eb.fit6;have a3:=ea.in5 (by omega)
 have b3:=eb.in5 (by omega)
 have a4:=ea.len;have b4:=eb.len;cases Qx:Y6 a with
 | false =>
  cases hc;refine Ym 2 ?_;exact Ng
 | true =>
 cases Ql:Y6 b with
 | false =>
  cases hc;refine Ym 2 ?_;exact Ng
 | true =>
 cases Q3:Qj2 a with
 | false =>
  cases hc;refine Ym 2 ?_;exact Ng
 | true =>
 cases Ji:Qj2 b with
 | false =>
  cases hc;refine Ym 2 ?_;exact Ng
 | true =>
 have Q7:=Qmf Qx Ql Q3 Ji;obtain ⟨qa,_,_⟩:=Zv6 (by omega) Qx ea
 obtain ⟨qb,_,_⟩:=Zv6 (by omega) Ql eb
 obtain ⟨S,Jk⟩:=exq (Bn a b);obtain ⟨U,Jl⟩:=exq (Zv7 a);obtain ⟨V,Js⟩:=exq (Zv7 b);rw [Jk,Jl,Js] at Q7;have Zz:(S==S)=true:=beq_self_eq_true _;cases hc;refine Ym 2 ?_;exact Ng
end Go.Am.Ty
