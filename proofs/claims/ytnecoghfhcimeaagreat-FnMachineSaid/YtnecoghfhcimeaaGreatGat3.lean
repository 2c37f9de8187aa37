/- Gathered texts. -/
import Derived.Test.YtnecoghfhcimeaaGreatGat0
import Derived.Test.YtnecoghfhcimeaaGreatGat1
import Derived.Test.YtnecoghfhcimeaaGreatGat2
import Derived.Laws.Bits128
import Derived.Lib.ItoaNum
/- Names, sequences, kinds, rules and descriptions that are valid: the program's side. -/
namespace Go.Proofs.YtnecoghfhcimeaaGreat
set_option linter.unusedSimpArgs false
set_option linter.unusedVariables false
set_option linter.unusedSectionVars false
open Go.RowKit
theorem Zau{n:Nat}{a b c:World}{g:Nat}(h:Below n a b)(hg:n≤g)(k:Below g b c):Below n a c:=h.trans (k.mono hg)
set_option maxHeartbeats 4000000 in
theorem Dz(s:ByteArray)(hs:s.size≤maxLen):ACv Tryz.prog 61 [.str s] (.bool (decide (R6 s))):=by
 unfold maxLen at hs
 refine Zz Tryz.func61 rfl _ Tryz.ntmps61 (by simp) fun C hn hm=>?_
 by_cases hsz:1≤s.size∧s.size≤12
 ·repeat' (first
|refine Zbg Zk hn rfl ?_
|refine Zbh ?_
|refine Za 30 rfl ?_
|(refine Zbf 30 rfl ?_;first|refine Zg rfl ?_|refine Zm rfl ?_|(refine Zd rfl ?_ ?_;·first|omega|rfl|assumption)|(refine Ze rfl ?_ ?_;·first|omega|rfl|assumption)|refine Z1 rfl (fun h=>?_) (fun h=>?_)|refine Zbe (Zj hm rfl rfl ?_)|exact Zbe (Zf hm rfl rfl rfl (nbT rfl) rfl rfl))
|((first|refine Zh rfl rfl rfl ?_ ?_|refine Zy rfl rfl rfl ?_ ?_)<;>intro h<;>try(exfalso;first|omega|contradiction)))
  refine op_rangeS rfl (Nat.lt_of_lt_of_eq (nbT rfl) hn.symm) (by simp[CEnv,cst,Vb]) hm fun C1 g hn1 hm1 hg hgt hB=>Zbh ?_
  refine Zbf 30 rfl (Runs.keep [(16,.ro (.c (.pointer (some ⟨g,0,none⟩))))] ⟨rfl,trivial⟩ ?_)
  refine Zaz (fun n C' S=>∃j,j+n=s.size∧C'.n=43∧(∀b,¬C'.mu b)∧C'.w0.heap[g]?=some (.stringIter s j)∧Below C.w0.heap.size C.w0 C'.w0∧S=⟨[(16,.ro (.c (.pointer (some ⟨g,0,none⟩))))],[]⟩∧∀(i:Nat) c,i<j→s[i]?=some c→R5 c i) ?_ s.size C1 _ ⟨0,by omega,hn1.trans hn,hm1,hg,hB,rfl,fun i c h=>absurd h (by omega)⟩
  rintro n C2 S ⟨j,hj,hn,hm,hg,hB,rfl,hQ⟩ ih
  by_cases hlt:j<s.size
  ·obtain⟨x,hx⟩:∃x,s[j]?=some x:=⟨_,getElem?_pos s j hlt⟩
   have hxe:s[j]'hlt=x:=by rw[getElem?_pos s j hlt]at hx;injection hx
   obtain⟨c,wd,hdec⟩:∃c wd,Utf8.decode s j=(c,wd):=⟨_,_,rfl⟩
   have h1:x.toNat<128→c=x.toNat∧wd=1:=fun h=>by
    have:=decode_ascii s j hlt (by rw[hxe];exact h)
    rw[hdec,hxe]at this;injection this with e1 e2;exact⟨e1,e2⟩
   have h2:128≤x.toNat→128≤c:=fun h=>by
    have:=Rm s j hlt (by rw[hxe];exact h)
    rwa [hdec]at this
   refine Za 30 rfl (op_nextS rfl hg hlt (Nat.lt_of_lt_of_eq (nbT rfl) hn.symm) (by simp[CEnv,cst]) hm fun C3 hn3 hm3 hg3 hB3=>?_)
   simp only[hdec]at hg3 ⊢
   have hn:=hn3.trans hn
   have hB':=Zau hB hgt hB3
   repeat' (first
|refine Zbg Zk hn rfl ?_
|refine Zbh ?_
|refine Za 30 rfl ?_
|refine Zbf 30 rfl (Zbe (endsB hB' hm3 rfl rfl ?_))
|(refine Zbf 30 rfl ?_;first|refine Zg rfl ?_|refine Zm rfl ?_|(refine Zd rfl ?_ ?_;·first|omega|rfl|assumption)|(refine Ze rfl ?_ ?_;·first|omega|rfl|assumption)|refine Z1 rfl (fun h=>?_) (fun h=>?_)|refine Zbe (Zj hm rfl rfl ?_)|exact Zbe (Zf hm rfl rfl rfl (nbT rfl) rfl rfl))
|((first|refine Zh rfl rfl rfl ?_ ?_|refine Zy rfl rfl rfl ?_ ?_)<;>intro h<;>try(exfalso;first|omega|contradiction)))
   all_goals first
    |exact Z3 (decide_eq_false (p:=R6 s) fun hN=>by have:=hN.2.2 j x hx;unfold R5 at this;omega).symm
    |(obtain⟨e1,e2⟩:=h1 (by omega)
      refine Zbf 30 rfl (Runs.keep [(16,.ro (.c (.pointer (some ⟨g,0,none⟩))))] ⟨rfl,trivial⟩ (ih (n-1) (by omega) C3 _ ⟨j+1,by omega,hn,hm3,by rw[hg3,e2],hB',rfl,fun i c' hi hc=>?_⟩))
      by_cases e:i=j
      ·subst e;rw[hx]at hc;injection hc with hc;subst hc;unfold R5;omega
      ·exact hQ i c' (by omega) hc)
  ·refine Za 30 rfl (F6 rfl hg hlt (Nat.lt_of_lt_of_eq (nbT rfl) hn.symm) hm ?_)
   repeat' (first
|refine Zbg Zk hn rfl ?_
|refine Zbh ?_
|refine Za 30 rfl ?_
|refine Zbf 30 rfl (Zbe (endsB hB hm rfl rfl ?_))
|(refine Zbf 30 rfl ?_;first|refine Zg rfl ?_|refine Zm rfl ?_|(refine Zd rfl ?_ ?_;·first|omega|rfl|assumption)|(refine Ze rfl ?_ ?_;·first|omega|rfl|assumption)|refine Z1 rfl (fun h=>?_) (fun h=>?_)|refine Zbe (Zj hm rfl rfl ?_)|exact Zbe (Zf hm rfl rfl rfl (nbT rfl) rfl rfl))
|((first|refine Zh rfl rfl rfl ?_ ?_|refine Zy rfl rfl rfl ?_ ?_)<;>intro h<;>try(exfalso;first|omega|contradiction)))
   exact Z3 (decide_eq_true (p:=R6 s) ⟨hsz.1,hsz.2,fun i c hc=>hQ i c (by have:=str_lt hc;omega) hc⟩).symm
 ·repeat' (first
|refine Zbg Zk hn rfl ?_
|refine Zbh ?_
|refine Za 30 rfl ?_
|(refine Zbf 30 rfl ?_;first|refine Zg rfl ?_|refine Zm rfl ?_|(refine Zd rfl ?_ ?_;·first|omega|rfl|assumption)|(refine Ze rfl ?_ ?_;·first|omega|rfl|assumption)|refine Z1 rfl (fun h=>?_) (fun h=>?_)|refine Zbe (Zj hm rfl rfl ?_)|exact Zbe (Zf hm rfl rfl rfl (nbT rfl) rfl rfl))
|((first|refine Zh rfl rfl rfl ?_ ?_|refine Zy rfl rfl rfl ?_ ?_)<;>intro h<;>try(exfalso;first|omega|contradiction)))
  all_goals exact Z3 (decide_eq_false (p:=R6 s) fun hN=>hsz ⟨hN.1,hN.2.1⟩).symm
def Bv(r:Rul):Prop:=Plain r false false true false (-1)∧r.kids.length=r.names.length∧Bi r.names
noncomputable instance (r:Rul):Decidable (Bv r):=Classical.propDecidable _
set_option maxHeartbeats 4000000 in
theorem Tx(r:Rul)(hl:r.names.length≤maxLen)(ho:∀s∈r.names,s.size≤maxLen):ACv Tryz.prog 99 [.agg (Xz r)] (.bool (decide (Bv r))):=by
 have hlm:(r.names.map fun z=>[RV.str z]).length=r.names.length:=lmT ..
 have hpl:=Gx r (-1)
 unfold maxLen at hl
 refine Zz Tryz.func99 rfl _ Tryz.ntmps99 (by simp) fun C hn hm=>?_
 by_cases hP:Plain r false false true false (-1)
 ·by_cases h0:r.kids.length=r.names.length∧1≤r.names.length∧r.names.length≤8
  ·repeat' (first
|refine Zbg Zk hn rfl ?_
|refine Zbh ?_
|refine Za 30 rfl ?_
|(refine Zc hn rfl rfl rfl ?_;first
|refine⟨_,Zi hpl (by simp[ev,look,Xz]),?_⟩
|refine⟨_,Zi (Y2 _ _ _) rfl,?_⟩)
|(refine Zbf 30 rfl ?_;first|refine Zg rfl ?_|((first|refine Zd rfl ?_ ?_|refine Zp rfl ?_ ?_);·first|omega|rfl|assumption|(simp only[lmT];omega))|(refine Ze rfl ?_ ?_;·first|omega|rfl|assumption|(simp only[lmT];omega))|refine Z8 rfl (fun h=>?_) (fun h=>?_)|refine Zbe (Zj hm rfl rfl ?_)|exact Zbe (Zf hm rfl rfl rfl (nbT rfl) rfl rfl))
|refine Zs rfl (tl hn rfl) ?_
|(refine Zc hn rfl rfl rfl ?_;first
|refine⟨_,Zq rfl rfl (by omega),?_⟩
|refine⟨_,Zb rfl rfl (by omega) (by assumption),?_⟩
    )
|(refine Zy rfl rfl rfl ?_ ?_<;>intro h<;>try(exfalso;first|omega|contradiction|(simp only[lmT]at h;omega))))
   refine Yh 30 rfl (fun j=>[(25,.ro (Vw r.names)),(26,.int (r.names.length:Int)),(1,.obj 0 0),(27,.int (j:Int))]) (fun _=>[⟨78,0,[.str r.name,.int r.kind,.int r.size,.bool r.little,.ro (Ya r.bytes),.ro (Vw r.names),.ro (Xe r.tags),.ro (Xe r.kids)]⟩]) (fun j=>∀(i:Nat) x,i<j→r.names[i]?=some x→R6 x∧x∉r.names.take i) r.names.length 0 (Nat.zero_le _) (fun i x h=>absurd h (by omega)) ⟨rfl,by simp[look],rfl,rfl,trivial⟩ rfl fun j hj hQ next=>?_
   by_cases hlt:j<r.names.length
   ·obtain⟨x,hx⟩:∃x,r.names[(j:Int).toNat]?=some x:=⟨_,Za6 hlt⟩
    have hx':r.names[j]?=some x:=hx
    have hnm:=Dz x (ho x (Zba hx'))
    have hc:=Tc (r.names.take j) x (by rw[List.length_take];unfold maxLen;omega)
    by_cases h1:R6 x
    ·by_cases h2:x∈r.names.take j
     ·repeat' (first
|refine Zbg Zk hn rfl ?_
|refine Zbh ?_
|refine Za 30 rfl ?_
|(refine Zc hn rfl rfl rfl ?_;first
|refine⟨_,Zi hnm rfl,?_⟩
|refine⟨_,Zi hc rfl,?_⟩
|refine⟨_,Xv rfl rfl (by omega) (by omega),?_⟩)
|(refine Zbf 30 rfl ?_;first|refine Zg rfl ?_|((first|refine Zd rfl ?_ ?_|refine Zp rfl ?_ ?_);·first|omega|rfl|assumption|(simp only[lmT];omega))|(refine Ze rfl ?_ ?_;·first|omega|rfl|assumption|(simp only[lmT];omega))|refine Z8 rfl (fun h=>?_) (fun h=>?_)|refine Zbe (Zj hm rfl rfl ?_)|exact Zbe (Zf hm rfl rfl rfl (nbT rfl) rfl rfl))
|refine Zs rfl (tl hn rfl) ?_
|(refine Zc hn rfl rfl rfl ?_;first
|refine⟨_,Zq rfl rfl (by omega),?_⟩
|refine⟨_,Zb rfl rfl (by omega) (by assumption),?_⟩
       )
|(refine Zy rfl rfl rfl ?_ ?_<;>intro h<;>try(exfalso;first|omega|contradiction|(simp only[lmT]at h;omega))))
      exact Z3 (decide_eq_false (p:=Bv r) fun hN=>(hN.2.2.2.2 j x hx').2 h2).symm
     ·repeat' (first
|refine Zbg Zk hn rfl ?_
|refine Zbh ?_
|refine Za 30 rfl ?_
|(refine Zc hn rfl rfl rfl ?_;first
|refine⟨_,Zi hnm rfl,?_⟩
|refine⟨_,Zi hc rfl,?_⟩
|refine⟨_,Xv rfl rfl (by omega) (by omega),?_⟩)
|(refine Zbf 30 rfl ?_;first|refine Zg rfl ?_|((first|refine Zd rfl ?_ ?_|refine Zp rfl ?_ ?_);·first|omega|rfl|assumption|(simp only[lmT];omega))|(refine Ze rfl ?_ ?_;·first|omega|rfl|assumption|(simp only[lmT];omega))|refine Z8 rfl (fun h=>?_) (fun h=>?_)|refine Zbe (Zj hm rfl rfl ?_)|exact Zbe (Zf hm rfl rfl rfl (nbT rfl) rfl rfl))
|refine Zs rfl (tl hn rfl) ?_
|(refine Zc hn rfl rfl rfl ?_;first
|refine⟨_,Zq rfl rfl (by omega),?_⟩
|refine⟨_,Zb rfl rfl (by omega) (by assumption),?_⟩
       )
|(refine Zy rfl rfl rfl ?_ ?_<;>intro h<;>try(exfalso;first|omega|contradiction|(simp only[lmT]at h;omega))))
      refine next _ _ ⟨rfl,rfl,rfl,rfl,trivial⟩ hlt (fun i y hi hy=>?_) rfl
      by_cases e:i=j
      ·subst e;rw[hx']at hy;injection hy with hy;subst hy;exact⟨h1,h2⟩
      ·exact hQ i y (by omega) hy
    ·repeat' (first
|refine Zbg Zk hn rfl ?_
|refine Zbh ?_
|refine Za 30 rfl ?_
|(refine Zc hn rfl rfl rfl ?_;first
|refine⟨_,Zi hnm rfl,?_⟩
|refine⟨_,Zi hc rfl,?_⟩
|refine⟨_,Xv rfl rfl (by omega) (by omega),?_⟩)
|(refine Zbf 30 rfl ?_;first|refine Zg rfl ?_|((first|refine Zd rfl ?_ ?_|refine Zp rfl ?_ ?_);·first|omega|rfl|assumption|(simp only[lmT];omega))|(refine Ze rfl ?_ ?_;·first|omega|rfl|assumption|(simp only[lmT];omega))|refine Z8 rfl (fun h=>?_) (fun h=>?_)|refine Zbe (Zj hm rfl rfl ?_)|exact Zbe (Zf hm rfl rfl rfl (nbT rfl) rfl rfl))
|refine Zs rfl (tl hn rfl) ?_
|(refine Zc hn rfl rfl rfl ?_;first
|refine⟨_,Zq rfl rfl (by omega),?_⟩
|refine⟨_,Zb rfl rfl (by omega) (by assumption),?_⟩
      )
|(refine Zy rfl rfl rfl ?_ ?_<;>intro h<;>try(exfalso;first|omega|contradiction|(simp only[lmT]at h;omega))))
     exact Z3 (decide_eq_false (p:=Bv r) fun hN=>h1 (hN.2.2.2.2 j x hx').1).symm
   ·repeat' (first
|refine Zbg Zk hn rfl ?_
|refine Zbh ?_
|refine Za 30 rfl ?_
|(refine Zbf 30 rfl ?_;first|refine Zg rfl ?_|((first|refine Zd rfl ?_ ?_|refine Zp rfl ?_ ?_);·first|omega|rfl|assumption|(simp only[lmT];omega))|(refine Ze rfl ?_ ?_;·first|omega|rfl|assumption|(simp only[lmT];omega))|refine Z8 rfl (fun h=>?_) (fun h=>?_)|refine Zbe (Zj hm rfl rfl ?_)|exact Zbe (Zf hm rfl rfl rfl (nbT rfl) rfl rfl))
|refine Zs rfl (tl hn rfl) ?_
|(refine Zc hn rfl rfl rfl ?_;first
|refine⟨_,Zq rfl rfl (by omega),?_⟩
|refine⟨_,Zb rfl rfl (by omega) (by assumption),?_⟩
     )
|(refine Zy rfl rfl rfl ?_ ?_<;>intro h<;>try(exfalso;first|omega|contradiction|(simp only[lmT]at h;omega))))
    exact Z3 (decide_eq_true (p:=Bv r) ⟨hP,h0.1,h0.2.1,h0.2.2,fun i x hx=>hQ i x (by have:=(Za5.1 hx).1;omega) hx⟩).symm
  ·repeat' (first
|refine Zbg Zk hn rfl ?_
|refine Zbh ?_
|refine Za 30 rfl ?_
|(refine Zc hn rfl rfl rfl ?_;first
|refine⟨_,Zi hpl (by simp[ev,look,Xz]),?_⟩
|refine⟨_,Zi (Y2 _ _ _) rfl,?_⟩)
|(refine Zbf 30 rfl ?_;first|refine Zg rfl ?_|((first|refine Zd rfl ?_ ?_|refine Zp rfl ?_ ?_);·first|omega|rfl|assumption|(simp only[lmT];omega))|(refine Ze rfl ?_ ?_;·first|omega|rfl|assumption|(simp only[lmT];omega))|refine Z8 rfl (fun h=>?_) (fun h=>?_)|refine Zbe (Zj hm rfl rfl ?_)|exact Zbe (Zf hm rfl rfl rfl (nbT rfl) rfl rfl))
|refine Zs rfl (tl hn rfl) ?_
|(refine Zc hn rfl rfl rfl ?_;first
|refine⟨_,Zq rfl rfl (by omega),?_⟩
|refine⟨_,Zb rfl rfl (by omega) (by assumption),?_⟩
    )
|(refine Zy rfl rfl rfl ?_ ?_<;>intro h<;>try(exfalso;first|omega|contradiction|(simp only[lmT]at h;omega))))
   all_goals first
    |exact Z3 (decide_eq_false (p:=Bv r) fun hN=>h0 ⟨hN.2.1,hN.2.2.1,hN.2.2.2.1⟩).symm
    |(exfalso;simp only[lmT]at *;omega)
 ·repeat' (first
|refine Zbg Zk hn rfl ?_
|refine Zbh ?_
|refine Za 30 rfl ?_
|(refine Zc hn rfl rfl rfl ?_;first
|refine⟨_,Zi hpl (by simp[ev,look,Xz]),?_⟩
|refine⟨_,Zi (Y2 _ _ _) rfl,?_⟩)
|(refine Zbf 30 rfl ?_;first|refine Zg rfl ?_|((first|refine Zd rfl ?_ ?_|refine Zp rfl ?_ ?_);·first|omega|rfl|assumption|(simp only[lmT];omega))|(refine Ze rfl ?_ ?_;·first|omega|rfl|assumption|(simp only[lmT];omega))|refine Z8 rfl (fun h=>?_) (fun h=>?_)|refine Zbe (Zj hm rfl rfl ?_)|exact Zbe (Zf hm rfl rfl rfl (nbT rfl) rfl rfl))
|refine Zs rfl (tl hn rfl) ?_
|(refine Zc hn rfl rfl rfl ?_;first
|refine⟨_,Zq rfl rfl (by omega),?_⟩
|refine⟨_,Zb rfl rfl (by omega) (by assumption),?_⟩
   )
|(refine Zy rfl rfl rfl ?_ ?_<;>intro h<;>try(exfalso;first|omega|contradiction|(simp only[lmT]at h;omega))))
  all_goals exact Z3 (decide_eq_false (p:=Bv r) fun hN=>hP hN.1).symm
def Ja(d:Des)(r:Rul):Prop:=
 (r.kind=1∧Plain r true false false false 0∧InR r.size 1 4∧(r.little=false∨1<r.size)) ∨
 (r.kind=2∧Plain r false true false false 0∧InR r.bytes.length 1 16) ∨
 (r.kind=3∧Plain r true false false false 0∧InR r.size 1 64) ∨
 (r.kind=4∧Plain r false false false false 1∧0<lim d (r.kids.headD 0)) ∨
 (r.kind=5∧Plain r false false false false 2∧0<lim d (r.kids.headD 0)) ∨
 (r.kind=6∧Bv r) ∨
 (r.kind=7∧U6 d r) ∨
 ((r.kind=8∨r.kind=9)∧Plain r false false false false 1) ∨
 (r.kind=10∧Plain r false true false false 0∧r.bytes.length=1∧r.bytes.headD 0≠92)
noncomputable instance (d:Des) (r:Rul):Decidable (Ja d r):=Classical.propDecidable _
theorem Plain.kids{r:Rul}{a b c d:Bool}{k:Int}(h:Plain r a b c d k)(hk:0≤k):(r.kids.length:Int)=k:=by
 have:=h.2.2.2.2;omega
theorem seqOk_iff{r:Rul}:Bv r∧(r.little=false∨r.kind=1)↔Shape r false false true false r.names.length∧Bi r.names:=by
 unfold Bv Shape Plain
 constructor
 ·rintro⟨⟨⟨a,b,c,d,e⟩,f,g⟩,h⟩
  exact⟨⟨⟨a,b,c,d,by omega⟩,h⟩,g⟩
 ·rintro⟨⟨⟨a,b,c,d,e⟩,h⟩,g⟩
  exact⟨⟨⟨a,b,c,d,by omega⟩,by omega,g⟩,h⟩
theorem Oz{d:Des}{r:Rul}:U6 d r∧(r.little=false∨r.kind=1)↔Shape r false false false true (-1)∧Tt d r:=by
 unfold U6 Shape Plain
 constructor
 ·rintro⟨⟨⟨a,b,c,d,e⟩,g⟩,h⟩
  exact⟨⟨⟨a,b,c,d,by omega⟩,h⟩,g⟩
 ·rintro⟨⟨⟨a,b,c,d,e⟩,h⟩,g⟩
  exact⟨⟨⟨a,b,c,d,.inr (by have:=g.1;omega)⟩,g⟩,h⟩
theorem kindI_iff(d:Des)(r:Rul):Ja d r∧(r.little=false∨r.kind=1)↔Xi d r:=by
 unfold Ja Xi
 have h1:=@seqOk_iff r
 have h2:=@Oz d r
 unfold Shape at h1 h2 ⊢
 constructor
 ·rintro⟨(h|h|h|h|h|h|h|h|h),hl⟩
  ·exact .inl ⟨h.1,⟨h.2.1,hl⟩,h.2.2⟩
  ·exact .inr (.inl ⟨h.1,⟨h.2.1,hl⟩,h.2.2⟩)
  ·exact .inr (.inr (.inl ⟨h.1,⟨h.2.1,hl⟩,h.2.2⟩))
  ·exact .inr (.inr (.inr (.inl ⟨h.1,⟨h.2.1,hl⟩,h.2.2⟩)))
  ·exact .inr (.inr (.inr (.inr (.inl ⟨h.1,⟨h.2.1,hl⟩,h.2.2⟩))))
  ·exact .inr (.inr (.inr (.inr (.inr (.inl ⟨h.1,h1.1 ⟨h.2,hl⟩⟩)))))
  ·exact .inr (.inr (.inr (.inr (.inr (.inr (.inl ⟨h.1,h2.1 ⟨h.2,hl⟩⟩))))))
  ·exact .inr (.inr (.inr (.inr (.inr (.inr (.inr (.inl ⟨h.1,h.2,hl⟩)))))))
  ·exact .inr (.inr (.inr (.inr (.inr (.inr (.inr (.inr ⟨h.1,⟨h.2.1,hl⟩,h.2.2⟩)))))))
 ·rintro(h|h|h|h|h|h|h|h|h)
  ·exact⟨.inl ⟨h.1,h.2.1.1,h.2.2⟩,h.2.1.2⟩
  ·exact⟨.inr (.inl ⟨h.1,h.2.1.1,h.2.2⟩),h.2.1.2⟩
  ·exact⟨.inr (.inr (.inl ⟨h.1,h.2.1.1,h.2.2⟩)),h.2.1.2⟩
  ·exact⟨.inr (.inr (.inr (.inl ⟨h.1,h.2.1.1,h.2.2⟩))),h.2.1.2⟩
  ·exact⟨.inr (.inr (.inr (.inr (.inl ⟨h.1,h.2.1.1,h.2.2⟩)))),h.2.1.2⟩
  ·exact⟨.inr (.inr (.inr (.inr (.inr (.inl ⟨h.1,(h1.2 h.2).1⟩))))),(h1.2 h.2).2⟩
  ·exact⟨.inr (.inr (.inr (.inr (.inr (.inr (.inl ⟨h.1,(h2.2 h.2).1⟩)))))),(h2.2 h.2).2⟩
  ·exact⟨.inr (.inr (.inr (.inr (.inr (.inr (.inr (.inl ⟨h.1,h.2.1⟩))))))),h.2.2⟩
  ·exact⟨.inr (.inr (.inr (.inr (.inr (.inr (.inr (.inr ⟨h.1,h.2.1.1,h.2.2⟩))))))),h.2.1.2⟩
set_option maxHeartbeats 8000000 in
theorem H9(d:Des)(r:Rul)(hl:d.length≤maxLen)(ht:r.tags.length≤1048576)(hnl:r.names.length≤maxLen)(hns:∀s∈r.names,s.size≤maxLen):ACv Tryz.prog 62 [X1 d,.agg (Xz r)] (.bool (decide (Ja d r))):=by
 have hseq:=Tx r hnl hns
 have hcho:=Bm d r hl ht
 have hlim:=Kq d (r.kids.headD 0) hl
 refine Zz Tryz.func62 rfl _ Tryz.ntmps62 (by simp) fun C hn hm=>?_
 by_cases k1:r.kind=1
 ·repeat' (first
|refine Zbg Zk hn rfl ?_
|refine Zbh ?_
|refine Za 30 rfl ?_
|((first|refine Zc hn rfl rfl rfl ?_|refine Zl rfl rfl ?_);first
|refine⟨_,Zi (M1 r _) rfl,?_⟩
|refine⟨_,Zi (Y2 _ _ _) rfl,?_⟩)
|(refine Zbf 30 rfl ?_;first|refine Zg rfl ?_|(refine Zd rfl ?_ ?_;·first|omega|rfl|assumption|(simp only[lmT];omega))|(refine Ze rfl ?_ ?_;·first|omega|rfl|assumption|(simp only[lmT];omega))|refine Zbe (Zj hm rfl rfl ?_)|exact Zbe (Zf hm rfl rfl rfl (nbT rfl) rfl rfl))
|refine Zs rfl (tl hn rfl) ?_
|refine Zbi Zk hn rfl rfl ?_
|refine Zbj ?_
|refine Zo 30 Yc hn rfl (by kernel_rfl) rfl ?_
|((first|refine Zc hn rfl rfl rfl ?_|refine Zl rfl rfl ?_);first
|refine⟨_,Zb rfl rfl (by omega) (by assumption),?_⟩)
|((first|refine Zh rfl rfl rfl ?_ ?_|refine Yf rfl rfl rfl ?_ ?_|refine Zv rfl rfl rfl ?_ ?_)<;>intro h<;>try(exfalso;first|omega|contradiction|(simp only[lmT]at h;omega))))
  all_goals exact Z3 (by rw[Bool.eq_iff_iff];simp[Ja, *])
 by_cases k2:r.kind=2
 ·repeat' (first
|refine Zbg Zk hn rfl ?_
|refine Zbh ?_
|refine Za 30 rfl ?_
|((first|refine Zc hn rfl rfl rfl ?_|refine Zl rfl rfl ?_);first
|refine⟨_,Zi (K0 r _) rfl,?_⟩
|refine⟨_,Zi (Y2 _ _ _) rfl,?_⟩)
|(refine Zbf 30 rfl ?_;first|refine Zg rfl ?_|(refine Zd rfl ?_ ?_;·first|omega|rfl|assumption|(simp only[lmT];omega))|(refine Ze rfl ?_ ?_;·first|omega|rfl|assumption|(simp only[lmT];omega))|refine Zbe (Zj hm rfl rfl ?_)|exact Zbe (Zf hm rfl rfl rfl (nbT rfl) rfl rfl))
|refine Zs rfl (tl hn rfl) ?_
|refine Zbi Zk hn rfl rfl ?_
|refine Zbj ?_
|refine Zo 30 Yc hn rfl (by kernel_rfl) rfl ?_
|((first|refine Zc hn rfl rfl rfl ?_|refine Zl rfl rfl ?_);first
|refine⟨_,Zb rfl rfl (by omega) (by assumption),?_⟩)
|((first|refine Zh rfl rfl rfl ?_ ?_|refine Yf rfl rfl rfl ?_ ?_|refine Zv rfl rfl rfl ?_ ?_)<;>intro h<;>try(exfalso;first|omega|contradiction|(simp only[lmT]at h;omega))))
  all_goals exact Z3 (by rw[Bool.eq_iff_iff];simp[Ja, *])
 by_cases k3:r.kind=3
 ·repeat' (first
|refine Zbg Zk hn rfl ?_
|refine Zbh ?_
|refine Za 30 rfl ?_
|((first|refine Zc hn rfl rfl rfl ?_|refine Zl rfl rfl ?_);first
|refine⟨_,Zi (M1 r _) rfl,?_⟩
|refine⟨_,Zi (Y2 _ _ _) rfl,?_⟩)
|(refine Zbf 30 rfl ?_;first|refine Zg rfl ?_|(refine Zd rfl ?_ ?_;·first|omega|rfl|assumption|(simp only[lmT];omega))|(refine Ze rfl ?_ ?_;·first|omega|rfl|assumption|(simp only[lmT];omega))|refine Zbe (Zj hm rfl rfl ?_)|exact Zbe (Zf hm rfl rfl rfl (nbT rfl) rfl rfl))
|refine Zs rfl (tl hn rfl) ?_
|refine Zbi Zk hn rfl rfl ?_
|refine Zbj ?_
|refine Zo 30 Yc hn rfl (by kernel_rfl) rfl ?_
|((first|refine Zc hn rfl rfl rfl ?_|refine Zl rfl rfl ?_);first
|refine⟨_,Zb rfl rfl (by omega) (by assumption),?_⟩)
|((first|refine Zh rfl rfl rfl ?_ ?_|refine Yf rfl rfl rfl ?_ ?_|refine Zv rfl rfl rfl ?_ ?_)<;>intro h<;>try(exfalso;first|omega|contradiction|(simp only[lmT]at h;omega))))
  all_goals exact Z3 (by rw[Bool.eq_iff_iff];simp[Ja, *])
 by_cases k4:r.kind=4
 ·by_cases hS:Plain r false false false false 1
  ·have hk0:=Td (l:=r.kids) (by have:=hS.kids (by omega);omega)
   repeat' (first
|refine Zbg Zk hn rfl ?_
|refine Zbh ?_
|refine Za 30 rfl ?_
|((first|refine Zc hn rfl rfl rfl ?_|refine Zl rfl rfl ?_);first
|refine⟨_,Zi (W4 r _) rfl,?_⟩
|refine⟨_,Zi hlim rfl,?_⟩)
|(refine Zbf 30 rfl ?_;first|refine Zg rfl ?_|(refine Zd rfl ?_ ?_;·first|omega|rfl|assumption|(simp only[lmT];omega))|(refine Ze rfl ?_ ?_;·first|omega|rfl|assumption|(simp only[lmT];omega))|refine Zbe (Zj hm rfl rfl ?_)|exact Zbe (Zf hm rfl rfl rfl (nbT rfl) rfl rfl))
|refine Zs rfl (tl hn rfl) ?_
|refine Zbi Zk hn rfl rfl ?_
|refine Zbj ?_
|refine Zo 30 Yc hn rfl (by kernel_rfl) rfl ?_
|((first|refine Zc hn rfl rfl rfl ?_|refine Zl rfl rfl ?_);first
|refine⟨_,Zb rfl rfl (by omega) (by assumption),?_⟩)
|((first|refine Zh rfl rfl rfl ?_ ?_|refine Yf rfl rfl rfl ?_ ?_|refine Zv rfl rfl rfl ?_ ?_)<;>intro h<;>try(exfalso;first|omega|contradiction|(simp only[lmT]at h;omega))))
   all_goals exact Z3 (by rw[Bool.eq_iff_iff];simp[Ja, *])
  ·repeat' (first
|refine Zbg Zk hn rfl ?_
|refine Zbh ?_
|refine Za 30 rfl ?_
|((first|refine Zc hn rfl rfl rfl ?_|refine Zl rfl rfl ?_);first
|refine⟨_,Zi (W4 r _) rfl,?_⟩)
|(refine Zbf 30 rfl ?_;first|refine Zg rfl ?_|(refine Zd rfl ?_ ?_;·first|omega|rfl|assumption|(simp only[lmT];omega))|(refine Ze rfl ?_ ?_;·first|omega|rfl|assumption|(simp only[lmT];omega))|refine Zbe (Zj hm rfl rfl ?_)|exact Zbe (Zf hm rfl rfl rfl (nbT rfl) rfl rfl))
|refine Zs rfl (tl hn rfl) ?_
|refine Zbi Zk hn rfl rfl ?_
|refine Zbj ?_
|refine Zo 30 Yc hn rfl (by kernel_rfl) rfl ?_
|((first|refine Zc hn rfl rfl rfl ?_|refine Zl rfl rfl ?_);first
|refine⟨_,Zb rfl rfl (by omega) (by assumption),?_⟩)
|((first|refine Zh rfl rfl rfl ?_ ?_|refine Yf rfl rfl rfl ?_ ?_|refine Zv rfl rfl rfl ?_ ?_)<;>intro h<;>try(exfalso;first|omega|contradiction|(simp only[lmT]at h;omega))))
   all_goals exact Z3 (by rw[Bool.eq_iff_iff];simp[Ja, *])
 by_cases k5:r.kind=5
 ·by_cases hS:Plain r false false false false 2
  ·have hk0:=Td (l:=r.kids) (by have:=hS.kids (by omega);omega)
   repeat' (first
|refine Zbg Zk hn rfl ?_
|refine Zbh ?_
|refine Za 30 rfl ?_
|((first|refine Zc hn rfl rfl rfl ?_|refine Zl rfl rfl ?_);first
|refine⟨_,Zi (W4 r _) rfl,?_⟩
|refine⟨_,Zi hlim rfl,?_⟩)
|(refine Zbf 30 rfl ?_;first|refine Zg rfl ?_|(refine Zd rfl ?_ ?_;·first|omega|rfl|assumption|(simp only[lmT];omega))|(refine Ze rfl ?_ ?_;·first|omega|rfl|assumption|(simp only[lmT];omega))|refine Zbe (Zj hm rfl rfl ?_)|exact Zbe (Zf hm rfl rfl rfl (nbT rfl) rfl rfl))
|refine Zs rfl (tl hn rfl) ?_
|refine Zbi Zk hn rfl rfl ?_
|refine Zbj ?_
|refine Zo 30 Yc hn rfl (by kernel_rfl) rfl ?_
|((first|refine Zc hn rfl rfl rfl ?_|refine Zl rfl rfl ?_);first
|refine⟨_,Zb rfl rfl (by omega) (by assumption),?_⟩)
|((first|refine Zh rfl rfl rfl ?_ ?_|refine Yf rfl rfl rfl ?_ ?_|refine Zv rfl rfl rfl ?_ ?_)<;>intro h<;>try(exfalso;first|omega|contradiction|(simp only[lmT]at h;omega))))
   all_goals exact Z3 (by rw[Bool.eq_iff_iff];simp[Ja, *])
  ·repeat' (first
|refine Zbg Zk hn rfl ?_
|refine Zbh ?_
|refine Za 30 rfl ?_
|((first|refine Zc hn rfl rfl rfl ?_|refine Zl rfl rfl ?_);first
|refine⟨_,Zi (W4 r _) rfl,?_⟩)
|(refine Zbf 30 rfl ?_;first|refine Zg rfl ?_|(refine Zd rfl ?_ ?_;·first|omega|rfl|assumption|(simp only[lmT];omega))|(refine Ze rfl ?_ ?_;·first|omega|rfl|assumption|(simp only[lmT];omega))|refine Zbe (Zj hm rfl rfl ?_)|exact Zbe (Zf hm rfl rfl rfl (nbT rfl) rfl rfl))
|refine Zs rfl (tl hn rfl) ?_
|refine Zbi Zk hn rfl rfl ?_
|refine Zbj ?_
|refine Zo 30 Yc hn rfl (by kernel_rfl) rfl ?_
|((first|refine Zc hn rfl rfl rfl ?_|refine Zl rfl rfl ?_);first
|refine⟨_,Zb rfl rfl (by omega) (by assumption),?_⟩)
|((first|refine Zh rfl rfl rfl ?_ ?_|refine Yf rfl rfl rfl ?_ ?_|refine Zv rfl rfl rfl ?_ ?_)<;>intro h<;>try(exfalso;first|omega|contradiction|(simp only[lmT]at h;omega))))
   all_goals exact Z3 (by rw[Bool.eq_iff_iff];simp[Ja, *])
 by_cases k6:r.kind=6
 ·repeat' (first
|refine Zbg Zk hn rfl ?_
|refine Zbh ?_
|refine Za 30 rfl ?_
|((first|refine Zc hn rfl rfl rfl ?_|refine Zl rfl rfl ?_);first
|refine⟨_,Zi hseq rfl,?_⟩)
|(refine Zbf 30 rfl ?_;first|refine Zg rfl ?_|(refine Zd rfl ?_ ?_;·first|omega|rfl|assumption|(simp only[lmT];omega))|(refine Ze rfl ?_ ?_;·first|omega|rfl|assumption|(simp only[lmT];omega))|refine Zbe (Zj hm rfl rfl ?_)|exact Zbe (Zf hm rfl rfl rfl (nbT rfl) rfl rfl))
|refine Zs rfl (tl hn rfl) ?_
|refine Zbi Zk hn rfl rfl ?_
|refine Zbj ?_
|refine Zo 30 Yc hn rfl (by kernel_rfl) rfl ?_
|((first|refine Zc hn rfl rfl rfl ?_|refine Zl rfl rfl ?_);first
|refine⟨_,Zb rfl rfl (by omega) (by assumption),?_⟩)
|((first|refine Zh rfl rfl rfl ?_ ?_|refine Yf rfl rfl rfl ?_ ?_|refine Zv rfl rfl rfl ?_ ?_)<;>intro h<;>try(exfalso;first|omega|contradiction|(simp only[lmT]at h;omega))))
  all_goals exact Z3 (by rw[Bool.eq_iff_iff];simp[Ja, *])
 by_cases k7:r.kind=7
 ·repeat' (first
|refine Zbg Zk hn rfl ?_
|refine Zbh ?_
|refine Za 30 rfl ?_
|((first|refine Zc hn rfl rfl rfl ?_|refine Zl rfl rfl ?_);first
|refine⟨_,Zi hcho rfl,?_⟩)
|(refine Zbf 30 rfl ?_;first|refine Zg rfl ?_|(refine Zd rfl ?_ ?_;·first|omega|rfl|assumption|(simp only[lmT];omega))|(refine Ze rfl ?_ ?_;·first|omega|rfl|assumption|(simp only[lmT];omega))|refine Zbe (Zj hm rfl rfl ?_)|exact Zbe (Zf hm rfl rfl rfl (nbT rfl) rfl rfl))
|refine Zs rfl (tl hn rfl) ?_
|refine Zbi Zk hn rfl rfl ?_
|refine Zbj ?_
|refine Zo 30 Yc hn rfl (by kernel_rfl) rfl ?_
|((first|refine Zc hn rfl rfl rfl ?_|refine Zl rfl rfl ?_);first
|refine⟨_,Zb rfl rfl (by omega) (by assumption),?_⟩)
|((first|refine Zh rfl rfl rfl ?_ ?_|refine Yf rfl rfl rfl ?_ ?_|refine Zv rfl rfl rfl ?_ ?_)<;>intro h<;>try(exfalso;first|omega|contradiction|(simp only[lmT]at h;omega))))
  all_goals exact Z3 (by rw[Bool.eq_iff_iff];simp[Ja, *])
 by_cases k8:r.kind=8
 ·repeat' (first
|refine Zbg Zk hn rfl ?_
|refine Zbh ?_
|refine Za 30 rfl ?_
|((first|refine Zc hn rfl rfl rfl ?_|refine Zl rfl rfl ?_);first
|refine⟨_,Zi (W4 r _) rfl,?_⟩)
|(refine Zbf 30 rfl ?_;first|refine Zg rfl ?_|(refine Zd rfl ?_ ?_;·first|omega|rfl|assumption|(simp only[lmT];omega))|(refine Ze rfl ?_ ?_;·first|omega|rfl|assumption|(simp only[lmT];omega))|refine Zbe (Zj hm rfl rfl ?_)|exact Zbe (Zf hm rfl rfl rfl (nbT rfl) rfl rfl))
|refine Zs rfl (tl hn rfl) ?_
|refine Zbi Zk hn rfl rfl ?_
|refine Zbj ?_
|refine Zo 30 Yc hn rfl (by kernel_rfl) rfl ?_
|((first|refine Zc hn rfl rfl rfl ?_|refine Zl rfl rfl ?_);first
|refine⟨_,Zb rfl rfl (by omega) (by assumption),?_⟩)
|((first|refine Zh rfl rfl rfl ?_ ?_|refine Yf rfl rfl rfl ?_ ?_|refine Zv rfl rfl rfl ?_ ?_)<;>intro h<;>try(exfalso;first|omega|contradiction|(simp only[lmT]at h;omega))))
  all_goals exact Z3 (by rw[Bool.eq_iff_iff];simp[Ja, *])
 by_cases k9:r.kind=9
 ·repeat' (first
|refine Zbg Zk hn rfl ?_
|refine Zbh ?_
|refine Za 30 rfl ?_
|((first|refine Zc hn rfl rfl rfl ?_|refine Zl rfl rfl ?_);first
|refine⟨_,Zi (W4 r _) rfl,?_⟩)
|(refine Zbf 30 rfl ?_;first|refine Zg rfl ?_|(refine Zd rfl ?_ ?_;·first|omega|rfl|assumption|(simp only[lmT];omega))|(refine Ze rfl ?_ ?_;·first|omega|rfl|assumption|(simp only[lmT];omega))|refine Zbe (Zj hm rfl rfl ?_)|exact Zbe (Zf hm rfl rfl rfl (nbT rfl) rfl rfl))
|refine Zs rfl (tl hn rfl) ?_
|refine Zbi Zk hn rfl rfl ?_
|refine Zbj ?_
|refine Zo 30 Yc hn rfl (by kernel_rfl) rfl ?_
|((first|refine Zc hn rfl rfl rfl ?_|refine Zl rfl rfl ?_);first
|refine⟨_,Zb rfl rfl (by omega) (by assumption),?_⟩)
|((first|refine Zh rfl rfl rfl ?_ ?_|refine Yf rfl rfl rfl ?_ ?_|refine Zv rfl rfl rfl ?_ ?_)<;>intro h<;>try(exfalso;first|omega|contradiction|(simp only[lmT]at h;omega))))
  all_goals exact Z3 (by rw[Bool.eq_iff_iff];simp[Ja, *])
 by_cases k10:r.kind=10
 ·by_cases hb:r.bytes.length=1
  ·have hb0:=S7 (l:=r.bytes) (by omega)
   have hu:((r.bytes.headD 0).toNat:Int)=92↔r.bytes.headD 0=92:=⟨fun h=>u8_ext h,fun h=>by rw[h];rfl⟩
   repeat' (first
|refine Zbg Zk hn rfl ?_
|refine Zbh ?_
|refine Za 30 rfl ?_
|((first|refine Zc hn rfl rfl rfl ?_|refine Zl rfl rfl ?_);first
|refine⟨_,Zi (K0 r _) rfl,?_⟩)
|(refine Zbf 30 rfl ?_;first|refine Zg rfl ?_|(refine Zd rfl ?_ ?_;·first|omega|rfl|assumption|(simp only[lmT];omega))|(refine Ze rfl ?_ ?_;·first|omega|rfl|assumption|(simp only[lmT];omega))|refine Zbe (Zj hm rfl rfl ?_)|exact Zbe (Zf hm rfl rfl rfl (nbT rfl) rfl rfl))
|refine Zs rfl (tl hn rfl) ?_
|refine Zbi Zk hn rfl rfl ?_
|refine Zbj ?_
|refine Zo 30 Yc hn rfl (by kernel_rfl) rfl ?_
|((first|refine Zc hn rfl rfl rfl ?_|refine Zl rfl rfl ?_);first
|refine⟨_,Zb rfl rfl (by omega) (by assumption),?_⟩)
|((first|refine Zh rfl rfl rfl ?_ ?_|refine Yf rfl rfl rfl ?_ ?_|refine Zv rfl rfl rfl ?_ ?_)<;>intro h<;>try(exfalso;first|omega|contradiction|(simp only[lmT]at h;omega))))
   all_goals exact Z3 (by rw[Bool.eq_iff_iff];first|(simp[Ja, *];done)|(simp[Ja, *];exact not_congr (by simpa using hu)))
  ·repeat' (first
|refine Zbg Zk hn rfl ?_
|refine Zbh ?_
|refine Za 30 rfl ?_
|((first|refine Zc hn rfl rfl rfl ?_|refine Zl rfl rfl ?_);first
|refine⟨_,Zi (K0 r _) rfl,?_⟩)
|(refine Zbf 30 rfl ?_;first|refine Zg rfl ?_|(refine Zd rfl ?_ ?_;·first|omega|rfl|assumption|(simp only[lmT];omega))|(refine Ze rfl ?_ ?_;·first|omega|rfl|assumption|(simp only[lmT];omega))|refine Zbe (Zj hm rfl rfl ?_)|exact Zbe (Zf hm rfl rfl rfl (nbT rfl) rfl rfl))
|refine Zs rfl (tl hn rfl) ?_
|refine Zbi Zk hn rfl rfl ?_
|refine Zbj ?_
|refine Zo 30 Yc hn rfl (by kernel_rfl) rfl ?_
|((first|refine Zc hn rfl rfl rfl ?_|refine Zl rfl rfl ?_);first
|refine⟨_,Zb rfl rfl (by omega) (by assumption),?_⟩)
|((first|refine Zh rfl rfl rfl ?_ ?_|refine Yf rfl rfl rfl ?_ ?_|refine Zv rfl rfl rfl ?_ ?_)<;>intro h<;>try(exfalso;first|omega|contradiction|(simp only[lmT]at h;omega))))
   all_goals exact Z3 (by rw[Bool.eq_iff_iff];simp[Ja, *])
 ·repeat' (first
|refine Zbg Zk hn rfl ?_
|refine Zbh ?_
|refine Za 30 rfl ?_
|(refine Zbf 30 rfl ?_;first|refine Zg rfl ?_|(refine Zd rfl ?_ ?_;·first|omega|rfl|assumption|(simp only[lmT];omega))|(refine Ze rfl ?_ ?_;·first|omega|rfl|assumption|(simp only[lmT];omega))|refine Zbe (Zj hm rfl rfl ?_)|exact Zbe (Zf hm rfl rfl rfl (nbT rfl) rfl rfl))
|refine Zs rfl (tl hn rfl) ?_
|refine Zbi Zk hn rfl rfl ?_
|refine Zbj ?_
|refine Zo 30 Yc hn rfl (by kernel_rfl) rfl ?_
|((first|refine Zc hn rfl rfl rfl ?_|refine Zl rfl rfl ?_);first
|refine⟨_,Zb rfl rfl (by omega) (by assumption),?_⟩)
|((first|refine Zh rfl rfl rfl ?_ ?_|refine Yf rfl rfl rfl ?_ ?_|refine Zv rfl rfl rfl ?_ ?_)<;>intro h<;>try(exfalso;first|omega|contradiction|(simp only[lmT]at h;omega))))
  all_goals exact Z3 (by rw[Bool.eq_iff_iff];simp[Ja, *])
set_option maxHeartbeats 8000000 in
theorem T4(d:Des)(ho:H0 d)(hd:Wi d≤1048576)(i:Int)(hi:I64 i):ACv Tryz.prog 31 [X1 d,.int i] (.bool (decide (V2 d i))):=by
 have hlm:(d.map Xz).length=d.length:=lmT ..
 have hl:=ho.len
 have et:Wi d=d.length+(d.map Rul.total).sum:=rfl
 unfold I64 at hi
 by_cases hx:HasR d i
 ·obtain⟨r,hr⟩:∃r,d[i.toNat]?=some r:=⟨_,Za6 (by omega)⟩
  have hmem:=Zba hr
  have hro:=ho.rules r hmem
  obtain⟨o1,o2,o3,o4,o5,o6,o7⟩:=hro.lens
  have hrt:=U7 Rul.total hmem
  have er:r.total=r.name.size+r.bytes.length+(r.names.length+(r.names.map ByteArray.size).sum)+r.tags.length+r.kids.length:=rfl
  have hnm:=Dz r.name o1
  have hk:=H9 d r hl (by omega) o3 o4
  have hiff:=N0 hx.1 hr
  have hkk:=kindI_iff d r
  have hhr:=Qa d i
  obtain⟨n,rfl⟩:∃n:Nat,i=n:=⟨i.toNat,by omega⟩
  simp only[Int.toNat_natCast]at hiff
  have hlt0:n<d.length:=by have:=hx.2;omega
  have htl:(d.take n).length=n:=by rw[List.length_take];omega
  have htlm:((d.take n).map Xz).length=n:=by rw[lmT];exact htl
  refine Zz Tryz.func31 rfl _ Tryz.ntmps31 (by simp) fun C hn hm=>?_
  by_cases hn1:R6 r.name
  ·by_cases hli:r.little=false∨r.kind=1
   ·have hli':¬(r.little=true∧¬r.kind=1):=fun h=>by rcases hli with e|e;rw[e]at h;cases h.1;exact h.2 e
    repeat' (first
|refine Zbg Zk hn rfl ?_
|refine Zbh ?_
|refine Za 30 rfl ?_
|(refine Zc hn rfl rfl rfl ?_;first
|refine⟨_,Zi hhr rfl,?_⟩
|refine⟨_,Zi hnm rfl,?_⟩
|refine⟨_,Xv rfl rfl (by omega) (by omega),?_⟩)
|(refine Zbf 30 rfl ?_;first|refine Zg rfl ?_|refine Zm rfl ?_|((first|refine Zd rfl ?_ ?_|refine Zp rfl ?_ ?_);·first|omega|rfl|assumption|(simp only[lmT];omega))|((first|refine Ze rfl ?_ ?_|refine Zn rfl ?_ ?_);·first|omega|rfl|assumption|(simp only[lmT];omega))|refine Z8 rfl (fun h=>?_) (fun h=>?_)|refine Zbe (Zj hm rfl rfl ?_)|exact Zbe (Zf hm rfl rfl rfl (nbT rfl) rfl rfl))
|refine Zs rfl (tl hn rfl) ?_
|refine Zx (tl hn rfl) ?_
|refine Zr rfl rfl rfl rfl (nbT rfl) ?_
|(refine Zc hn rfl rfl rfl ?_;first
|refine⟨_,Zq rfl rfl (by omega),?_⟩
|refine⟨_,Zb rfl rfl (by omega) (by assumption),?_⟩
      )
|((first|refine Zh rfl rfl rfl ?_ ?_|refine Zy rfl rfl rfl ?_ ?_|refine Y5 rfl rfl rfl ?_ ?_)<;>intro h<;>try(exfalso;first|omega|contradiction|(simp only[lmT]at h;omega))))
    all_goals try(exfalso;exact hli' ⟨by assumption,by assumption⟩)
    all_goals
     refine Tk 30 rfl (fun j=>[(35,.ro (.seq 8 ((d.take n).map Xz))),(36,.int (n:Int)),(2,.obj 0 0),(5,.obj 1 0),(1,.int (n:Int)),(37,.int (j:Int))]) (fun _=>[⟨26,0,[.ro (Wa d)]⟩,⟨78,0,[.str r.name,.int r.kind,.int r.size,.bool r.little,.ro (Ya r.bytes),.ro (Vw r.names),.ro (Xe r.tags),.ro (Xe r.kids)]⟩]) (fun j=>⟨by simp[Free,AV.only],by simp[FreeO,AV.onlys,AV.only]⟩) (fun j=>∀(k:Nat) x,k<j→d[k]?=some x→¬x.name=r.name) n 0 (Nat.zero_le _) (fun k x h=>absurd h (by omega)) ⟨rfl,by simp only[look];exact congrArg (fun z:Nat=>AV.int (z:Int)) htlm,rfl,rfl,rfl,rfl,trivial⟩ rfl fun j hj hQ next=>?_
     by_cases hlt:j<n
     ·obtain⟨x,hxj⟩:∃x,(d.take n)[(j:Int).toNat]?=some x:=⟨_,Za6 (by simp;omega)⟩
      have hx':d[j]?=some x:=by
       have h:(d.take n)[j]?=some x:=hxj
       rwa [List.getElem?_take,if_pos hlt]at h
      by_cases hq:x.name=r.name
      ·repeat' (first
|(refine Zc hn rfl rfl rfl ?_;first
|refine⟨_,Lg rfl (by rw[hq];rfl),?_⟩)
|refine Zbg Zk hn rfl ?_
|refine Zbh ?_
|refine Za 30 rfl ?_
|(refine Zbf 30 rfl ?_;first|refine Zg rfl ?_|refine Zm rfl ?_|((first|refine Zd rfl ?_ ?_|refine Zp rfl ?_ ?_);·first|omega|rfl|assumption|(simp only[lmT];omega))|((first|refine Ze rfl ?_ ?_|refine Zn rfl ?_ ?_);·first|omega|rfl|assumption|(simp only[lmT];omega))|refine Z8 rfl (fun h=>?_) (fun h=>?_)|refine Zbe (Zj hm rfl rfl ?_)|exact Zbe (Zf hm rfl rfl rfl (nbT rfl) rfl rfl))
|refine Zs rfl (tl hn rfl) ?_
|refine Zx (tl hn rfl) ?_
|refine Zr rfl rfl rfl rfl (nbT rfl) ?_
|(refine Zc hn rfl rfl rfl ?_;first
|refine⟨_,Zq rfl rfl (by omega),?_⟩
|refine⟨_,Zb rfl rfl (by omega) (by assumption),?_⟩
        )
|((first|refine Zh rfl rfl rfl ?_ ?_|refine Zy rfl rfl rfl ?_ ?_|refine Y5 rfl rfl rfl ?_ ?_)<;>intro h<;>try(exfalso;first|omega|contradiction|(simp only[lmT]at h;omega))))
       all_goals exact Z3 (decide_eq_false (p:=V2 d n) fun hN=>(hiff.1 hN).1 j x hlt hx' hq).symm
      ·repeat' (first
|(refine Zc hn rfl rfl rfl ?_;first
|refine⟨_,Lh rfl rfl (by assumption),?_⟩)
|refine Zbg Zk hn rfl ?_
|refine Zbh ?_
|refine Za 30 rfl ?_
|(refine Zbf 30 rfl ?_;first|refine Zg rfl ?_|refine Zm rfl ?_|((first|refine Zd rfl ?_ ?_|refine Zp rfl ?_ ?_);·first|omega|rfl|assumption|(simp only[lmT];omega))|((first|refine Ze rfl ?_ ?_|refine Zn rfl ?_ ?_);·first|omega|rfl|assumption|(simp only[lmT];omega))|refine Z8 rfl (fun h=>?_) (fun h=>?_)|refine Zbe (Zj hm rfl rfl ?_)|exact Zbe (Zf hm rfl rfl rfl (nbT rfl) rfl rfl))
|refine Zs rfl (tl hn rfl) ?_
|refine Zx (tl hn rfl) ?_
|refine Zr rfl rfl rfl rfl (nbT rfl) ?_
|(refine Zc hn rfl rfl rfl ?_;first
|refine⟨_,Zq rfl rfl (by omega),?_⟩
|refine⟨_,Zb rfl rfl (by omega) (by assumption),?_⟩
        )
|((first|refine Zh rfl rfl rfl ?_ ?_|refine Zy rfl rfl rfl ?_ ?_|refine Y5 rfl rfl rfl ?_ ?_)<;>intro h<;>try(exfalso;first|omega|contradiction|(simp only[lmT]at h;omega))))
       refine next _ _ [_] ⟨rfl,rfl,rfl,rfl,rfl,rfl,trivial⟩ hlt (fun k y hkj hy=>?_) rfl
       by_cases e:k=j
       ·subst e;rw[hx']at hy;injection hy with hy;subst hy;exact hq
       ·exact hQ k y (by omega) hy
     ·obtain rfl:j=n:=by omega
      repeat' (first
|refine Zbg Zk hn rfl ?_
|refine Zbh ?_
|refine Za 30 rfl ?_
|(refine Zbf 30 rfl ?_;first|refine Zg rfl ?_|refine Zm rfl ?_|((first|refine Zd rfl ?_ ?_|refine Zp rfl ?_ ?_);·first|omega|rfl|assumption|(simp only[lmT];omega))|((first|refine Ze rfl ?_ ?_|refine Zn rfl ?_ ?_);·first|omega|rfl|assumption|(simp only[lmT];omega))|refine Z8 rfl (fun h=>?_) (fun h=>?_)|refine Zbe (Zj hm rfl rfl ?_)|exact Zbe (Zf hm rfl rfl rfl (nbT rfl) rfl rfl))
|refine Zs rfl (tl hn rfl) ?_
|refine Zx (tl hn rfl) ?_
|refine Zr rfl rfl rfl rfl (nbT rfl) ?_
|(refine Zc hn rfl rfl rfl ?_;first
|refine⟨_,Zq rfl rfl (by omega),?_⟩
|refine⟨_,Zb rfl rfl (by omega) (by assumption),?_⟩
        )
|((first|refine Zh rfl rfl rfl ?_ ?_|refine Zy rfl rfl rfl ?_ ?_|refine Y5 rfl rfl rfl ?_ ?_)<;>intro h<;>try(exfalso;first|omega|contradiction|(simp only[lmT]at h;omega))))
      refine Yh 30 rfl (fun m=>[(48,.ro (Xe r.kids)),(49,.int (r.kids.length:Int)),(2,.obj 0 0),(5,.obj 1 0),(1,.int (j:Int)),(50,.int (m:Int))]) (fun _=>[⟨26,0,[.ro (Wa d)]⟩,⟨78,0,[.str r.name,.int r.kind,.int r.size,.bool r.little,.ro (Ya r.bytes),.ro (Vw r.names),.ro (Xe r.tags),.ro (Xe r.kids)]⟩]) (fun m=>∀(k:Nat) z,k<m→r.kids[k]?=some z→0≤z∧z<j) r.kids.length 0 (Nat.zero_le _) (fun k x h=>absurd h (by omega)) ⟨rfl,by simp[look],rfl,rfl,rfl,rfl,trivial⟩ rfl fun m hm' hP next2=>?_
      by_cases hlt2:m<r.kids.length
      ·obtain⟨z,hz⟩:∃z,r.kids[(m:Int).toNat]?=some z:=⟨_,Za6 hlt2⟩
       have hz':r.kids[m]?=some z:=hz
       by_cases hzr:0≤z∧z<(j:Int)
       ·repeat' (first
|refine Zbg Zk hn rfl ?_
|refine Zbh ?_
|refine Za 30 rfl ?_
|(refine Zbf 30 rfl ?_;first|refine Zg rfl ?_|refine Zm rfl ?_|((first|refine Zd rfl ?_ ?_|refine Zp rfl ?_ ?_);·first|omega|rfl|assumption|(simp only[lmT];omega))|((first|refine Ze rfl ?_ ?_|refine Zn rfl ?_ ?_);·first|omega|rfl|assumption|(simp only[lmT];omega))|refine Z8 rfl (fun h=>?_) (fun h=>?_)|refine Zbe (Zj hm rfl rfl ?_)|exact Zbe (Zf hm rfl rfl rfl (nbT rfl) rfl rfl))
|refine Zs rfl (tl hn rfl) ?_
|refine Zx (tl hn rfl) ?_
|refine Zr rfl rfl rfl rfl (nbT rfl) ?_
|(refine Zc hn rfl rfl rfl ?_;first
|refine⟨_,Zq rfl rfl (by omega),?_⟩
|refine⟨_,Zb rfl rfl (by omega) (by assumption),?_⟩
         )
|((first|refine Zh rfl rfl rfl ?_ ?_|refine Zy rfl rfl rfl ?_ ?_|refine Y5 rfl rfl rfl ?_ ?_)<;>intro h<;>try(exfalso;first|omega|contradiction|(simp only[lmT]at h;omega))))
        refine next2 _ _ ⟨rfl,rfl,rfl,rfl,rfl,rfl,trivial⟩ hlt2 (fun k y hkm hy=>?_) rfl
        by_cases e:k=m
        ·subst e;rw[hz']at hy;injection hy with hy;subst hy;exact hzr
        ·exact hP k y (by omega) hy
       ·repeat' (first
|refine Zbg Zk hn rfl ?_
|refine Zbh ?_
|refine Za 30 rfl ?_
|(refine Zbf 30 rfl ?_;first|refine Zg rfl ?_|refine Zm rfl ?_|((first|refine Zd rfl ?_ ?_|refine Zp rfl ?_ ?_);·first|omega|rfl|assumption|(simp only[lmT];omega))|((first|refine Ze rfl ?_ ?_|refine Zn rfl ?_ ?_);·first|omega|rfl|assumption|(simp only[lmT];omega))|refine Z8 rfl (fun h=>?_) (fun h=>?_)|refine Zbe (Zj hm rfl rfl ?_)|exact Zbe (Zf hm rfl rfl rfl (nbT rfl) rfl rfl))
|refine Zs rfl (tl hn rfl) ?_
|refine Zx (tl hn rfl) ?_
|refine Zr rfl rfl rfl rfl (nbT rfl) ?_
|(refine Zc hn rfl rfl rfl ?_;first
|refine⟨_,Zq rfl rfl (by omega),?_⟩
|refine⟨_,Zb rfl rfl (by omega) (by assumption),?_⟩
         )
|((first|refine Zh rfl rfl rfl ?_ ?_|refine Zy rfl rfl rfl ?_ ?_|refine Y5 rfl rfl rfl ?_ ?_)<;>intro h<;>try(exfalso;first|omega|contradiction|(simp only[lmT]at h;omega))))
        all_goals exact Z3 (decide_eq_false (p:=V2 d j) fun hN=>hzr ((hiff.1 hN).2.1 m z hz')).symm
      ·repeat' (first
|refine Zbg Zk hn rfl ?_
|refine Zbh ?_
|refine Za 30 rfl ?_
|(refine Zc hn rfl rfl rfl ?_;first
|refine⟨_,Zi hk rfl,?_⟩)
|(refine Zbf 30 rfl ?_;first|refine Zg rfl ?_|refine Zm rfl ?_|((first|refine Zd rfl ?_ ?_|refine Zp rfl ?_ ?_);·first|omega|rfl|assumption|(simp only[lmT];omega))|((first|refine Ze rfl ?_ ?_|refine Zn rfl ?_ ?_);·first|omega|rfl|assumption|(simp only[lmT];omega))|refine Z8 rfl (fun h=>?_) (fun h=>?_)|refine Zbe (Zj hm rfl rfl ?_)|exact Zbe (Zf hm rfl rfl rfl (nbT rfl) rfl rfl))
|refine Zs rfl (tl hn rfl) ?_
|refine Zx (tl hn rfl) ?_
|refine Zr rfl rfl rfl rfl (nbT rfl) ?_
|(refine Zc hn rfl rfl rfl ?_;first
|refine⟨_,Zq rfl rfl (by omega),?_⟩
|refine⟨_,Zb rfl rfl (by omega) (by assumption),?_⟩
        )
|((first|refine Zh rfl rfl rfl ?_ ?_|refine Zy rfl rfl rfl ?_ ?_|refine Y5 rfl rfl rfl ?_ ?_)<;>intro h<;>try(exfalso;first|omega|contradiction|(simp only[lmT]at h;omega))))
       exact Z3 (decide_eq_decide.2 ⟨fun h=>hiff.2 ⟨fun k x hk=>hQ k x hk,fun k z hkz=>hP k z (by have:=(Za5.1 hkz).1;omega) hkz,hn1,hkk.1 ⟨h,hli⟩⟩,fun h=>(hkk.2 (hiff.1 h).2.2.2).1⟩)
   ·have h1:r.little=true:=by cases h:r.little;exact absurd (.inl h) hli;rfl
    have h2:¬r.kind=1:=fun h=>hli (.inr h)
    obtain⟨nm,kd,sz,li,bs,ns,tg,ki⟩:=r
    simp only at h1;subst h1
    repeat' (first
|refine Zbg Zk hn rfl ?_
|refine Zbh ?_
|refine Za 30 rfl ?_
|(refine Zc hn rfl rfl rfl ?_;first
|refine⟨_,Zi hhr rfl,?_⟩
|refine⟨_,Zi hnm rfl,?_⟩)
|(refine Zbf 30 rfl ?_;first|refine Zg rfl ?_|refine Zm rfl ?_|((first|refine Zd rfl ?_ ?_|refine Zp rfl ?_ ?_);·first|omega|rfl|assumption|(simp only[lmT];omega))|((first|refine Ze rfl ?_ ?_|refine Zn rfl ?_ ?_);·first|omega|rfl|assumption|(simp only[lmT];omega))|refine Z8 rfl (fun h=>?_) (fun h=>?_)|refine Zbe (Zj hm rfl rfl ?_)|exact Zbe (Zf hm rfl rfl rfl (nbT rfl) rfl rfl))
|refine Zs rfl (tl hn rfl) ?_
|refine Zx (tl hn rfl) ?_
|refine Zr rfl rfl rfl rfl (nbT rfl) ?_
|(refine Zc hn rfl rfl rfl ?_;first
|refine⟨_,Zq rfl rfl (by omega),?_⟩
|refine⟨_,Zb rfl rfl (by omega) (by assumption),?_⟩
      )
|((first|refine Zh rfl rfl rfl ?_ ?_|refine Zy rfl rfl rfl ?_ ?_|refine Y5 rfl rfl rfl ?_ ?_)<;>intro h<;>try(exfalso;first|omega|contradiction|(simp only[lmT]at h;omega))))
    all_goals exact Z3 (decide_eq_false (p:=V2 d n) fun hN=>hli (hkk.2 (hiff.1 hN).2.2.2).2).symm
  ·repeat' (first
|refine Zbg Zk hn rfl ?_
|refine Zbh ?_
|refine Za 30 rfl ?_
|(refine Zc hn rfl rfl rfl ?_;first
|refine⟨_,Zi hhr rfl,?_⟩
|refine⟨_,Zi hnm rfl,?_⟩)
|(refine Zbf 30 rfl ?_;first|refine Zg rfl ?_|refine Zm rfl ?_|((first|refine Zd rfl ?_ ?_|refine Zp rfl ?_ ?_);·first|omega|rfl|assumption|(simp only[lmT];omega))|((first|refine Ze rfl ?_ ?_|refine Zn rfl ?_ ?_);·first|omega|rfl|assumption|(simp only[lmT];omega))|refine Z8 rfl (fun h=>?_) (fun h=>?_)|refine Zbe (Zj hm rfl rfl ?_)|exact Zbe (Zf hm rfl rfl rfl (nbT rfl) rfl rfl))
|refine Zs rfl (tl hn rfl) ?_
|refine Zx (tl hn rfl) ?_
|refine Zr rfl rfl rfl rfl (nbT rfl) ?_
|(refine Zc hn rfl rfl rfl ?_;first
|refine⟨_,Zq rfl rfl (by omega),?_⟩
|refine⟨_,Zb rfl rfl (by omega) (by assumption),?_⟩
    )
|((first|refine Zh rfl rfl rfl ?_ ?_|refine Zy rfl rfl rfl ?_ ?_|refine Y5 rfl rfl rfl ?_ ?_)<;>intro h<;>try(exfalso;first|omega|contradiction|(simp only[lmT]at h;omega))))
   all_goals exact Z3 (decide_eq_false (p:=V2 d n) fun hN=>hn1 (hiff.1 hN).2.2.1).symm
 ·have hno:¬V2 d i:=fun⟨h0,r,hr,_⟩=>hx ⟨h0,by have:=(Za5.1 hr).1;omega⟩
  refine Zz Tryz.func31 rfl _ Tryz.ntmps31 (by simp) fun C hn hm=>?_
  repeat' (first
|refine Zbg Zk hn rfl ?_
|refine Zbh ?_
|refine Za 30 rfl ?_
|(refine Zc hn rfl rfl rfl ?_;first
|refine⟨_,Zi (Qa d i) rfl,?_⟩)
|(refine Zbf 30 rfl ?_;first|refine Zg rfl ?_|refine Zm rfl ?_|((first|refine Zd rfl ?_ ?_|refine Zp rfl ?_ ?_);·first|omega|rfl|assumption|(simp only[lmT];omega))|((first|refine Ze rfl ?_ ?_|refine Zn rfl ?_ ?_);·first|omega|rfl|assumption|(simp only[lmT];omega))|refine Z8 rfl (fun h=>?_) (fun h=>?_)|refine Zbe (Zj hm rfl rfl ?_)|exact Zbe (Zf hm rfl rfl rfl (nbT rfl) rfl rfl))
|refine Zs rfl (tl hn rfl) ?_
|refine Zx (tl hn rfl) ?_
|refine Zr rfl rfl rfl rfl (nbT rfl) ?_
|(refine Zc hn rfl rfl rfl ?_;first
|refine⟨_,Zq rfl rfl (by omega),?_⟩
|refine⟨_,Zb rfl rfl (by omega) (by assumption),?_⟩
    )
|((first|refine Zh rfl rfl rfl ?_ ?_|refine Zy rfl rfl rfl ?_ ?_|refine Y5 rfl rfl rfl ?_ ?_)<;>intro h<;>try(exfalso;first|omega|contradiction|(simp only[lmT]at h;omega))))
  all_goals exact Z3 (decide_eq_false hno).symm
theorem Vp(d:Des)(ho:H0 d)(hd:Wi d≤1048576):ACv Tryz.prog 14 [X1 d] (.bool (decide (U5 d))):=by
 have hlm:(d.map Xz).length=d.length:=lmT ..
 have et:Wi d=d.length+(d.map Rul.total).sum:=rfl
 refine Zz Tryz.func14 rfl _ Tryz.ntmps14 (by simp) fun C hn hm=>?_
 by_cases h24:InR d.length 1 24
 ·repeat' (first
|refine Zbg Zk hn rfl ?_
|refine Zbh ?_
|refine Za 30 rfl ?_
|(refine Zc hn rfl rfl rfl ?_;first
|refine⟨_,Zi (Y2 _ _ _) rfl,?_⟩)
|(refine Zbf 30 rfl ?_;first|((first|refine Zd rfl ?_ ?_|refine Zp rfl ?_ ?_);·first|omega|rfl|assumption|(simp only[lmT];omega))|((first|refine Ze rfl ?_ ?_|refine Zn rfl ?_ ?_);·first|omega|rfl|assumption|(simp only[lmT];omega))|refine Zbe (Zj hm rfl rfl ?_)|exact Zbe (Zf hm rfl rfl rfl (nbT rfl) rfl rfl))
|refine Zs rfl (tl hn rfl) ?_
|(refine Zc hn rfl rfl rfl ?_;first
|refine⟨_,Zq rfl rfl (by omega),?_⟩
   ))
  refine Yh 30 rfl (fun j=>[(1,.obj 0 0),(11,.int (d.length:Int)),(12,.int (j:Int))]) (fun _=>[⟨26,0,[.ro (Wa d)]⟩]) (fun j=>∀k:Nat,k<j→V2 d k) d.length 0 (Nat.zero_le _) (fun k h=>absurd h (by omega)) ⟨rfl,by simp[look],rfl,trivial⟩ rfl fun j hj hQ next=>?_
  by_cases hlt:j<d.length
  ·have hr:=T4 d ho hd j (by unfold I64;omega)
   by_cases hq:V2 d j
   ·repeat' (first
|refine Zbg Zk hn rfl ?_
|refine Zbh ?_
|refine Za 30 rfl ?_
|(refine Zc hn rfl rfl rfl ?_;first
|refine⟨_,Zi hr rfl,?_⟩)
|(refine Zbf 30 rfl ?_;first|((first|refine Zd rfl ?_ ?_|refine Zp rfl ?_ ?_);·first|omega|rfl|assumption|(simp only[lmT];omega))|((first|refine Ze rfl ?_ ?_|refine Zn rfl ?_ ?_);·first|omega|rfl|assumption|(simp only[lmT];omega))|refine Zbe (Zj hm rfl rfl ?_)|exact Zbe (Zf hm rfl rfl rfl (nbT rfl) rfl rfl))
|refine Zs rfl (tl hn rfl) ?_
|(refine Zc hn rfl rfl rfl ?_;first
|refine⟨_,Zq rfl rfl (by omega),?_⟩
     ))
    refine next _ _ ⟨rfl,rfl,rfl,trivial⟩ hlt (fun k hk=>?_) rfl
    by_cases e:k=j
    ·subst e;exact hq
    ·exact hQ k (by omega)
   ·repeat' (first
|refine Zbg Zk hn rfl ?_
|refine Zbh ?_
|refine Za 30 rfl ?_
|(refine Zc hn rfl rfl rfl ?_;first
|refine⟨_,Zi hr rfl,?_⟩)
|(refine Zbf 30 rfl ?_;first|((first|refine Zd rfl ?_ ?_|refine Zp rfl ?_ ?_);·first|omega|rfl|assumption|(simp only[lmT];omega))|((first|refine Ze rfl ?_ ?_|refine Zn rfl ?_ ?_);·first|omega|rfl|assumption|(simp only[lmT];omega))|refine Zbe (Zj hm rfl rfl ?_)|exact Zbe (Zf hm rfl rfl rfl (nbT rfl) rfl rfl))
|refine Zs rfl (tl hn rfl) ?_
|(refine Zc hn rfl rfl rfl ?_;first
|refine⟨_,Zq rfl rfl (by omega),?_⟩
     ))
    all_goals exact Z3 (decide_eq_false (p:=U5 d) fun hN=>hq (hN.2.2 j hlt)).symm
  ·repeat' (first
|refine Zbg Zk hn rfl ?_
|refine Zbh ?_
|refine Za 30 rfl ?_
|(refine Zbf 30 rfl ?_;first|((first|refine Zd rfl ?_ ?_|refine Zp rfl ?_ ?_);·first|omega|rfl|assumption|(simp only[lmT];omega))|((first|refine Ze rfl ?_ ?_|refine Zn rfl ?_ ?_);·first|omega|rfl|assumption|(simp only[lmT];omega))|refine Zbe (Zj hm rfl rfl ?_)|exact Zbe (Zf hm rfl rfl rfl (nbT rfl) rfl rfl))
|refine Zs rfl (tl hn rfl) ?_
|(refine Zc hn rfl rfl rfl ?_;first
|refine⟨_,Zq rfl rfl (by omega),?_⟩
    ))
   exact Z3 (decide_eq_true (p:=U5 d) ⟨by have:=h24.1;omega,by have:=h24.2;omega,fun k hk=>hQ k (by omega)⟩).symm
 ·repeat' (first
|refine Zbg Zk hn rfl ?_
|refine Zbh ?_
|refine Za 30 rfl ?_
|(refine Zc hn rfl rfl rfl ?_;first
|refine⟨_,Zi (Y2 _ _ _) rfl,?_⟩)
|(refine Zbf 30 rfl ?_;first|((first|refine Zd rfl ?_ ?_|refine Zp rfl ?_ ?_);·first|omega|rfl|assumption|(simp only[lmT];omega))|((first|refine Ze rfl ?_ ?_|refine Zn rfl ?_ ?_);·first|omega|rfl|assumption|(simp only[lmT];omega))|refine Zbe (Zj hm rfl rfl ?_)|exact Zbe (Zf hm rfl rfl rfl (nbT rfl) rfl rfl))
|refine Zs rfl (tl hn rfl) ?_
|(refine Zc hn rfl rfl rfl ?_;first
|refine⟨_,Zq rfl rfl (by omega),?_⟩
   ))
  all_goals exact Z3 (decide_eq_false (p:=U5 d) fun hN=>h24 ⟨by have:=hN.1;omega,by have:=hN.2.1;omega⟩).symm
abbrev Kn(d:Des)(i:Int):Prop:=U5 d∧HasR d i
theorem known_ac(d:Des)(ho:H0 d)(hd:Wi d≤1048576)(i:Int):ACv Tryz.prog 32 [X1 d,.int i] (.bool (decide (Kn d i))):=by
 have hv:=Vp d ho hd
 have hh:=Qa d i
 refine Zz Tryz.func32 rfl _ Tryz.ntmps32 (by simp) fun C hn hm=>?_
 repeat' (first
|refine Zbg Zk hn rfl ?_
|refine Zbh ?_
|refine Za 30 rfl ?_
|(refine Zc hn rfl rfl rfl ?_;first
|refine⟨_,Zi hv rfl,?_⟩
|refine⟨_,Zi hh rfl,?_⟩)
|(refine Zbf 30 rfl ?_;first|refine Zbe (Zj hm rfl rfl ?_)|exact Zbe (Zf hm rfl rfl rfl (nbT rfl) rfl rfl))
|refine Zs rfl (tl hn rfl) ?_
|(refine Zh rfl rfl rfl ?_ ?_<;>intro h<;>try(exfalso;first|omega|contradiction)))
 all_goals exact Z3 (by rw[Bool.eq_iff_iff];simp[*])
theorem l7Rule_ac(d:Des)(ho:H0 d)(hd:Wi d≤1048576)(i:Int):ACv Tryz.prog 44 [X1 d,.int i] (.bool (decide (Kn d i))):=by
 have hlm:(d.map Xz).length=d.length:=lmT ..
 have hl:=ho.len
 have hv:=Kz d ho hd
 unfold maxLen at hl
 refine Zz Tryz.func44 rfl _ Tryz.ntmps44 (by simp) fun C hn hm=>?_
 by_cases hh:HasR d i
 ·repeat' (first
|refine Zbg Zk hn rfl ?_
|refine Zbh ?_
|refine Za 30 rfl ?_
|(refine Zc hn rfl rfl rfl ?_;first
|refine⟨_,Zi hv rfl,?_⟩
|refine⟨_,Zi (Xn _ _ _) rfl,?_⟩)
|(refine Zbf 30 rfl ?_;first|refine Zbe (Zj hm rfl rfl ?_)|exact Zbe (Zf hm rfl rfl rfl (nbT rfl) rfl rfl))
|refine Zs rfl (tl hn rfl) ?_
|(refine Zc hn rfl rfl rfl ?_;first
|refine⟨_,Z7 rfl rfl (by omega),?_⟩
   )
|(refine Zh rfl rfl rfl ?_ ?_<;>intro h<;>try(exfalso;first|omega|contradiction|(simp only[lmT]at h;omega))))
  all_goals exact Z3 (by rw[Bool.eq_iff_iff];simp[hh.1,hh.2, *])
 ·repeat' (first
|refine Zbg Zk hn rfl ?_
|refine Zbh ?_
|refine Za 30 rfl ?_
|(refine Zc hn rfl rfl rfl ?_;first
|refine⟨_,Zi hv rfl,?_⟩
|refine⟨_,Zi (Xn _ _ _) rfl,?_⟩)
|(refine Zbf 30 rfl ?_;first|refine Zbe (Zj hm rfl rfl ?_)|exact Zbe (Zf hm rfl rfl rfl (nbT rfl) rfl rfl))
|refine Zs rfl (tl hn rfl) ?_
|(refine Zc hn rfl rfl rfl ?_;first
|refine⟨_,Z7 rfl rfl (by omega),?_⟩
   )
|(refine Zh rfl rfl rfl ?_ ?_<;>intro h<;>try(exfalso;first|omega|contradiction|(simp only[lmT]at h;omega))))
  all_goals exact Z3 (decide_eq_false (p:=Kn d i) fun h=>hh h.2).symm
open AV (Mem Wn)
section
variable{P:Program}{C:Ctx}{k k':List Item}{R:Act→World→Prop}{S:St}{c:Code}
theorem V9(m:Nat)(hc:Proofs.YtnecoghfhcimeaaGreat.ctls m k = .code (.loop c)::k')(h:Runs P C (.code c :: .inLoop c::k') R S):Runs P C k R S:=
 Zbf m hc ⟨fun a w hs=>(h.run a w hs).step fun _ _=>step_loop⟩
theorem Qw(m:Nat)(hc:Proofs.YtnecoghfhcimeaaGreat.ctls m k = .inLoop c::k')(h:Runs P C (.code c :: .inLoop c::k') R S):Runs P C k R S:=
 Zbf m hc ⟨fun a w hs=>(h.run a w hs).step fun _ _=>step_inLoop⟩
end
def u8i(x:Int):UInt8:=UInt8.ofNat (x % 256).toNat
theorem u8i_val(x:Int):((u8i x).toNat:Int)=x % 256:=by
 unfold u8i
 rw[UInt8.toNat_ofNat']
 omega
section
variable{P:Program}{C:Ctx}{env:Env}{σ:List Ob}{t:Nat}{ty:TypeId}{pos:String}{after:Array Edge}{gd:Option (Nat×Bool)}
theorem Q8{src dst:TypeId}{x:Operand}{p:Int}[hs:TI P src .i64][hd:TI P dst .u8](hx:ev env x = .int p):Pur P C ⟨some t,.convert src dst x,ty,pos,after,gd⟩ env σ (.ro (.u8 (u8i p))):=by
 have h:=Al (P:=P) (C:=C) (σ:=σ) (t:=t) (ty:=ty) (pos:=pos) (after:=after) (gd:=gd) hs hd hx
 have e:IntKind.u8.wrap p=((u8i p).toNat:Int):=by rw[u8i_val];simp[IntKind.wrap,IntKind.bits,IntKind.signed]
 rwa [e]at h
theorem Wv{src dst:TypeId}{x:Operand}{b:UInt8}[hs:TI P src .u8][hd:TI P dst .i64](hx:ev env x = .ro (.u8 b)):Pur P C ⟨some t,.convert src dst x,ty,pos,after,gd⟩ env σ (.int (b.toNat:Int)):=by
 have h:=Al (P:=P) (C:=C) (σ:=σ) (t:=t) (ty:=ty) (pos:=pos) (after:=after) (gd:=gd) hs hd hx
 have hb:=b.toNat_lt
 have e:IntKind.i64.wrap (b.toNat:Int)=(b.toNat:Int):=by simp[IntKind.wrap,IntKind.bits,IntKind.signed];omega
 rwa [e]at h
theorem Jr{xt yt:TypeId}{x y:Operand}{p q:Int}{kd:IntKind}(K:Int)(hx:ev env x = .int p)(hy:ev env y = .ro (.c (.int kd q)))(h0:0≤q)(hK:(2:Int) ^ min q.toNat 64=K):Pur P C ⟨some t,.binOp .shr xt x y yt,ty,pos,after,gd⟩ env σ (.int (p / K)):=
 X5 hx hy (fun w=>by
  subst hK
  simp only[go_sem]
  rw[shift_shr_any _ _ _ _ h0]
  simp[IntKind.bits])
end
def be(n s:Int):List UInt8:=if s=1 then[u8i n] else if s=2 then[u8i (n / 256),u8i n] else if s=3 then[u8i (n / 256 / 256),u8i (n / 256),u8i n] else[u8i (n / 256 / 256 / 256),u8i (n / 256 / 256),u8i (n / 256),u8i n]
def Fit(n s:Int):Prop:=1≤s∧s≤4∧0≤n∧n<Bs s
noncomputable def Ot(n s:Int):List UInt8:=open Classical in if Fit n s then be n s else[]
theorem J0{n s:Int}(h:Fit n s):Ot n s=be n s:=if_pos h
theorem Hh{n s:Int}(h:¬Fit n s):Ot n s=[]:=if_neg h
set_option maxHeartbeats 4000000 in
theorem Lx(n s:Int):AC Tryz.prog 96 [.int n,.int s] (fun rr=>rr = .row 5 1 ((Ot n s).map RV.u8)):=by
 by_cases h:Fit n s
 ·rw[J0 h]
  obtain⟨h1,h2,h3,h4⟩:=h
  have hp:=N7 (s:=s)
  have hs:s=1∨s=2∨s=3∨s=4:=by omega
  have hw:=Lm s ⟨h1,h2⟩
  rcases hs with rfl|rfl|rfl|rfl
  all_goals
   refine Zz Tryz.func96 rfl _ Tryz.ntmps96 (by simp) fun C hn hm=>?_
   repeat' (first
|refine Xa (tl hn rfl) ?_
|refine Zbg Zk hn rfl ?_
|refine Zbh ?_
|refine Za 30 rfl ?_
|refine V9 30 rfl ?_
|refine Qw 30 rfl ?_
|refine U9 rfl rfl rfl rfl rfl rfl ⟨by simp[AV.onlys,AV.only],trivial⟩ (by simp) rfl (tl hn rfl) ?_
|(refine Zc hn rfl rfl rfl ?_;first
|refine⟨_,Zi (Xn _ _ _) rfl,?_⟩
|refine⟨_,Zi hw rfl,?_⟩
|refine⟨_,Q8 rfl,?_⟩
|refine⟨_,Jr 1 rfl rfl (by omega) (by decide),?_⟩
|refine⟨_,Jr 256 rfl rfl (by omega) (by decide),?_⟩
|refine⟨_,Jr 65536 rfl rfl (by omega) (by decide),?_⟩
|refine⟨_,Jr 16777216 rfl rfl (by omega) (by decide),?_⟩)
|(refine Zbf 30 rfl ?_;first|refine Zg rfl ?_|refine Zm rfl ?_|(refine Zp rfl ?_ ?_;·first|omega|rfl|assumption)|(refine Zn rfl ?_ ?_;·first|omega|rfl|assumption)|refine Zbe (Zj hm rfl rfl ?_)|exact Zbe (Zf hm rfl rfl rfl (nbT rfl) rfl rfl))
|(refine Zc hn rfl rfl rfl ?_;first
|refine⟨_,Z7 rfl rfl (by omega),?_⟩
|refine⟨_,Xj rfl rfl (by omega),?_⟩
|refine⟨_,Zw rfl rfl rfl rfl rfl rfl,?_⟩)
|(refine Zy rfl rfl rfl ?_ ?_<;>intro h<;>try(exfalso;first|omega|contradiction)))
   refine Zbf 30 rfl (Zbe (Xl (rs:=(be n _).map RV.u8) hm rfl rfl rfl ?_ rfl))
   have e1:n / 256 / 256=n / 65536:=by omega
   have e2:n / 65536 / 256=n / 16777216:=by omega
   simp[be,e1,e2]
 ·rw[Hh h]
  have hp:=N7 (s:=s)
  refine Zz Tryz.func96 rfl _ Tryz.ntmps96 (by simp) fun C hn hm=>?_
  by_cases hs:1≤s∧s≤4
  ·have hw:=Lm s hs
   have hb:n<0∨Bs s≤n:=by
    rcases Int.lt_or_le n 0 with h0|h0
    ·exact .inl h0
    ·exact .inr (by rcases Int.lt_or_le n (Bs s) with h5|h5;exact absurd ⟨hs.1,hs.2,h0,h5⟩ h;exact h5)
   repeat' (first
|refine Xa (tl hn rfl) ?_
|refine Zbg Zk hn rfl ?_
|refine Zbh ?_
|refine Za 30 rfl ?_
|(refine Zc hn rfl rfl rfl ?_;first
|refine⟨_,Zi (Xn _ _ _) rfl,?_⟩
|refine⟨_,Zi hw rfl,?_⟩)
|(refine Zbf 30 rfl ?_;first|refine Zg rfl ?_|refine Zm rfl ?_|(refine Zp rfl ?_ ?_;·first|omega|rfl|assumption)|(refine Zn rfl ?_ ?_;·first|omega|rfl|assumption)|refine Zbe (Zj hm rfl rfl ?_)|exact Zbe (Zf hm rfl rfl rfl (nbT rfl) rfl rfl))
|(refine Zc hn rfl rfl rfl ?_;first
|refine⟨_,Z7 rfl rfl (by omega),?_⟩
|refine⟨_,Xj rfl rfl (by omega),?_⟩
|refine⟨_,Zw rfl rfl rfl rfl rfl rfl,?_⟩)
|(refine Zy rfl rfl rfl ?_ ?_<;>intro h<;>try(exfalso;first|omega|contradiction)))
   all_goals exact Zbf 30 rfl (Zbe (Xl (rs:=[]) hm rfl rfl rfl rfl rfl))
  ·repeat' (first
|refine Xa (tl hn rfl) ?_
|refine Zbg Zk hn rfl ?_
|refine Zbh ?_
|refine Za 30 rfl ?_
|(refine Zc hn rfl rfl rfl ?_;first
|refine⟨_,Zi (Xn _ _ _) rfl,?_⟩)
|(refine Zbf 30 rfl ?_;first|refine Zg rfl ?_|refine Zm rfl ?_|(refine Zp rfl ?_ ?_;·first|omega|rfl|assumption)|(refine Zn rfl ?_ ?_;·first|omega|rfl|assumption)|refine Zbe (Zj hm rfl rfl ?_)|exact Zbe (Zf hm rfl rfl rfl (nbT rfl) rfl rfl))
|(refine Zc hn rfl rfl rfl ?_;first
|refine⟨_,Z7 rfl rfl (by omega),?_⟩
|refine⟨_,Xj rfl rfl (by omega),?_⟩
|refine⟨_,Zw rfl rfl rfl rfl rfl rfl,?_⟩)
|(refine Zy rfl rfl rfl ?_ ?_<;>intro h<;>try(exfalso;first|omega|contradiction)))
   all_goals exact Zbf 30 rfl (Zbe (Xl (rs:=[]) hm rfl rfl rfl rfl rfl))
set_option maxHeartbeats 8000000 in
theorem Nq(n s:Int):AC Tryz.prog 95 [.int n,.int s] (fun rr=>rr = .row 5 1 ((Ot n s).reverse.map RV.u8)):=by
 have hb:=(Lx n s).shut (r:=Ya (Ot n s)) (by rintro _ rfl;exact Qc _ _)
 by_cases h:Fit n s
 ·rw[J0 h]at hb ⊢
  obtain⟨h1,h2,h3,h4⟩:=h
  have hs:s=1∨s=2∨s=3∨s=4:=by omega
  rcases hs with rfl|rfl|rfl|rfl
  ·have hb':ACv Tryz.prog 96 [.int n,.int 1] (.seq 1 [[.u8 (u8i n)]]):=hb
   refine Zz Tryz.func95 rfl _ Tryz.ntmps95 (by simp) fun C hn hm=>?_
   repeat' (first
|refine Xa (tl hn rfl) ?_
|(refine Zc hn rfl rfl rfl ?_;first
|refine⟨_,Zu 1 rfl rfl,?_⟩)
|refine Zbg Zk hn rfl ?_
|refine Zbh ?_
|refine Za 30 rfl ?_
|refine V9 30 rfl ?_
|refine Qw 30 rfl ?_
|refine U9 rfl rfl rfl rfl rfl rfl ⟨by simp[AV.onlys,AV.only],trivial⟩ (by simp) rfl (tl hn rfl) ?_
|(refine Zc hn rfl rfl rfl ?_;first
|refine⟨_,Zi hb' rfl,?_⟩
|refine⟨_,Wl rfl rfl (by omega) rfl,?_⟩)
|(refine Zbf 30 rfl ?_;first|refine Zg rfl ?_|refine Zm rfl ?_|refine Zbe (Zj hm rfl rfl ?_)|exact Zbe (Zf hm rfl rfl rfl (nbT rfl) rfl rfl))
|(refine Zc hn rfl rfl rfl ?_;first
|refine⟨_,Z7 rfl rfl (by omega),?_⟩
|refine⟨_,Zw rfl rfl rfl rfl rfl rfl,?_⟩))
   exact Zbf 30 rfl (Zbe (Xl (rs:=(be n 1).reverse.map RV.u8) hm rfl rfl rfl rfl rfl))
  ·have hb':ACv Tryz.prog 96 [.int n,.int 2] (.seq 1 [[.u8 (u8i (n / 256))],[.u8 (u8i n)]]):=hb
   refine Zz Tryz.func95 rfl _ Tryz.ntmps95 (by simp) fun C hn hm=>?_
   repeat' (first
|refine Xa (tl hn rfl) ?_
|(refine Zc hn rfl rfl rfl ?_;first
|refine⟨_,Zu 2 rfl rfl,?_⟩)
|refine Zbg Zk hn rfl ?_
|refine Zbh ?_
|refine Za 30 rfl ?_
|refine V9 30 rfl ?_
|refine Qw 30 rfl ?_
|refine U9 rfl rfl rfl rfl rfl rfl ⟨by simp[AV.onlys,AV.only],trivial⟩ (by simp) rfl (tl hn rfl) ?_
|(refine Zc hn rfl rfl rfl ?_;first
|refine⟨_,Zi hb' rfl,?_⟩
|refine⟨_,Wl rfl rfl (by omega) rfl,?_⟩)
|(refine Zbf 30 rfl ?_;first|refine Zg rfl ?_|refine Zm rfl ?_|refine Zbe (Zj hm rfl rfl ?_)|exact Zbe (Zf hm rfl rfl rfl (nbT rfl) rfl rfl))
|(refine Zc hn rfl rfl rfl ?_;first
|refine⟨_,Z7 rfl rfl (by omega),?_⟩
|refine⟨_,Zw rfl rfl rfl rfl rfl rfl,?_⟩))
   exact Zbf 30 rfl (Zbe (Xl (rs:=(be n 2).reverse.map RV.u8) hm rfl rfl rfl rfl rfl))
  ·have hb':ACv Tryz.prog 96 [.int n,.int 3] (.seq 1 [[.u8 (u8i (n / 256 / 256))],[.u8 (u8i (n / 256))],[.u8 (u8i n)]]):=hb
   refine Zz Tryz.func95 rfl _ Tryz.ntmps95 (by simp) fun C hn hm=>?_
   repeat' (first
|refine Xa (tl hn rfl) ?_
|(refine Zc hn rfl rfl rfl ?_;first
|refine⟨_,Zu 3 rfl rfl,?_⟩)
|refine Zbg Zk hn rfl ?_
|refine Zbh ?_
|refine Za 30 rfl ?_
|refine V9 30 rfl ?_
|refine Qw 30 rfl ?_
|refine U9 rfl rfl rfl rfl rfl rfl ⟨by simp[AV.onlys,AV.only],trivial⟩ (by simp) rfl (tl hn rfl) ?_
|(refine Zc hn rfl rfl rfl ?_;first
|refine⟨_,Zi hb' rfl,?_⟩
|refine⟨_,Wl rfl rfl (by omega) rfl,?_⟩)
|(refine Zbf 30 rfl ?_;first|refine Zg rfl ?_|refine Zm rfl ?_|refine Zbe (Zj hm rfl rfl ?_)|exact Zbe (Zf hm rfl rfl rfl (nbT rfl) rfl rfl))
|(refine Zc hn rfl rfl rfl ?_;first
|refine⟨_,Z7 rfl rfl (by omega),?_⟩
|refine⟨_,Zw rfl rfl rfl rfl rfl rfl,?_⟩))
   exact Zbf 30 rfl (Zbe (Xl (rs:=(be n 3).reverse.map RV.u8) hm rfl rfl rfl rfl rfl))
  ·have hb':ACv Tryz.prog 96 [.int n,.int 4] (.seq 1 [[.u8 (u8i (n / 256 / 256 / 256))],[.u8 (u8i (n / 256 / 256))],[.u8 (u8i (n / 256))],[.u8 (u8i n)]]):=hb
   refine Zz Tryz.func95 rfl _ Tryz.ntmps95 (by simp) fun C hn hm=>?_
   repeat' (first
|refine Xa (tl hn rfl) ?_
|(refine Zc hn rfl rfl rfl ?_;first
|refine⟨_,Zu 4 rfl rfl,?_⟩)
|refine Zbg Zk hn rfl ?_
|refine Zbh ?_
|refine Za 30 rfl ?_
|refine V9 30 rfl ?_
|refine Qw 30 rfl ?_
|refine U9 rfl rfl rfl rfl rfl rfl ⟨by simp[AV.onlys,AV.only],trivial⟩ (by simp) rfl (tl hn rfl) ?_
|(refine Zc hn rfl rfl rfl ?_;first
|refine⟨_,Zi hb' rfl,?_⟩
|refine⟨_,Wl rfl rfl (by omega) rfl,?_⟩)
|(refine Zbf 30 rfl ?_;first|refine Zg rfl ?_|refine Zm rfl ?_|refine Zbe (Zj hm rfl rfl ?_)|exact Zbe (Zf hm rfl rfl rfl (nbT rfl) rfl rfl))
|(refine Zc hn rfl rfl rfl ?_;first
|refine⟨_,Z7 rfl rfl (by omega),?_⟩
|refine⟨_,Zw rfl rfl rfl rfl rfl rfl,?_⟩))
   exact Zbf 30 rfl (Zbe (Xl (rs:=(be n 4).reverse.map RV.u8) hm rfl rfl rfl rfl rfl))
 ·rw[Hh h]at hb ⊢
  have hb':ACv Tryz.prog 96 [.int n,.int s] (.seq 1 []):=hb
  refine Zz Tryz.func95 rfl _ Tryz.ntmps95 (by simp) fun C hn hm=>?_
  repeat' (first
|refine Xa (tl hn rfl) ?_
|(refine Zc hn rfl rfl rfl ?_;first
|refine⟨_,Zu 0 rfl rfl,?_⟩
|refine⟨_,Zu 4 rfl rfl,?_⟩)
|refine Zbg Zk hn rfl ?_
|refine Zbh ?_
|refine Za 30 rfl ?_
|refine V9 30 rfl ?_
|(refine Zc hn rfl rfl rfl ?_;first
|refine⟨_,Zi hb' rfl,?_⟩)
|(refine Zbf 30 rfl ?_;first|refine Zg rfl ?_|refine Zm rfl ?_|refine Zbe (Zj hm rfl rfl ?_)|exact Zbe (Zf hm rfl rfl rfl (nbT rfl) rfl rfl))
|(refine Zc hn rfl rfl rfl ?_;first
|refine⟨_,Z7 rfl rfl (by omega),?_⟩
|refine⟨_,Zw rfl rfl rfl rfl rfl rfl,?_⟩))
  exact Zbf 30 rfl (Zbe (Xl (rs:=[]) hm rfl rfl rfl rfl rfl))
noncomputable def Nf(r:Rul)(n:Int):List UInt8:=if r.little=true then(Ot n r.size).reverse else Ot n r.size
theorem Ub(r:Rul)(n:Int):AC Tryz.prog 54 [.agg (Xz r),.int n] (fun rr=>rr = .row 5 1 ((Nf r n).map RV.u8)):=by
 have h1:=Lx n r.size
 have h2:=Nq n r.size
 obtain⟨nm,kd,sz,li,bs,ns,tg,ki⟩:=r
 cases li
 all_goals
  refine Zz Tryz.func54 rfl _ Tryz.ntmps54 (by simp) fun C hn hm=>?_
  repeat' (first
|refine Ui h1 rfl (tl hn rfl) ?_
|refine Ui h2 rfl (tl hn rfl) ?_
|refine Zbg Zk hn rfl ?_
|refine Zbh ?_
|refine Za 30 rfl ?_
|(refine Zbf 30 rfl ?_;first|refine Zg rfl ?_|refine Zm rfl ?_|refine Zbe (Zj hm rfl rfl ?_)|exact Zbe (Zf hm rfl rfl rfl (nbT rfl) rfl rfl))
|refine Zs rfl (tl hn rfl) ?_
   )
  exact Zbf 30 rfl (Zbe (Xl (rs:=(Nf _ n).map RV.u8) hm rfl rfl rfl rfl rfl))
section
variable{P:Program}{C:Ctx}{env:Env}{σ:List Ob}{t:Nat}{ty:TypeId}{pos:String}{after:Array Edge}{gd:Option (Nat×Bool)}
theorem Qe{xt yt:TypeId}{x y:Operand}{p q:Int}(hx:ev env x = .int p)(hy:ev env y = .int q)(h:0≤p∧p≤9223372036854775807∧1≤q):Pur P C ⟨some t,.binOp .quo xt x y yt,ty,pos,after,gd⟩ env σ (.int (p / q)):=
 X5 hx hy (fun w=>by
  have h0:¬q=0:=by omega
  have hw:IntKind.i64.wrap (p.tdiv q)=p / q:=by
   rw[Int.tdiv_eq_ediv_of_nonneg h.1]
   have h1:0≤p / q:=Int.ediv_nonneg h.1 (by omega)
   have h2:p / q≤p:=Int.ediv_le_self _ h.1
   simp[IntKind.wrap,IntKind.bits,IntKind.signed];omega
  simp[go_sem,Op.intDiv,h0,hw])
theorem Sn{xt yt:TypeId}{x y:Operand}{p q:Int}(hx:ev env x = .int p)(hy:ev env y = .int q)(h:0≤p∧p≤9223372036854775807∧1≤q):Pur P C ⟨some t,.binOp .rem xt x y yt,ty,pos,after,gd⟩ env σ (.int (p % q)):=
 X5 hx hy (fun w=>by
  have h0:¬q=0:=by omega
  have h1:p.tmod q=p % q:=Int.tmod_eq_emod_of_nonneg h.1
  have h2:0≤p % q:=Int.emod_nonneg _ (by omega)
  have h3:p % q≤p:=by
   have:=Int.emod_lt_of_pos p (show 0<q by omega)
   have:=Int.mul_ediv_add_emod p q
   have:0≤q*(p / q):=Int.mul_nonneg (by omega) (Int.ediv_nonneg h.1 (by omega))
   omega
  have h4:IntKind.i64.wrap (p % q)=p % q:=by simp[IntKind.wrap,IntKind.bits,IntKind.signed];omega
  simp[go_sem,Op.intDiv,h0,h1,h4])
theorem Qf{xt yt:TypeId}{x y:Operand}{a b:ByteArray}(hx:ev env x = .str a)(hy:ev env y = .str b)(h:a.size+b.size≤9223372036854775807):Pur P C ⟨some t,.binOp .add xt x y yt,ty,pos,after,gd⟩ env σ (.str (a++b)):=
 X5 hx hy (fun w=>by
  have h':¬(((a.size+b.size:Nat):Int) > IntKind.i64.max):=by simp[IntKind.max,IntKind.bits,IntKind.signed];omega
  rw[binOp_string_add]
  simp only[Op.stringOp]
  rw[if_neg h']
  simp[go_sem])
end
theorem and_255(n:Int):bits .and .i64 n 255=n % 256:=by
 have h1:(BitVec.ofInt 64 255).toNat=2 ^ 8-1:=by decide
 have key:(BitVec.ofInt 64 n &&& BitVec.ofInt 64 255).toNat=(n % ((2 ^ 64:Nat):Int)).toNat % 2 ^ 8:=by
  rw[BitVec.toNat_and,BitVec.toNat_ofInt,h1,Nat.and_two_pow_sub_one_eq_mod]
 show IntKind.i64.wrap ((BitVec.ofInt 64 n &&& BitVec.ofInt 64 255).toNat:Nat)=n % 256
 rw[key,IntKind.wrap_i64]
 omega
theorem and_30(n:Int):bits .and .i64 n 1073741823=n % 1073741824:=by
 have h1:(BitVec.ofInt 64 1073741823).toNat=2 ^ 30-1:=by decide
 have key:(BitVec.ofInt 64 n &&& BitVec.ofInt 64 1073741823).toNat=(n % ((2 ^ 64:Nat):Int)).toNat % 2 ^ 30:=by
  rw[BitVec.toNat_and,BitVec.toNat_ofInt,h1,Nat.and_two_pow_sub_one_eq_mod]
 show IntKind.i64.wrap ((BitVec.ofInt 64 n &&& BitVec.ofInt 64 1073741823).toNat:Nat)=n % 1073741824
 rw[key,IntKind.wrap_i64]
 omega
section
variable{P:Program}{C:Ctx}{env:Env}{σ:List Ob}{t:Nat}{ty:TypeId}{pos:String}{after:Array Edge}{gd:Option (Nat×Bool)}{xt yt:TypeId}{x y:Operand}{p q:Int}
theorem pu_xor(hx:ev env x = .int p)(hy:ev env y = .int q):Pur P C ⟨some t,.binOp .xor xt x y yt,ty,pos,after,gd⟩ env σ (.int (bits .xor .i64 p q)):=X5 hx hy (fun w=>by simp[go_sem])
theorem Iu(hx:ev env x = .int p)(hy:ev env y = .int 255):Pur P C ⟨some t,.binOp .and xt x y yt,ty,pos,after,gd⟩ env σ (.int (p % 256)):=X5 hx hy (fun w=>by rw[←and_255];simp[go_sem])
theorem pu_and30(hx:ev env x = .int p)(hy:ev env y = .int 1073741823):Pur P C ⟨some t,.binOp .and xt x y yt,ty,pos,after,gd⟩ env σ (.int (p % 1073741824)):=X5 hx hy (fun w=>by rw[←and_30];simp[go_sem])
end
def QI(p:Int→Prop)(rr:RR):Prop:=∃x,rr = .ro (.int x)∧p x
def QB(rr:RR):Prop:=∃x,rr = .ro (.bool x)
def QS(p:ByteArray→Prop)(rr:RR):Prop:=∃x,rr = .ro (.str x)∧p x
section
variable{P:Program}{C:Ctx}{ops:Array Oper}{rest:List Oper}{k:List Item}{R:Act→World→Prop}{env:Env}{σ:List Ob}{t:Nat}{ty:TypeId}{pos:String}{after:Array Edge}{ct:TypeId}{b:List UInt8}{u:Value}{i h:Int}{more:List Ob}{l:List Oper}{H T':List IOq}{n:Nat}
theorem qi_ok{p:Int→Prop}:∀rr,QI p rr→Mh rr=true∧∃r,Seals rr r∧∃x,r = .int x∧p x:=by
 rintro _ ⟨x,rfl,hx⟩;exact⟨rfl,.int x,by simp[Seals],x,rfl,hx⟩
theorem qb_ok:∀rr,QB rr→Mh rr=true∧∃r,Seals rr r∧∃x,r = .bool x:=by
 rintro _ ⟨x,rfl⟩;exact⟨rfl,.bool x,by simp[Seals],x,rfl⟩
theorem qs_ok{p:ByteArray→Prop}:∀rr,QS p rr→Mh rr=true∧∃r,Seals rr r∧∃x,r = .str x∧p x:=by
 rintro _ ⟨x,rfl,hx⟩;exact⟨rfl,.str x,by simp[Seals],x,rfl,hx⟩
theorem Yt{f:FuncId}{fn:Func}{x0:Operand}{xs:List Operand}{ats:Array TypeId}{args:List RV}{p:Int→Prop}[hfn:FN P f fn](hf:Drw P ct f b args (QI p))(hc:unpin (ev env x0) = .obj 0 0)(hu:HU C b u)(hi:X8 b i)(hσ:σ=Yp ct u i h::more)(ha:LendsPL C σ (xs.map (ev env)) args)
  (hce:clnE env=true) (hcl:Hn more=true) (ht:t<C.n) (hk:∀(i' h' x:Int),X8 b i'→p x→RunsL P C ops rest k R ⟨(t,.int x)::env,Yp ct u i' h'::more⟩) :
  RunsL P C ops (⟨some t,.call {callee:=.value (.func f),args:=(x0::xs).toArray,argTypes:=ats},ty,pos,after,none⟩::rest) k R ⟨env,σ⟩:=
 Gy hf qi_ok hc hu hi hσ ha hce hcl ht (by rintro i' h' _ h1 ⟨x,rfl,hx⟩;exact hk i' h' x h1 hx)
theorem T9{f:FuncId}{fn:Func}{x0:Operand}{xs:List Operand}{ats:Array TypeId}{args:List RV}[hfn:FN P f fn](hf:Drw P ct f b args QB)(hc:unpin (ev env x0) = .obj 0 0)(hu:HU C b u)(hi:X8 b i)(hσ:σ=Yp ct u i h::more)(ha:LendsPL C σ (xs.map (ev env)) args)
  (hce:clnE env=true) (hcl:Hn more=true) (ht:t<C.n) (hk:∀(i' h':Int) (x:Bool),X8 b i'→RunsL P C ops rest k R ⟨(t,.bool x)::env,Yp ct u i' h'::more⟩) :
  RunsL P C ops (⟨some t,.call {callee:=.value (.func f),args:=(x0::xs).toArray,argTypes:=ats},ty,pos,after,none⟩::rest) k R ⟨env,σ⟩:=
 Gy hf qb_ok hc hu hi hσ ha hce hcl ht (by rintro i' h' _ h1 ⟨x,rfl⟩;exact hk i' h' x h1)
theorem Ud{f:FuncId}{fn:Func}{x0:Operand}{xs:List Operand}{ats:Array TypeId}{args:List RV}{p:ByteArray→Prop}[hfn:FN P f fn](hf:Drw P ct f b args (QS p))(hc:unpin (ev env x0) = .obj 0 0)(hu:HU C b u)(hi:X8 b i)(hσ:σ=Yp ct u i h::more)(ha:LendsPL C σ (xs.map (ev env)) args)
  (hce:clnE env=true) (hcl:Hn more=true) (ht:t<C.n) (hk:∀(i' h':Int) (x:ByteArray),X8 b i'→p x→RunsL P C ops rest k R ⟨(t,.str x)::env,Yp ct u i' h'::more⟩) :
  RunsL P C ops (⟨some t,.call {callee:=.value (.func f),args:=(x0::xs).toArray,argTypes:=ats},ty,pos,after,none⟩::rest) k R ⟨env,σ⟩:=
 Gy hf qs_ok hc hu hi hσ ha hce hcl ht (by rintro i' h' _ h1 ⟨x,rfl,hx⟩;exact hk i' h' x h1 hx)
theorem Qv{f:FuncId}{fn:Func}{x0:Operand}{xs:List Operand}{ats:Array TypeId}{args:List RV}{p:Int→Prop}[hfn:FN P f fn](hf:Drw P ct f b args (QI p))(hc:unpin (ev env x0) = .obj 0 0)(hu:HU C b u)(hi:X8 b i)(ha:∀h:Int,LendsPL C (Yp ct u i h::more) (xs.map (ev env)) args)
  (hce:clnE env=true) (hcl:Hn more=true) (ht:t<C.n) (hk:∀(i' h' x:Int),X8 b i'→p x→RunsP P C ct u more l H T' k R i' h' ((t,.int x)::env)) :
  RunsP P C ct u more l H ((n,⟨some t,.call {callee:=.value (.func f),args:=(x0::xs).toArray,argTypes:=ats},ty,pos,after,none⟩)::T') k R i h env:=
 K8 hf qi_ok hc hu hi ha hce hcl ht (by rintro i' h' _ h1 ⟨x,rfl,hx⟩;exact hk i' h' x h1 hx)
theorem R1{f:FuncId}{fn:Func}{x0:Operand}{xs:List Operand}{ats:Array TypeId}{args:List RV}{p:ByteArray→Prop}[hfn:FN P f fn](hf:Drw P ct f b args (QS p))(hc:unpin (ev env x0) = .obj 0 0)(hu:HU C b u)(hi:X8 b i)(ha:∀h:Int,LendsPL C (Yp ct u i h::more) (xs.map (ev env)) args)
  (hce:clnE env=true) (hcl:Hn more=true) (ht:t<C.n) (hk:∀(i' h':Int) (x:ByteArray),X8 b i'→p x→RunsP P C ct u more l H T' k R i' h' ((t,.str x)::env)) :
  RunsP P C ct u more l H ((n,⟨some t,.call {callee:=.value (.func f),args:=(x0::xs).toArray,argTypes:=ats},ty,pos,after,none⟩)::T') k R i h env:=
 K8 hf qs_ok hc hu hi ha hce hcl ht (by rintro i' h' _ h1 ⟨x,rfl,hx⟩;exact hk i' h' x h1 hx)
end
def curH(h:Int):Int:=w64 (w64 (h*6364136223846793005)+1442695040888963407)
def curX(h:Int):Int:=bits .xor .i64 (curH h / 8589934592) (curH h / 140737488355328) % 256
theorem G6(b:List UInt8)(hb:b.length≤1048576):Drw Tryz.prog 60 59 b [] (QI fun x=>0≤x∧x≤255):=by
 have hlb:(b.map fun z=>[RV.u8 z]).length=b.length:=lmT ..
 refine Ys Tryz.func59 rfl _ Tryz.ntmps59 (by simp) fun C g u i h hn hm hu hi=>?_
 have hi':=hi
 unfold X8 at hi'
 have hx0:0≤curX h∧curX h≤255:=by unfold curX;omega
 by_cases hlt:i<b.length
 ·obtain⟨c,hc⟩:∃c,b[i.toNat]?=some c:=⟨_,Za6 (by omega)⟩
  have hcl:=c.toNat_lt
  repeat' (first
|((first|refine Zc hn rfl rfl rfl ?_|refine Zl rfl rfl ?_);first
|refine⟨_,Vu hu (Yw Zk rfl),?_⟩)
|refine Zbg Zk hn rfl ?_
|refine Zbh ?_
|refine Za 30 rfl ?_
|((first|refine Zc hn rfl rfl rfl ?_|refine Zl rfl rfl ?_);first
|refine⟨_,Z9 rfl,?_⟩
|refine⟨_,Py rfl rfl,?_⟩
|refine⟨_,We (t:=10) rfl rfl,?_⟩
|refine⟨_,Jr 8589934592 rfl rfl (by decide) (by decide),?_⟩
|refine⟨_,Jr 140737488355328 rfl rfl (by decide) (by decide),?_⟩
|refine⟨_,pu_xor rfl rfl,?_⟩
|refine⟨_,Iu rfl rfl,?_⟩
|refine⟨_,Wv rfl,?_⟩
|refine⟨_,Zq rfl rfl (by have:=c.toNat_lt;omega),?_⟩)
|(refine Zbf 30 rfl ?_;first|(refine Zd rfl ?_ ?_;·first|omega|rfl|assumption|(simp only[lmT];omega))|(refine Ze rfl ?_ ?_;·first|omega|rfl|assumption|(simp only[lmT];omega))|refine Zbe (Zj hm rfl rfl ?_)|exact Zbe (Zf hm rfl rfl rfl (nbT rfl) rfl rfl))
|refine Z5 rfl rfl rfl rfl (nbT rfl) ?_
|refine Zbi Zk hn rfl rfl ?_
|refine Zbj ?_
|refine Zo 30 Yc hn rfl (by kernel_rfl) rfl ?_
|((first|refine Zc hn rfl rfl rfl ?_|refine Zl rfl rfl ?_);first
|refine⟨_,Zq rfl rfl (by omega),?_⟩
|refine⟨_,Zb rfl rfl (by omega) (by assumption),?_⟩))
  all_goals exact Zbf 30 rfl (Zbe (U4 hm rfl rfl rfl ⟨by omega,by omega⟩ rfl ⟨_,rfl,by omega,by omega⟩))
 ·repeat' (first
|((first|refine Zc hn rfl rfl rfl ?_|refine Zl rfl rfl ?_);first
|refine⟨_,Vu hu (Yw Zk rfl),?_⟩)
|refine Zbg Zk hn rfl ?_
|refine Zbh ?_
|refine Za 30 rfl ?_
|((first|refine Zc hn rfl rfl rfl ?_|refine Zl rfl rfl ?_);first
|refine⟨_,Z9 rfl,?_⟩
|refine⟨_,Py rfl rfl,?_⟩
|refine⟨_,We (t:=10) rfl rfl,?_⟩
|refine⟨_,Jr 8589934592 rfl rfl (by decide) (by decide),?_⟩
|refine⟨_,Jr 140737488355328 rfl rfl (by decide) (by decide),?_⟩
|refine⟨_,pu_xor rfl rfl,?_⟩
|refine⟨_,Iu rfl rfl,?_⟩
|refine⟨_,Wv rfl,?_⟩)
|(refine Zbf 30 rfl ?_;first|(refine Zd rfl ?_ ?_;·first|omega|rfl|assumption|(simp only[lmT];omega))|(refine Ze rfl ?_ ?_;·first|omega|rfl|assumption|(simp only[lmT];omega))|refine Zbe (Zj hm rfl rfl ?_)|exact Zbe (Zf hm rfl rfl rfl (nbT rfl) rfl rfl))
|refine Z5 rfl rfl rfl rfl (nbT rfl) ?_
|refine Zbi Zk hn rfl rfl ?_
|refine Zbj ?_
|refine Zo 30 Yc hn rfl (by kernel_rfl) rfl ?_
|((first|refine Zc hn rfl rfl rfl ?_|refine Zl rfl rfl ?_);first
|refine⟨_,Zq rfl rfl (by omega),?_⟩
|refine⟨_,Zb rfl rfl (by omega) (by assumption),?_⟩))
  all_goals exact Zbf 30 rfl (Zbe (U4 hm rfl rfl rfl hi rfl ⟨_,rfl,hx0⟩))
def Bel(n:Int)(x:Int):Prop:=(n≤0→x=0)∧(0<n→0≤x∧x<n)
set_option maxHeartbeats 1600000 in
theorem Yr(b:List UInt8)(hb:b.length≤1048576)(n:Int)(hn':n≤16777216):Drw Tryz.prog 60 28 b [.int n] (QI (Bel n)):=by
 refine Ys Tryz.func28 rfl _ Tryz.ntmps28 (by simp) fun C g u i h hn hm hu hi=>?_
 by_cases h1:n≤0
 ·repeat' (first
|refine Zbg Zk hn rfl ?_
|refine Zbh ?_
|refine Za 30 rfl ?_
|(refine Zbf 30 rfl ?_;first|(refine Zd rfl ?_ ?_;·first|omega|rfl|assumption)|(refine Ze rfl ?_ ?_;·first|omega|rfl|assumption)|refine Zbe (Zj hm rfl rfl ?_)|exact Zbe (Zf hm rfl rfl rfl (nbT rfl) rfl rfl))
|(refine Zc hn rfl rfl rfl ?_;first
|refine⟨_,Zq rfl rfl (by omega),?_⟩
|refine⟨_,Xj rfl rfl (by omega),?_⟩
   ))
  all_goals exact Zbf 30 rfl (Zbe (U4 hm rfl rfl rfl hi rfl ⟨_,rfl,fun _=>rfl,by omega⟩))
 by_cases h2:n≤256
 ·repeat' (first
|(refine Yt (G6 b hb) rfl hu hi rfl .nil rfl rfl (tl hn rfl) ?_;intro i h x hi hx)
|refine Zbg Zk hn rfl ?_
|refine Zbh ?_
|refine Za 30 rfl ?_
|(refine Zc hn rfl rfl rfl ?_;first
|refine⟨_,Sn rfl rfl (by omega),?_⟩)
|(refine Zbf 30 rfl ?_;first|(refine Zd rfl ?_ ?_;·first|omega|rfl|assumption)|(refine Ze rfl ?_ ?_;·first|omega|rfl|assumption)|refine Zbe (Zj hm rfl rfl ?_)|exact Zbe (Zf hm rfl rfl rfl (nbT rfl) rfl rfl))
|(refine Zc hn rfl rfl rfl ?_;first
|refine⟨_,Zq rfl rfl (by omega),?_⟩
|refine⟨_,Xj rfl rfl (by omega),?_⟩
   ))
  all_goals exact Zbf 30 rfl (Zbe (U4 hm rfl rfl rfl hi rfl ⟨_,rfl,by omega,fun _=>⟨Int.emod_nonneg _ (by omega),Int.emod_lt_of_pos _ (by omega)⟩⟩))
 ·repeat' (first
|(refine Yt (G6 b hb) rfl hu hi rfl .nil rfl rfl (tl hn rfl) ?_;intro i h x hi hx)
|refine Zbg Zk hn rfl ?_
|refine Zbh ?_
|refine Za 30 rfl ?_
|(refine Zc hn rfl rfl rfl ?_;first
|refine⟨_,Sn rfl rfl (by omega),?_⟩)
|(refine Zbf 30 rfl ?_;first|(refine Zd rfl ?_ ?_;·first|omega|rfl|assumption)|(refine Ze rfl ?_ ?_;·first|omega|rfl|assumption)|refine Zbe (Zj hm rfl rfl ?_)|exact Zbe (Zf hm rfl rfl rfl (nbT rfl) rfl rfl))
|(refine Zc hn rfl rfl rfl ?_;first
|refine⟨_,Zq rfl rfl (by omega),?_⟩
|refine⟨_,Xj rfl rfl (by omega),?_⟩
   ))
  all_goals exact Zbf 30 rfl (Zbe (U4 hm rfl rfl rfl hi rfl ⟨_,rfl,by omega,fun _=>⟨Int.emod_nonneg _ (by omega),Int.emod_lt_of_pos _ (by omega)⟩⟩))
theorem Ee(b:List UInt8)(hb:b.length≤1048576)(n:Int)(hn':n≤16777216):Drw Tryz.prog 60 26 b [.int n] QB:=by
 refine Ys Tryz.func26 rfl _ Tryz.ntmps26 (by simp) fun C g u i h hn hm hu hi=>?_
 repeat' (first
|(refine Yt (Yr b hb n hn') rfl hu hi rfl (Z6 [.int n]) rfl rfl (tl hn rfl) ?_;intro i h x hi hx)
|refine Zbg Zk hn rfl ?_
|refine Zbh ?_
|refine Za 30 rfl ?_
|(refine Zbf 30 rfl ?_;first|refine Zbe (Zj hm rfl rfl ?_)|exact Zbe (Zf hm rfl rfl rfl (nbT rfl) rfl rfl))
  )
 all_goals exact Zbf 30 rfl (Zbe (U4 hm rfl rfl rfl hi rfl ⟨_,rfl⟩))
theorem G5(b:List UInt8)(hb:b.length≤1048576)(l:List Int)(h0:0<l.length)(hl:l.length≤1000):Drw Tryz.prog 60 58 b [Xe l] (QI (·∈ l)):=by
 have hlm:(l.map fun z=>[RV.int z]).length=l.length:=lmT ..
 refine Ys Tryz.func58 rfl _ Tryz.ntmps58 (by simp) fun C g u i h hn hm hu hi=>?_
 repeat' (first
|(refine Yt (Yr b hb (l.length:Int) (by omega)) rfl hu hi rfl (Z6 [.int (l.length:Int)]) rfl rfl (tl hn rfl) ?_;intro i h x hi hx;obtain⟨x0,x1⟩:=hx.2 (by omega);obtain⟨s,hs⟩:∃s,l[x.toNat]?=some s:=⟨_,Za6 (by omega)⟩)
|(refine Zc hn rfl rfl rfl ?_;first
|refine⟨_,Zu l.length rfl hlm,?_⟩)
|refine Zbg Zk hn rfl ?_
|refine Zbh ?_
|refine Za 30 rfl ?_
|(refine Zbf 30 rfl ?_;first|refine Zbe (Zj hm rfl rfl ?_)|exact Zbe (Zf hm rfl rfl rfl (nbT rfl) rfl rfl))
|(refine Zc hn rfl rfl rfl ?_;first
|refine⟨_,Zb rfl rfl (by omega) (by assumption),?_⟩
   ))
 all_goals exact Zbf 30 rfl (Zbe (U4 hm rfl rfl rfl hi rfl ⟨_,rfl,Zba hs⟩))
theorem Qm(b:List UInt8)(hb:b.length≤1048576)(l:List ByteArray)(h0:0<l.length)(hl:l.length≤1000):Drw Tryz.prog 60 92 b [Vw l] (QS (·∈ l)):=by
 have hlm:(l.map fun z=>[RV.str z]).length=l.length:=lmT ..
 refine Ys Tryz.func92 rfl _ Tryz.ntmps92 (by simp) fun C g u i h hn hm hu hi=>?_
 repeat' (first
|(refine Yt (Yr b hb (l.length:Int) (by omega)) rfl hu hi rfl (Z6 [.int (l.length:Int)]) rfl rfl (tl hn rfl) ?_;intro i h x hi hx;obtain⟨x0,x1⟩:=hx.2 (by omega);obtain⟨s,hs⟩:∃s,l[x.toNat]?=some s:=⟨_,Za6 (by omega)⟩)
|(refine Zc hn rfl rfl rfl ?_;first
|refine⟨_,Zu l.length rfl hlm,?_⟩)
|refine Zbg Zk hn rfl ?_
|refine Zbh ?_
|refine Za 30 rfl ?_
|(refine Zbf 30 rfl ?_;first|refine Zbe (Zj hm rfl rfl ?_)|exact Zbe (Zf hm rfl rfl rfl (nbT rfl) rfl rfl))
|(refine Zc hn rfl rfl rfl ?_;first
|refine⟨_,Zb rfl rfl (by omega) (by assumption),?_⟩
   ))
 all_goals exact Zbf 30 rfl (Zbe (U4 hm rfl rfl rfl hi rfl ⟨_,rfl,Zba hs⟩))
def QBy(p:List UInt8→Prop)(rr:RR):Prop:=∃x:List UInt8,rr = .row 5 1 (x.map RV.u8)∧p x
theorem Kl(b:List UInt8)(hb:b.length≤1048576)(n:Nat)(hn':n≤1000):Drw Tryz.prog 60 29 b [.int (n:Int)] (QBy fun x=>x.length=n):=by
 refine Ys Tryz.func29 rfl _ Tryz.ntmps29 (by simp) fun C g u i h hn hm hu hi=>?_
 repeat' (first
|refine Zbg Zk hn rfl ?_
|refine Zbh ?_
|refine Za 30 rfl ?_
|refine Xa (tl hn rfl) ?_
|(refine Zbf 30 rfl ?_;first|(refine Zd rfl ?_ ?_;·first|omega|rfl|assumption|(simp only[lmT];omega))|(refine Ze rfl ?_ ?_;·first|omega|rfl|assumption|(simp only[lmT];omega))|refine Zbe (Zj hm rfl rfl ?_)|exact Zbe (Zf hm rfl rfl rfl (nbT rfl) rfl rfl))
|(refine Zc hn rfl rfl rfl ?_;first
|refine⟨_,Zq rfl rfl (by omega),?_⟩
|refine⟨_,Zw rfl rfl rfl rfl rfl rfl,?_⟩))
 refine W5 30 rfl (fun m E z=>∃(j:Nat) (x:List UInt8) (i h:Int),j+m=n∧x.length=j∧X8 b i∧E=[(0,.pin 0 0 g),(1,.int n),(5,.own 1),(6,.int (j:Int))]∧z=[Yp 60 u i h,⟨5,1,(x.map RV.u8).map .ro⟩]) n [(0,.pin 0 0 g),(1,.int n),(5,.own 1),(6,.int ((0:Nat):Int))] ⟨rfl,rfl,rfl,rfl,trivial⟩ ⟨0,[],i,h,by omega,rfl,hi,rfl,rfl⟩ fun m E z ⟨j,x,i,h,hj,hx,hi,hE,hz⟩ ih=>?_
 subst hE;subst hz
 by_cases hlt:j<n
 ·have hxl:(x.map RV.u8).length=j:=by rw[lmT];exact hx
  repeat' (first
|(refine Yt (G6 b hb) rfl hu hi rfl .nil rfl (by first|rfl|repeat' (first|rfl|exact Z0 _|refine Zt ?_ ?_)) (tl hn rfl) ?_;intro i h y hi hy)
|refine Zbg Zk hn rfl ?_
|refine Zbh ?_
|refine Za 30 rfl ?_
|refine Yl (n:=j) rfl rfl rfl rfl rfl rfl (by rw[hxl,Nat.mul_one]) (FreeI.at_ ⟨by simp[Yp,AV.onlys,AV.only],Yg _ _,trivial⟩) (by simp;omega) (by simp;omega) (tl hn rfl) ?_
|(refine Zc hn rfl rfl rfl ?_;first
|refine⟨_,Q8 rfl,?_⟩
|refine⟨_,Zw rfl rfl rfl rfl rfl rfl,?_⟩)
|(refine Zbf 30 rfl ?_;first|(refine Zd rfl ?_ ?_;·first|omega|rfl|assumption|(simp only[lmT];omega))|(refine Ze rfl ?_ ?_;·first|omega|rfl|assumption|(simp only[lmT];omega))|refine Zbe (Zj hm rfl rfl ?_)|exact Zbe (Zf hm rfl rfl rfl (nbT rfl) rfl rfl))
|(refine Zc hn rfl rfl rfl ?_;first
|refine⟨_,Zq rfl rfl (by omega),?_⟩
|refine⟨_,Zw rfl rfl rfl rfl rfl rfl,?_⟩))
  refine Zbf 30 rfl ?_
  refine ih (m-1) _ _ _ (by omega) ⟨j+1,x++[u8i y],i,h,by omega,by simp[hx],hi,rfl,?_⟩ ⟨rfl,rfl,rfl,rfl,trivial⟩
  simp
 ·repeat' (first
|refine Zbg Zk hn rfl ?_
|refine Zbh ?_
|refine Za 30 rfl ?_
|(refine Zbf 30 rfl ?_;first|(refine Zd rfl ?_ ?_;·first|omega|rfl|assumption|(simp only[lmT];omega))|(refine Ze rfl ?_ ?_;·first|omega|rfl|assumption|(simp only[lmT];omega))|refine Zbe (Zj hm rfl rfl ?_)|exact Zbe (Zf hm rfl rfl rfl (nbT rfl) rfl rfl))
|(refine Zc hn rfl rfl rfl ?_;first
|refine⟨_,Zq rfl rfl (by omega),?_⟩
|refine⟨_,Zw rfl rfl rfl rfl rfl rfl,?_⟩))
  have ej:j=n:=by omega
  subst ej
  exact Zbf 30 rfl (Zbe (Jy (rs:=x.map RV.u8) hm rfl rfl rfl hi rfl (by decide) rfl ⟨x,rfl,hx⟩))
set_option maxRecDepth 100000 in
instance tb_cur:TB Tryz.prog 60 [(0,1),(1,1),(2,1)] [.slice none 0 0,.int .i64 0,.int .i64 0]:=⟨_,_,_,rfl,rfl,rfl,rfl,by kernel_rfl,by decide⟩
def Rh(b:List UInt8):Nat→Int
 |0=>193017+b.length
 |j+1=>(Rh b j*137+((b[j]?.getD 0).toNat:Int)+11) % 1073741824
theorem hashN_bd(b:List UInt8)(hb:b.length≤1048576):∀j,0≤Rh b j∧Rh b j≤1073741824
 |0=>by unfold Rh;omega
 |j+1=>by unfold Rh;omega
set_option maxRecDepth 100000 in
theorem l1New_u(b:List UInt8)(hb:b.length≤1048576):ANewU Tryz.prog 60 12 b:=by
 have hlb:(b.map fun z=>[RV.u8 z]).length=b.length:=lmT ..
 refine Rw Tryz.func12 rfl _ Tryz.ntmps12 (by simp) fun C u hn hm hu=>?_
 obtain⟨A,m0,c0,rfl⟩:=hu.shape
 repeat' (first
|(refine Zc hn rfl rfl rfl ?_;first
|refine⟨_,Zu b.length rfl hlb,?_⟩
|refine⟨_,Vu hu (Yw (t:=5) Zk rfl),?_⟩
|refine⟨_,Vu hu (Yw (t:=9) Zk rfl),?_⟩
|refine⟨_,Vu hu (Yw (t:=20) Zk rfl),?_⟩)
|refine Zbg Zk hn rfl ?_
|refine Zbh ?_
|refine Za 30 rfl ?_
|(refine Zbf 30 rfl ?_;first|refine Zm rfl ?_|(refine Zd rfl ?_ ?_;·first|omega|rfl|assumption|(simp only[lmT];omega))|(refine Ze rfl ?_ ?_;·first|omega|rfl|assumption|(simp only[lmT];omega))|refine Zbe (Zj hm rfl rfl ?_)|exact Zbe (Zf hm rfl rfl rfl (nbT rfl) rfl rfl))
|refine Zs rfl (tl hn rfl) ?_
|(refine Zc hn rfl rfl rfl ?_;first
|refine⟨_,Zq rfl rfl (by omega),?_⟩
|refine⟨_,Zb rfl rfl (by omega) (by assumption),?_⟩
|refine⟨_,Xj rfl rfl (by omega),?_⟩
   )
|(refine Zh rfl rfl rfl ?_ ?_<;>intro h<;>try(exfalso;first|omega|contradiction|(simp only[lmT]at h;omega))))
 refine Yh 30 rfl (fun j=>[(0,.ro (.c (.slice A m0 c0))),(3,.int (Rh b j)),(4,.int (j:Int))]) (fun _=>[]) (fun _=>True) (min b.length 4000) 0 (Nat.zero_le _) trivial ⟨rfl,rfl,rfl,trivial⟩ rfl fun j hj _ next=>?_
 have hbd:=hashN_bd b hb j
 by_cases hlt:j<min b.length 4000
 ·obtain⟨c,hc⟩:∃c,b[(j:Int).toNat]?=some c:=⟨_,Za6 (by simp;omega)⟩
  have hcl:=c.toNat_lt
  repeat' (first
|(refine Zc hn rfl rfl rfl ?_;first
|refine⟨_,Zu b.length rfl hlb,?_⟩
|refine⟨_,Vu hu (Yw (t:=5) Zk rfl),?_⟩
|refine⟨_,Vu hu (Yw (t:=9) Zk rfl),?_⟩
|refine⟨_,Vu hu (Yw (t:=20) Zk rfl),?_⟩)
|refine Zbg Zk hn rfl ?_
|refine Zbh ?_
|refine Za 30 rfl ?_
|(refine Zc hn rfl rfl rfl ?_;first
|refine⟨_,Wv rfl,?_⟩
|refine⟨_,pu_and30 rfl rfl,?_⟩)
|(refine Zbf 30 rfl ?_;first|refine Zm rfl ?_|(refine Zd rfl ?_ ?_;·first|omega|rfl|assumption|(simp only[lmT];omega))|(refine Ze rfl ?_ ?_;·first|omega|rfl|assumption|(simp only[lmT];omega))|refine Zbe (Zj hm rfl rfl ?_)|exact Zbe (Zf hm rfl rfl rfl (nbT rfl) rfl rfl))
|refine Zs rfl (tl hn rfl) ?_
|(refine Zc hn rfl rfl rfl ?_;first
|refine⟨_,Zq rfl rfl (by omega),?_⟩
|refine⟨_,Zb rfl rfl (by omega) (by assumption),?_⟩
|refine⟨_,Xj rfl rfl (by omega),?_⟩
    )
|(refine Zh rfl rfl rfl ?_ ?_<;>intro h<;>try(exfalso;first|omega|contradiction|(simp only[lmT]at h;omega))))
  refine next _ _ ⟨rfl,?_,rfl,trivial⟩ hlt trivial rfl
  have hc':b[j]?=some c:=hc
  show AV.int _=AV.int _
  rw[Rh,hc'];rfl
 ·have ej:j=min b.length 4000:=by omega
  repeat' (first
|(refine Zc hn rfl rfl rfl ?_;first
|refine⟨_,Zu b.length rfl hlb,?_⟩
|refine⟨_,Vu hu (Yw (t:=5) Zk rfl),?_⟩
|refine⟨_,Vu hu (Yw (t:=9) Zk rfl),?_⟩
|refine⟨_,Vu hu (Yw (t:=20) Zk rfl),?_⟩)
|refine Zbg Zk hn rfl ?_
|refine Zbh ?_
|refine Za 30 rfl ?_
|(refine Zc hn rfl rfl rfl ?_;first
|refine⟨_,Z2 rfl,?_⟩)
|(refine Zbf 30 rfl ?_;first|refine Zm rfl ?_|(refine Zd rfl ?_ ?_;·first|omega|rfl|assumption|(simp only[lmT];omega))|(refine Ze rfl ?_ ?_;·first|omega|rfl|assumption|(simp only[lmT];omega))|refine Zbe (Zj hm rfl rfl ?_)|exact Zbe (Zf hm rfl rfl rfl (nbT rfl) rfl rfl))
|refine Zs rfl (tl hn rfl) ?_
|(refine Zc hn rfl rfl rfl ?_;first
|refine⟨_,Zq rfl rfl (by omega),?_⟩
|refine⟨_,Zb rfl rfl (by omega) (by assumption),?_⟩
|refine⟨_,Xj rfl rfl (by omega),?_⟩
    )
|(refine Zh rfl rfl rfl ?_ ?_<;>intro h<;>try(exfalso;first|omega|contradiction|(simp only[lmT]at h;omega))))
  all_goals exact Zbf 30 rfl (Zbe (endsNU hm rfl rfl rfl))
def Jf(x:Int):List UInt8:=if x=0 then[] else Lib.decDigits x.natAbs
theorem Sa(x:Int):(x.tdiv 10).natAbs=x.natAbs / 10:=by
 rw[Int.natAbs_tdiv];rfl
theorem tmod_abs(x:Int):(x.tmod 10).natAbs=x.natAbs % 10:=by
 rw[Int.natAbs_tmod];rfl
theorem Rl(x:Int)(hx:x≠0):Jf x=Jf (x.tdiv 10)++[UInt8.ofNat (48+x.natAbs % 10)]:=by
 have h1:=Sa x
 have hn:x.natAbs≠0:=by omega
 unfold Jf
 rw[if_neg hx,Lib.decDigits]
 by_cases h:x.natAbs<10
 ·have h0:x.tdiv 10=0:=by
   have:(x.tdiv 10).natAbs=0:=by rw[h1];omega
   omega
  rw[dif_pos h,if_pos h0,Nat.mod_eq_of_lt h];rfl
 ·have h0:x.tdiv 10≠0:=by
   intro e
   rw[e]at h1
   simp only[Int.natAbs_zero]at h1
   omega
  rw[dif_neg h,if_neg h0,h1]
theorem itoa_zero:Lib.itoa 0=[48]:=by
 unfold Lib.itoa
 rw[if_neg (by decide),Lib.decDigits,dif_pos (by decide)];rfl
theorem S1(n:Int)(h:n<0):Lib.itoa n=45::Jf n:=by
 unfold Lib.itoa Jf
 rw[if_pos h,if_neg (by omega)]
theorem S0(n:Int)(h:0<n):Lib.itoa n=Jf n:=by
 unfold Lib.itoa Jf
 rw[if_neg (by omega),if_neg (by omega),show n.toNat=n.natAbs by omega]
theorem Hk:∀(k u:Nat),u<10 ^ (k+1)→(Lib.decDigits u).length≤k+1
 |0,u,h=>by rw[Lib.decDigits,dif_pos (by simpa using h)];simp
 |k+1,u,h=>by
  rw[Lib.decDigits]
  split
  ·simp
  ·rw[Za7]
   have:=Hk k (u / 10) (by rw[Nat.pow_succ]at h;omega)
   simp only[Za8,Za9];omega
theorem Vc(n:Int)(h1 : -9223372036854775808≤n)(h2:n≤9223372036854775807):(Lib.itoa n).length≤20:=by
 unfold Lib.itoa
 split
 ·have:=Hk 18 n.natAbs (by omega)
  simp only[Za8];omega
 ·have:=Hk 18 n.toNat (by omega)
  omega
section
variable{P:Program}{C:Ctx}{env:Env}{σ:List Ob}{t:Nat}{ty:TypeId}{pos:String}{after:Array Edge}{gd:Option (Nat×Bool)}
theorem D1{p:Int}(h : -9223372036854775808≤p∧p≤9223372036854775807):IntKind.i64.wrap p=p:=by
 simp[IntKind.wrap,IntKind.bits,IntKind.signed];omega
theorem pu_quo10{xt yt:TypeId}{x y:Operand}{p:Int}(hx:ev env x = .int p)(hy:ev env y = .int 10)(h:I64 p):Pur P C ⟨some t,.binOp .quo xt x y yt,ty,pos,after,gd⟩ env σ (.int (p.tdiv 10)):=
 X5 hx hy (fun w=>by
  have h1:(p.tdiv 10).natAbs=p.natAbs / 10:=by rw[Int.natAbs_tdiv];rfl
  have hw:IntKind.i64.wrap (p.tdiv 10)=p.tdiv 10:=D1 (by omega)
  simp[go_sem,Op.intDiv,hw])
theorem pu_rem10{xt yt:TypeId}{x y:Operand}{p:Int}(hx:ev env x = .int p)(hy:ev env y = .int 10):Pur P C ⟨some t,.binOp .rem xt x y yt,ty,pos,after,gd⟩ env σ (.int (p.tmod 10)):=
 X5 hx hy (fun w=>by
  have h1:(p.tmod 10).natAbs=p.natAbs % 10:=by rw[Int.natAbs_tmod];rfl
  have hw:IntKind.i64.wrap (p.tmod 10)=p.tmod 10:=D1 (by omega)
  simp[go_sem,Op.intDiv,hw])
theorem pu_neg{xt:TypeId}{x:Operand}{p:Int}[hs:TI P xt .i64](hx:ev env x = .int p)(h:I64 (-p)):Pur P C ⟨some t,.unOp .neg xt x,ty,pos,after,gd⟩ env σ (.int (-p)):=
 Xm (fun a m hG hσ hH=>⟨.int .i64 (-p),by
  have e:=Ei (hH x (by simp[Op.operands])) hx
  simp only[execOp,Op.unary,e]
  simp[go_sem,Int.zero_sub,D1 h],by simp[AV.rel,RV.rel]⟩)
end
theorem ba_cat(l:List UInt8)(s:ByteArray):(⟨l.toArray⟩:ByteArray)++s=⟨(l++s.data.toList).toArray⟩:=by
 apply ByteArray.ext
 simp
theorem Vt(l:List UInt8):(⟨l.toArray⟩:ByteArray).size=l.length:=by simp[ByteArray.size]
theorem Sb{d:Int}{x:Nat}{l:List UInt8}(hd:d=(x % 10:Nat)):AV.str ((⟨[u8i (48+d)].toArray⟩:ByteArray)++⟨l.toArray⟩)=AV.str ⟨(UInt8.ofNat (48+x % 10)::l).toArray⟩:=by
 subst hd
 have e:u8i (48+((x % 10:Nat):Int))=UInt8.ofNat (48+x % 10):=by unfold u8i;congr 1;omega
 rw[e,ba_cat];rfl
theorem Y9(n:Int)(hI:I64 n):ACv Tryz.prog 93 [.int n] (.str ⟨(Lib.itoa n).toArray⟩):=by
 have hlen:=Vc n hI.1 hI.2
 refine Zz Tryz.func93 rfl _ Tryz.ntmps93 (by simp) fun C hn hm=>?_
 by_cases h0:n=0
 ·subst h0
  repeat' (first
|refine Zbg Zk hn rfl ?_
|refine Zbh ?_
|refine Za 30 rfl ?_
|(refine Zbf 30 rfl ?_;first|refine Zg rfl ?_|refine Zm rfl ?_|((first|refine Ze rfl ?_ ?_|refine Zn rfl ?_ ?_);·first|omega|rfl|assumption)|refine Z1 rfl (fun h=>?_) (fun h=>?_)|refine Zbe (Zj hm rfl rfl ?_)|exact Zbe (Zf hm rfl rfl rfl (nbT rfl) rfl rfl))
|(refine Zc hn rfl rfl rfl ?_;first
|refine⟨_,Zq rfl rfl (by omega),?_⟩
|refine⟨_,Zw rfl rfl rfl rfl rfl rfl,?_⟩))
  rw[itoa_zero]
 have hd:(Jf n).length≤20:=by
  rcases Int.lt_or_gt_of_ne h0 with h|h
  ·rw[S1 n h]at hlen;simp only[Za8]at hlen;omega
  ·rw[S0 n h]at hlen;exact hlen
 repeat' (first
|refine Zbg Zk hn rfl ?_
|refine Zbh ?_
|refine Za 30 rfl ?_
|(refine Zbf 30 rfl ?_;first|refine Zg rfl ?_|refine Zm rfl ?_|((first|refine Ze rfl ?_ ?_|refine Zn rfl ?_ ?_);·first|omega|rfl|assumption)|refine Z1 rfl (fun h=>?_) (fun h=>?_)|refine Zbe (Zj hm rfl rfl ?_)|exact Zbe (Zf hm rfl rfl rfl (nbT rfl) rfl rfl))
|(refine Zc hn rfl rfl rfl ?_;first
|refine⟨_,Zq rfl rfl (by omega),?_⟩
|refine⟨_,Zw rfl rfl rfl rfl rfl rfl,?_⟩))
 refine W5 30 rfl (fun m E s=>∃(x:Int) (l:List UInt8),x.natAbs≤m∧x.natAbs≤n.natAbs∧I64 x∧Jf n=Jf x++l∧E=[(0,.int n),(3,.str ⟨l.toArray⟩),(4,.int x)]∧s=[]) n.natAbs [(0,.int n),(3,.str ⟨#[]⟩),(4,.int n)] ⟨rfl,rfl,rfl,trivial⟩ ⟨n,[],Nat.le_refl _,Nat.le_refl _,hI,by simp,rfl,rfl⟩ fun m E s ⟨x,l,hm',hxn,hxb,hl,hE,hs⟩ ih=>?_
 subst hE;subst hs
 have hll:l.length≤20:=by rw[hl,Za7]at hd;omega
 by_cases hx:x=0
 ·subst hx
  have hl0:Jf n=l:=by rw[hl];simp[Jf]
  clear ih
  repeat' (first
|refine Zbg Zk hn rfl ?_
|refine Zbh ?_
|refine Za 30 rfl ?_
|(refine Zc hn rfl rfl rfl ?_;first
|refine⟨_,Qf rfl rfl (by rw[Vt];show 1+l.length≤_;omega),?_⟩)
|(refine Zbf 30 rfl ?_;first|refine Zg rfl ?_|refine Zm rfl ?_|((first|refine Ze rfl ?_ ?_|refine Zn rfl ?_ ?_);·first|omega|rfl|assumption)|refine Z1 rfl (fun h=>?_) (fun h=>?_)|refine Zbe (Zj hm rfl rfl ?_)|exact Zbe (Zf hm rfl rfl rfl (nbT rfl) rfl rfl))
|(refine Zc hn rfl rfl rfl ?_;first
|refine⟨_,Zq rfl rfl (by omega),?_⟩
|refine⟨_,Zw rfl rfl rfl rfl rfl rfl,?_⟩))
  ·refine rr_ro ?_
   rw[S1 n h,hl0,show(⟨#[45]⟩:ByteArray)=⟨[45].toArray⟩ from rfl,ba_cat]
   rfl
  ·refine rr_ro ?_
   rw[S0 n (by omega),hl0]
 ·have hst:=Rl x hx
  have hq:=Sa x
  have hr:=tmod_abs x
  have hng:I64 (-(x.tmod 10)):=by omega
  repeat' (first
|refine Zbg Zk hn rfl ?_
|refine Zbh ?_
|refine Za 30 rfl ?_
|(refine Zc hn rfl rfl rfl ?_;first
|refine⟨_,pu_quo10 rfl rfl hxb,?_⟩
|refine⟨_,pu_rem10 rfl rfl,?_⟩
|refine⟨_,pu_neg rfl hng,?_⟩
|refine⟨_,Q8 rfl,?_⟩
|refine⟨_,pu_string (l:=[_]) Tryz.underlying22 Tryz.underlying5 Tryz.underlying9 rfl,?_⟩
|refine⟨_,Qf rfl rfl (by rw[Vt,Vt];show 1+l.length≤_;omega),?_⟩)
|(refine Zbf 30 rfl ?_;first|refine Zg rfl ?_|refine Zm rfl ?_|((first|refine Ze rfl ?_ ?_|refine Zn rfl ?_ ?_);·first|omega|rfl|assumption)|refine Z1 rfl (fun h=>?_) (fun h=>?_)|refine Zbe (Zj hm rfl rfl ?_)|exact Zbe (Zf hm rfl rfl rfl (nbT rfl) rfl rfl))
|(refine Zc hn rfl rfl rfl ?_;first
|refine⟨_,Zq rfl rfl (by omega),?_⟩
|refine⟨_,Zw rfl rfl rfl rfl rfl rfl,?_⟩))
  ·refine ih (x.tdiv 10).natAbs _ _ _ (by omega) ⟨x.tdiv 10,UInt8.ofNat (48+x.natAbs % 10)::l,Nat.le_refl _,by omega,by omega,?_,rfl,rfl⟩ ⟨rfl,?_,rfl,trivial⟩
   ·rw[hl,hst];simp
   ·exact Sb (by omega)
  ·refine ih (x.tdiv 10).natAbs _ _ _ (by omega) ⟨x.tdiv 10,UInt8.ofNat (48+x.natAbs % 10)::l,Nat.le_refl _,by omega,by omega,?_,rfl,rfl⟩ ⟨rfl,?_,rfl,trivial⟩
   ·rw[hl,hst];simp
   ·exact Sb (by omega)
def IsInt(d:Des)(x:Int):Prop:=0≤x∧x<d.length∧∃r,d[x.toNat]?=some r∧r.kind=1
def W6(d:Des):Nat→List Int
 |0=>[]
 |j+1=>W6 d j++(match d[j]? with|some r=>if r.kind=1 then[(j:Int)] else[]|none=>[])
theorem A1{d:Des}{j:Nat}{r:Rul}(h:d[j]?=some r)(hk:r.kind=1):W6 d (j+1)=W6 d j++[(j:Int)]:=by simp[W6,h,hk]
theorem intIdx_no{d:Des}{j:Nat}{r:Rul}(h:d[j]?=some r)(hk:¬r.kind=1):W6 d (j+1)=W6 d j:=by simp[W6,h,hk]
theorem A4(d:Des):∀j,(W6 d j).length≤j
 |0=>by simp[W6]
 |j+1=>by
  have:=A4 d j
  simp only[W6,Za7]
  split
  ·split<;>simp<;>omega
  ·simp;omega
theorem A3(d:Des):∀j x,x∈W6 d j→IsInt d x
 |0,x,h=>by simp[W6]at h
 |j+1,x,h=>by
  simp only[W6,List.mem_append]at h
  rcases h with h|h
  ·exact A3 d j x h
  ·split at h
   ·rename_i r hr
    split at h
    ·simp at h;subst h
     have:=(Za5.1 hr).1
     exact⟨by omega,by omega,r,by simpa using hr,by assumption⟩
    ·simp at h
   ·simp at h
theorem A2{d:Des}{r:Rul}(h:d[0]?=some r)(hk:r.kind=1):∀j,0<(W6 d (j+1)).length
 |0=>by rw[A1 h hk];simp
 |j+1=>by
  have:=A2 h hk j
  rw[W6,Za7];omega
theorem flat1{α:Type}(f:α→RV):∀l:List α,(l.map fun z=>[f z]).flatten=l.map f
 | []=>rfl
 |x::l=>by simp[flat1 f l]
theorem len1{α:Type}(f:α→RV)(l:List α):∀x∈l.map (fun z=>[f z]),x.length=1:=fun x hx=>by
 obtain⟨z,_,rfl⟩:=List.mem_map.1 hx;rfl
theorem Me(b:List UInt8)(hb:b.length≤1048576)(d:Des)(hd:d.length≤24)(r0:Rul)(h0:d[0]?=some r0)(hk0:r0.kind=1):Drw Tryz.prog 60 94 b [X1 d] (QI (IsInt d)):=by
 have hlm:(d.map Xz).length=d.length:=lmT ..
 refine Ys Tryz.func94 rfl _ Tryz.ntmps94 (by simp) fun C g u i h hn hm hu hi=>?_
 repeat' (first
|refine Zbg Zk hn rfl ?_
|refine Zbh ?_
|refine Za 30 rfl ?_
|refine Xa (tl hn rfl) ?_
|(refine Zbf 30 rfl ?_;first|(refine Zd rfl ?_ ?_;·first|omega|rfl|assumption|(simp only[lmT];omega))|(refine Ze rfl ?_ ?_;·first|omega|rfl|assumption|(simp only[lmT];omega))|refine Zbe (Zj hm rfl rfl ?_)|exact Zbe (Zf hm rfl rfl rfl (nbT rfl) rfl rfl))
|refine Zs rfl (tl hn rfl) ?_
|(refine Zc hn rfl rfl rfl ?_;first
|refine⟨_,Zq rfl rfl (by omega),?_⟩
|refine⟨_,Zb rfl rfl (by omega) (by assumption),?_⟩
|refine⟨_,Zw rfl rfl rfl rfl rfl rfl,?_⟩))
 refine Yh 30 rfl (fun j=>[(0,.pin 0 0 g),(3,.obj 1 0),(5,.own 2),(6,.int (j:Int))]) (fun j=>[Yp 60 u i h,⟨26,0,[.ro (Wa d)]⟩,⟨3,1,((W6 d j).map RV.int).map .ro⟩]) (fun _=>True) d.length 0 (Nat.zero_le _) trivial ⟨rfl,rfl,rfl,rfl,trivial⟩ rfl fun j hj _ next=>?_
 have hil:=A4 d j
 have hxl:((W6 d j).map RV.int).length=(W6 d j).length:=lmT ..
 by_cases hlt:j<d.length
 ·obtain⟨r,hr⟩:∃r,d[(j:Int).toNat]?=some r:=⟨_,Za6 (by simpa using hlt)⟩
  have hr':d[j]?=some r:=hr
  by_cases hk:r.kind=1
  ·repeat' (first
|(refine Zc hn rfl rfl rfl ?_;first
|refine⟨_,Zu d.length rfl hlm,?_⟩)
|refine Zbg Zk hn rfl ?_
|refine Zbh ?_
|refine Za 30 rfl ?_
|refine Yl (n:=(W6 d j).length) rfl rfl rfl rfl rfl rfl (by rw[hxl,Nat.mul_one]) (FreeI.at_ ⟨by simp[Yp,AV.onlys,AV.only],by simp[AV.onlys,AV.only],Yg _ _,trivial⟩) (by simp;omega) (by simp;omega) (tl hn rfl) ?_
|(refine Zc hn rfl rfl rfl ?_;first
|refine⟨_,Zw rfl rfl rfl rfl rfl rfl,?_⟩)
|(refine Zbf 30 rfl ?_;first|(refine Zd rfl ?_ ?_;·first|omega|rfl|assumption|(simp only[lmT];omega))|(refine Ze rfl ?_ ?_;·first|omega|rfl|assumption|(simp only[lmT];omega))|refine Zbe (Zj hm rfl rfl ?_)|exact Zbe (Zf hm rfl rfl rfl (nbT rfl) rfl rfl))
|refine Zs rfl (tl hn rfl) ?_
|(refine Zc hn rfl rfl rfl ?_;first
|refine⟨_,Zq rfl rfl (by omega),?_⟩
|refine⟨_,Zb rfl rfl (by omega) (by assumption),?_⟩
|refine⟨_,Zw rfl rfl rfl rfl rfl rfl,?_⟩))
   exact next _ _ ⟨rfl,rfl,rfl,rfl,trivial⟩ hlt trivial (by rw[A1 hr' hk];simp)
  ·repeat' (first
|(refine Zc hn rfl rfl rfl ?_;first
|refine⟨_,Zu d.length rfl hlm,?_⟩)
|refine Zbg Zk hn rfl ?_
|refine Zbh ?_
|refine Za 30 rfl ?_
|(refine Zbf 30 rfl ?_;first|(refine Zd rfl ?_ ?_;·first|omega|rfl|assumption|(simp only[lmT];omega))|(refine Ze rfl ?_ ?_;·first|omega|rfl|assumption|(simp only[lmT];omega))|refine Zbe (Zj hm rfl rfl ?_)|exact Zbe (Zf hm rfl rfl rfl (nbT rfl) rfl rfl))
|refine Zs rfl (tl hn rfl) ?_
|(refine Zc hn rfl rfl rfl ?_;first
|refine⟨_,Zq rfl rfl (by omega),?_⟩
|refine⟨_,Zb rfl rfl (by omega) (by assumption),?_⟩
|refine⟨_,Zw rfl rfl rfl rfl rfl rfl,?_⟩))
   exact next _ _ ⟨rfl,rfl,rfl,rfl,trivial⟩ hlt trivial (by rw[intIdx_no hr' hk])
 ·have ej:j=d.length:=by omega
  subst ej
  have hpos:0<(W6 d d.length).length:=by
   obtain⟨m,hm⟩:∃m,d.length=m+1:=⟨d.length-1,by have:=(Za5.1 h0).1;omega⟩
   rw[hm];exact A2 h0 hk0 m
  repeat' (first
|(refine Yt (G5 b hb (W6 d d.length) hpos (by omega)) rfl hu hi rfl (.cons (LendsP.own (i:=2) (o:=⟨3,1,_⟩) (els:=(W6 d d.length).map fun z=>[RV.int z]) (by decide) rfl (by rw[flat1]) (len1 _ _)) .nil) rfl (by first|rfl|repeat' (first|rfl|exact Z0 _|refine Zt ?_ ?_)) (tl hn rfl) ?_;intro i h x hi hx)
|(refine Zc hn rfl rfl rfl ?_;first
|refine⟨_,Zu d.length rfl hlm,?_⟩)
|refine Zbg Zk hn rfl ?_
|refine Zbh ?_
|refine Za 30 rfl ?_
|(refine Zbf 30 rfl ?_;first|(refine Zd rfl ?_ ?_;·first|omega|rfl|assumption|(simp only[lmT];omega))|(refine Ze rfl ?_ ?_;·first|omega|rfl|assumption|(simp only[lmT];omega))|refine Zbe (Zj hm rfl rfl ?_)|exact Zbe (Zf hm rfl rfl rfl (nbT rfl) rfl rfl))
|refine Zs rfl (tl hn rfl) ?_
|(refine Zc hn rfl rfl rfl ?_;first
|refine⟨_,Zq rfl rfl (by omega),?_⟩
|refine⟨_,Zb rfl rfl (by omega) (by assumption),?_⟩
|refine⟨_,Zw rfl rfl rfl rfl rfl rfl,?_⟩))
  exact Zbf 30 rfl (Zbe (U4 hm rfl rfl rfl hi rfl ⟨_,rfl,A3 d _ _ hx⟩))
def W0:List ByteArray:=[⟨#[97]⟩,⟨#[105,116,101,109]⟩,⟨#[98]⟩,⟨#[104,101,97,100]⟩,⟨#[120]⟩]
def Hr:List ByteArray:=[⟨#[112]⟩,⟨#[113]⟩,⟨#[114]⟩]
def Wy(n:Int):ByteArray:=⟨(Lib.itoa n).toArray⟩
theorem Wp:∀x∈W0,x.size≤4:=by
 intro x hx
 simp only[W0,List.mem_cons,List.not_mem_nil,or_false]at hx
 rcases hx with rfl|rfl|rfl|rfl|rfl<;>decide
theorem Zaw:∀x∈Hr,x.size≤4:=by
 intro x hx
 simp only[Hr,List.mem_cons,List.not_mem_nil,or_false]at hx
 rcases hx with rfl|rfl|rfl<;>decide
def InD(d:Des)(z:Int):Prop:=(d.length=0→z=0)∧(0<d.length→0≤z∧z<d.length)
structure Ut (d:Des) (kind:Int) (r:Rul):Prop where
 hkind:r.kind=kind
 hname:∃a∈W0,r.name=a++Wy d.length
 hsize:(kind=1→1≤r.size∧r.size≤3)∧(kind=3→1≤r.size∧r.size≤4)∧(kind≠1→kind≠3→r.size=0)
 hlittle:r.little=true→kind=1∧1<r.size
 hbytes:(kind=2→1≤r.bytes.length∧r.bytes.length≤3)∧(kind=10→∃x∈([0,10,59,255]:List Int),r.bytes=[u8i x])∧(kind≠2→kind≠10→r.bytes=[])
 hnames:(kind=6→1≤r.names.length∧r.names.length≤3∧∀(j:Nat) x,r.names[j]?=some x→∃a∈Hr,x=a++Wy ((r.names.length:Int)-j))∧(kind≠6→r.names=[])
 htags:(kind=7→1≤r.tags.length∧r.tags.length≤3∧∀(j:Nat) z,r.tags[j]?=some z→4*(j:Int)≤z∧z≤4*j+3)∧(kind≠7→r.tags=[])
 hkids:(kind=4→∃x,IsInt d x∧r.kids=[x])∧(kind=5→∃x y,IsInt d x∧InD d y∧r.kids=[x,y])∧(kind=6→r.kids.length=r.names.length∧∀z∈r.kids,InD d z) ∧
  (kind=7→∃x l,IsInt d x∧l.length=r.tags.length∧(∀z∈l,InD d z)∧r.kids=x::l)∧(kind=8∨kind=9→∃y,InD d y∧r.kids=[y])∧(kind=1∨kind=2∨kind=3∨kind=10→r.kids=[])
section
variable{d:Des}{a:ByteArray}
theorem ruleD1{s:Int}{lt:Bool}(ha:a∈W0)(h:1≤s∧s≤3)(hl:lt=true→1<s):Ut d 1 ⟨a++Wy d.length,1,s,lt,[],[],[],[]⟩:=
 ⟨rfl,⟨a,ha,rfl⟩,by simp;exact h,fun e=>⟨rfl,hl e⟩,by simp,by simp,by simp,by simp⟩
theorem ruleD2{x:List UInt8}(ha:a∈W0)(h:1≤x.length∧x.length≤3):Ut d 2 ⟨a++Wy d.length,2,0,false,x,[],[],[]⟩:=
 ⟨rfl,⟨a,ha,rfl⟩,by simp,by simp,by simp;exact h,by simp,by simp,by simp⟩
theorem ruleD3{s:Int}(ha:a∈W0)(h:1≤s∧s≤4):Ut d 3 ⟨a++Wy d.length,3,s,false,[],[],[],[]⟩:=
 ⟨rfl,⟨a,ha,rfl⟩,by simp;exact h,by simp,by simp,by simp,by simp,by simp⟩
theorem ruleD4{x:Int}(ha:a∈W0)(h:IsInt d x):Ut d 4 ⟨a++Wy d.length,4,0,false,[],[],[],[x]⟩:=
 ⟨rfl,⟨a,ha,rfl⟩,by simp,by simp,by simp,by simp,by simp,by simp[h]⟩
theorem ruleD5{x y:Int}(ha:a∈W0)(h:IsInt d x)(hy:InD d y):Ut d 5 ⟨a++Wy d.length,5,0,false,[],[],[],[x,y]⟩:=
 ⟨rfl,⟨a,ha,rfl⟩,by simp,by simp,by simp,by simp,by simp,by simp[h,hy]⟩
theorem ruleD6{l:List ByteArray}{k:List Int}(ha:a∈W0)(h:1≤l.length∧l.length≤3)(hl:∀(j:Nat) x,l[j]?=some x→∃a∈Hr,x=a++Wy ((l.length:Int)-j))(hk:k.length=l.length)(hk':∀z∈k,InD d z):Ut d 6 ⟨a++Wy d.length,6,0,false,[],l,[],k⟩:=
 ⟨rfl,⟨a,ha,rfl⟩,by simp,by simp,by simp,⟨fun _=>⟨h.1,h.2,hl⟩,by simp⟩,by simp,by simp;exact⟨hk,hk'⟩⟩
theorem ruleD7{t k:List Int}{x:Int}(ha:a∈W0)(h:1≤t.length∧t.length≤3)(ht:∀(j:Nat) z,t[j]?=some z→4*(j:Int)≤z∧z≤4*j+3)(hx:IsInt d x)(hk:k.length=t.length)(hk':∀z∈k,InD d z):Ut d 7 ⟨a++Wy d.length,7,0,false,[],[],t,x::k⟩:=
 ⟨rfl,⟨a,ha,rfl⟩,by simp,by simp,by simp,by simp,⟨fun _=>⟨h.1,h.2,ht⟩,by simp⟩,⟨by simp,by simp,by simp,fun _=>⟨x,k,hx,hk,hk',rfl⟩,by simp,by simp⟩⟩
theorem ruleD8{y:Int}(ha:a∈W0)(hy:InD d y):Ut d 8 ⟨a++Wy d.length,8,0,false,[],[],[],[y]⟩:=
 ⟨rfl,⟨a,ha,rfl⟩,by simp,by simp,by simp,by simp,by simp,by simp[hy]⟩
theorem ruleD9{y:Int}(ha:a∈W0)(hy:InD d y):Ut d 9 ⟨a++Wy d.length,9,0,false,[],[],[],[y]⟩:=
 ⟨rfl,⟨a,ha,rfl⟩,by simp,by simp,by simp,by simp,by simp,by simp[hy]⟩
theorem ruleD10{y:Int}(ha:a∈W0)(hy:y∈([0,10,59,255]:List Int)):Ut d 10 ⟨a++Wy d.length,10,0,false,[u8i y],[],[],[]⟩:=
 ⟨rfl,⟨a,ha,rfl⟩,by simp,by simp,⟨by simp,fun _=>⟨y,hy,rfl⟩,by simp⟩,by simp,by simp,by simp⟩
end
def Ih(r:Rul):RR:=.agg [.ro (.str r.name),.ro (.int r.kind),.ro (.int r.size),.ro (.bool r.little),.row 5 1 (r.bytes.map RV.u8),.row 9 1 (r.names.map RV.str),.row 3 1 (r.tags.map RV.int),.row 3 1 (r.kids.map RV.int)]
theorem Se(r:Rul):Mh (Ih r)=true∧Seals (Ih r) (.agg (Xz r)):=by
 have fl:∀{α:Type} (f:α→RV) (l:List α),(∀x,flat (f x)=true)→(l.map f).all flat=true:=fun f l h=>by simp[h]
 refine⟨?_,?_⟩
 ·simp only[Ih,Mh,A6,flat,fl RV.u8 r.bytes (fun _=>rfl),fl RV.str r.names (fun _=>rfl),fl RV.int r.tags (fun _=>rfl),fl RV.int r.kids (fun _=>rfl),Bool.and_self]
 ·have sl:∀{α:Type} (e:TypeId) (f:α→RV) (l:List α),Seals (.row e 1 (l.map f)) (.seq 1 (l.map fun z=>[f z])):=fun e f l=>by
   simp only[Seals];exact⟨_,rfl,flat1 f l,len1 f l⟩
  simp only[Ih,Xz]
  unfold Seals
  refine⟨_,rfl,?_⟩
  unfold Wc;refine⟨_,_,rfl,by simp[Seals],?_⟩
  unfold Wc;refine⟨_,_,rfl,by simp[Seals],?_⟩
  unfold Wc;refine⟨_,_,rfl,by simp[Seals],?_⟩
  unfold Wc;refine⟨_,_,rfl,by simp[Seals],?_⟩
  unfold Wc;refine⟨_,_,rfl,sl _ RV.u8 _,?_⟩
  unfold Wc;refine⟨_,_,rfl,sl _ RV.str _,?_⟩
  unfold Wc;refine⟨_,_,rfl,sl _ RV.int _,?_⟩
  unfold Wc;refine⟨_,_,rfl,sl _ RV.int _,?_⟩
  unfold Wc;rfl
def rC(r:Rul)(a b c d:Nat):List AV:=[.str r.name,.int r.kind,.int r.size,.bool r.little,.own a,.own b,.own c,.own d]
def rowU(l:List UInt8):Ob:=⟨5,1,(l.map RV.u8).map .ro⟩
def rowS(l:List ByteArray):Ob:=⟨9,1,(l.map RV.str).map .ro⟩
def rowZ(l:List Int):Ob:=⟨3,1,(l.map RV.int).map .ro⟩
theorem harv_rul{σ:List Ob}{r:Rul}{a b c d:Nat}(h1:σ[a]?=some (rowU r.bytes))(h2:σ[b]?=some (rowS r.names))(h3:σ[c]?=some (rowZ r.tags))(h4:σ[d]?=some (rowZ r.kids)):Kx σ (Ih r) (.agg (rC r a b c d)) [a,b,c,d]:=by
 simp only[Ih,rC,Kx,Vy,rowU,rowS,rowZ]at *
 exact⟨_,rfl,_,_,[],_,rfl,rfl,⟨rfl,rfl⟩,_,_,[],_,rfl,rfl,⟨rfl,rfl⟩,_,_,[],_,rfl,rfl,⟨rfl,rfl⟩,_,_,[],_,rfl,rfl,⟨rfl,rfl⟩,_,_,[a],_,rfl,rfl,⟨a,rfl,h1,rfl⟩,_,_,[b],_,rfl,rfl,⟨b,rfl,h2,rfl⟩,_,_,[c],_,rfl,rfl,⟨c,rfl,h3,rfl⟩,_,_,[d],[],rfl,rfl,⟨d,rfl,h4,rfl⟩,rfl,rfl⟩
def Za3(p:Rul→Prop)(rr:RR):Prop:=∃r,rr=Ih r∧p r
theorem qrul_ok{p:Rul→Prop}:∀rr,Za3 p rr→Mh rr=true∧∃r,Seals rr r∧∃x,r = .agg (Xz x)∧p x:=by
 rintro _ ⟨x,rfl,hx⟩
 exact⟨(Se x).1,_,(Se x).2,x,rfl,hx⟩
set_option maxRecDepth 100000 in
instance tb_rule:TB Tryz.prog 78 [(0,1),(1,1),(2,1),(3,1),(4,1),(5,1),(6,1),(7,1)] [.string ⟨#[]⟩,.int .i64 0,.int .i64 0,.bool false,.slice none 0 0,.slice none 0 0,.slice none 0 0,.slice none 0 0]:=⟨_,_,_,rfl,rfl,rfl,rfl,by kernel_rfl,by decide⟩
theorem Vr{C:Ctx}{fn:Func}{ct:TypeId}{b:List UInt8}{g:Nat}{u:Value}{p:Rul→Prop}{env:Env}{σ:List Ob}{i h:Int}{more:List Ob}{t j:Nat}{r:Rul}{tt:TypeId}{x y z w:Nat}(hm:∀x,C.mu x→x=g)(hr:fn.results=#[.cell t 78])(hσ:σ=Yp ct u i h::more)(ht:look env 0 = .pin 0 0 g)(hi:X8 b i)(h1:look env t = .obj j 0)(h2:σ[j]?=some ⟨tt,0,rC r x y z w⟩)
  (k1:σ[x]?=some (rowU r.bytes)) (k2:σ[y]?=some (rowS r.names)) (k3:σ[z]?=some (rowZ r.tags)) (k4:σ[w]?=some (rowZ r.kids)) (hn:[x,y,z,w].Nodup) (h0:0∉[x,y,z,w]) (hQ:p r):∀a w,Sim C ⟨env,σ⟩ a w→Hz Tryz.prog C fn ct b g u (Za3 p) a w:=
 A8 hm hr hσ ht hi (.agg (rC r x y z w)) (by
  simp only[H3]
  exact⟨j,0,_,h1,h2,.inr ⟨8,by infer_instance,Nat.le_refl _,rfl⟩⟩) (Ih r) [x,y,z,w] (harv_rul k1 k2 k3 k4) hn h0 ⟨r,rfl,hQ⟩
set_option maxHeartbeats 8000000 in
theorem l4Make1_d(b:List UInt8)(hb:b.length≤1048576)(d:Des)(hd:d.length≤24):Drw Tryz.prog 60 52 b [X1 d,.int 1] (Za3 (Ut d 1)):=by
 have hlm:(d.map Xz).length=d.length:=lmT ..
 have hF:=Y9 (d.length:Int) (by constructor<;>omega)
 have hlen:=Vc (d.length:Int) (by omega) (by omega)
 have hfs:(⟨(Lib.itoa (d.length:Int)).toArray⟩:ByteArray).size≤20:=by rw[Vt];exact hlen
 refine Ys Tryz.func52 rfl _ Tryz.ntmps52 (by simp) fun C g u i h hn hm hu hi=>?_
 repeat' (first
|(refine Ud (Qm b hb W0 (by decide) (by decide)) rfl hu hi rfl (Z6 [Vw W0]) rfl (by first|rfl|repeat' (first|rfl|exact Z0 _|refine Zt ?_ ?_)) (tl hn rfl) ?_;intro i h a hi ha;have hsz:=Wp a ha)
|(refine Yt (Yr b hb _ (by omega)) rfl hu hi rfl (Z6 [.int _]) rfl (by first|rfl|repeat' (first|rfl|exact Z0 _|refine Zt ?_ ?_)) (tl hn rfl) ?_;intro i h x hi hx;obtain⟨hxa,hxb⟩:=hx.2 (by omega))
|refine K9 rfl rfl rfl ?_
|(refine T9 (Ee b hb 2 (by decide)) rfl hu hi rfl (Z6 [.int 2]) rfl (by first|rfl|repeat' (first|rfl|exact Z0 _|refine Zt ?_ ?_)) (tl hn rfl) ?_;intro i h lt hi)
|(refine Zc hn rfl rfl rfl ?_;first
|refine⟨_,Zu d.length rfl hlm,?_⟩)
|refine Zbg Zk hn rfl ?_
|refine Zbh ?_
|refine Za 30 rfl ?_
|(refine Zc hn rfl rfl rfl ?_;first
|refine⟨_,Zi hF rfl,?_⟩
|refine⟨_,Qf rfl rfl (by omega),?_⟩
|refine⟨_,Z2 rfl,?_⟩)
|(refine Zbf 30 rfl ?_;first|refine Zg rfl ?_|refine Zbe (Zj hm rfl rfl ?_)|exact Zbe (Zf hm rfl rfl rfl (nbT rfl) rfl rfl))
|refine Zs rfl (tl hn rfl) ?_
|refine Z5 rfl rfl rfl rfl (nbT rfl) ?_
|refine Zx (tl hn rfl) ?_
|refine Zr rfl rfl rfl rfl (nbT rfl) ?_
|(refine Zc hn rfl rfl rfl ?_;first
|refine⟨_,Zq rfl rfl (by omega),?_⟩
|refine⟨_,Zw rfl rfl rfl rfl rfl rfl,?_⟩)
|(refine Zh rfl rfl rfl ?_ ?_<;>intro h<;>try(exfalso;first|omega|contradiction|(simp only[lmT]at h;omega))))
 all_goals (
  refine Z4 (e:=5) (sz:=1) 2 4 (by decide) rfl rfl ?_
  refine Z4 (e:=9) (sz:=1) 2 5 (by decide) rfl rfl ?_
  refine Z4 (e:=3) (sz:=1) 2 6 (by decide) rfl rfl ?_
  refine Z4 (e:=3) (sz:=1) 2 7 (by decide) rfl rfl ?_)
 all_goals first
  |exact Zbf 30 rfl (Zbe (Vr (r:=⟨a++Wy d.length,1,1+x,lt,[],[],[],[]⟩) (x:=4) (y:=5) (z:=6) (w:=7) hm rfl rfl rfl hi rfl rfl rfl rfl rfl rfl (by decide) (by decide) (ruleD1 ha (by omega) (fun _=>by omega))))
  |exact Zbf 30 rfl (Zbe (Vr (r:=⟨a++Wy d.length,1,1+x,false,[],[],[],[]⟩) (x:=4) (y:=5) (z:=6) (w:=7) hm rfl rfl rfl hi rfl rfl rfl rfl rfl rfl (by decide) (by decide) (ruleD1 ha (by omega) (by simp))))
set_option maxHeartbeats 8000000 in
theorem l4Make2_d(b:List UInt8)(hb:b.length≤1048576)(d:Des)(hd:d.length≤24):Drw Tryz.prog 60 52 b [X1 d,.int 2] (Za3 (Ut d 2)):=by
 have hlm:(d.map Xz).length=d.length:=lmT ..
 have hF:=Y9 (d.length:Int) (by constructor<;>omega)
 have hlen:=Vc (d.length:Int) (by omega) (by omega)
 have hfs:(⟨(Lib.itoa (d.length:Int)).toArray⟩:ByteArray).size≤20:=by rw[Vt];exact hlen
 refine Ys Tryz.func52 rfl _ Tryz.ntmps52 (by simp) fun C g u i h hn hm hu hi=>?_
 repeat' (first
|(refine Ud (Qm b hb W0 (by decide) (by decide)) rfl hu hi rfl (Z6 [Vw W0]) rfl (by first|rfl|repeat' (first|rfl|exact Z0 _|refine Zt ?_ ?_)) (tl hn rfl) ?_;intro i h a hi ha;have hsz:=Wp a ha)
|(refine Yt (Yr b hb _ (by omega)) rfl hu hi rfl (Z6 [.int _]) rfl (by first|rfl|repeat' (first|rfl|exact Z0 _|refine Zt ?_ ?_)) (tl hn rfl) ?_;intro i h x hi hx;obtain⟨hxa,hxb⟩:=hx.2 (by omega);obtain⟨n3,rfl⟩:∃n3:Nat,x=n3:=⟨x.toNat,by omega⟩)
|(refine K1 (Kl b hb (1+n3) (by omega)) rfl hu hi rfl rfl rfl (by first|rfl|repeat' (first|rfl|exact Z0 _|refine Zt ?_ ?_)) (tl hn rfl) ?_;rintro i h _ hi ⟨z,rfl,hz⟩)
|(refine Zc hn rfl rfl rfl ?_;first
|refine⟨_,Zu d.length rfl hlm,?_⟩)
|refine Zbg Zk hn rfl ?_
|refine Zbh ?_
|refine Za 30 rfl ?_
|(refine Zc hn rfl rfl rfl ?_;first
|refine⟨_,Zi hF rfl,?_⟩
|refine⟨_,Qf rfl rfl (by omega),?_⟩
|refine⟨_,Z2 rfl,?_⟩)
|(refine Zbf 30 rfl ?_;first|refine Zg rfl ?_|refine Zm rfl ?_|refine Zbe (Zj hm rfl rfl ?_)|exact Zbe (Zf hm rfl rfl rfl (nbT rfl) rfl rfl))
|refine Zs rfl (tl hn rfl) ?_
|refine Z5 rfl rfl rfl rfl (nbT rfl) ?_
|refine Zx (tl hn rfl) ?_
|refine Zr rfl rfl rfl rfl (nbT rfl) ?_
|(refine Zc hn rfl rfl rfl ?_;first
|refine⟨_,Zq rfl rfl (by omega),?_⟩
|refine⟨_,Zw rfl rfl rfl rfl rfl rfl,?_⟩)
  )
 all_goals (
  refine Z4 (e:=9) (sz:=1) 2 5 (by decide) rfl rfl ?_
  refine Z4 (e:=3) (sz:=1) 2 6 (by decide) rfl rfl ?_
  refine Z4 (e:=3) (sz:=1) 2 7 (by decide) rfl rfl ?_)
 all_goals first
  |exact Zbf 30 rfl (Zbe (Vr (r:=⟨a++Wy d.length,2,0,false,z,[],[],[]⟩) (x:=4) (y:=5) (z:=6) (w:=7) hm rfl rfl rfl hi rfl rfl rfl rfl rfl rfl (by decide) (by decide) (ruleD2 ha (by omega))))
set_option maxHeartbeats 8000000 in
theorem l4Make3_d(b:List UInt8)(hb:b.length≤1048576)(d:Des)(hd:d.length≤24):Drw Tryz.prog 60 52 b [X1 d,.int 3] (Za3 (Ut d 3)):=by
 have hlm:(d.map Xz).length=d.length:=lmT ..
 have hF:=Y9 (d.length:Int) (by constructor<;>omega)
 have hlen:=Vc (d.length:Int) (by omega) (by omega)
 have hfs:(⟨(Lib.itoa (d.length:Int)).toArray⟩:ByteArray).size≤20:=by rw[Vt];exact hlen
 refine Ys Tryz.func52 rfl _ Tryz.ntmps52 (by simp) fun C g u i h hn hm hu hi=>?_
 repeat' (first
|(refine Ud (Qm b hb W0 (by decide) (by decide)) rfl hu hi rfl (Z6 [Vw W0]) rfl (by first|rfl|repeat' (first|rfl|exact Z0 _|refine Zt ?_ ?_)) (tl hn rfl) ?_;intro i h a hi ha;have hsz:=Wp a ha)
|(refine Yt (Yr b hb _ (by omega)) rfl hu hi rfl (Z6 [.int _]) rfl (by first|rfl|repeat' (first|rfl|exact Z0 _|refine Zt ?_ ?_)) (tl hn rfl) ?_;intro i h x hi hx;obtain⟨hxa,hxb⟩:=hx.2 (by omega))
|(refine Zc hn rfl rfl rfl ?_;first
|refine⟨_,Zu d.length rfl hlm,?_⟩)
|refine Zbg Zk hn rfl ?_
|refine Zbh ?_
|refine Za 30 rfl ?_
|(refine Zc hn rfl rfl rfl ?_;first
|refine⟨_,Zi hF rfl,?_⟩
|refine⟨_,Qf rfl rfl (by omega),?_⟩
|refine⟨_,Z2 rfl,?_⟩)
|(refine Zbf 30 rfl ?_;first|refine Zg rfl ?_|refine Zm rfl ?_|refine Zbe (Zj hm rfl rfl ?_)|exact Zbe (Zf hm rfl rfl rfl (nbT rfl) rfl rfl))
|refine Zs rfl (tl hn rfl) ?_
|refine Z5 rfl rfl rfl rfl (nbT rfl) ?_
|refine Zx (tl hn rfl) ?_
|refine Zr rfl rfl rfl rfl (nbT rfl) ?_
|(refine Zc hn rfl rfl rfl ?_;first
|refine⟨_,Zq rfl rfl (by omega),?_⟩
|refine⟨_,Zw rfl rfl rfl rfl rfl rfl,?_⟩)
  )
 all_goals (
  refine Z4 (e:=5) (sz:=1) 2 4 (by decide) rfl rfl ?_
  refine Z4 (e:=9) (sz:=1) 2 5 (by decide) rfl rfl ?_
  refine Z4 (e:=3) (sz:=1) 2 6 (by decide) rfl rfl ?_
  refine Z4 (e:=3) (sz:=1) 2 7 (by decide) rfl rfl ?_)
 all_goals first
  |exact Zbf 30 rfl (Zbe (Vr (r:=⟨a++Wy d.length,3,1+x,false,[],[],[],[]⟩) (x:=4) (y:=5) (z:=6) (w:=7) hm rfl rfl rfl hi rfl rfl rfl rfl rfl rfl (by decide) (by decide) (ruleD3 ha (by omega))))
set_option maxHeartbeats 8000000 in
theorem l4Make4_d(b:List UInt8)(hb:b.length≤1048576)(d:Des)(hd:d.length≤24)(r0:Rul)(h0:d[0]?=some r0)(hk0:r0.kind=1):Drw Tryz.prog 60 52 b [X1 d,.int 4] (Za3 (Ut d 4)):=by
 have hlm:(d.map Xz).length=d.length:=lmT ..
 have hF:=Y9 (d.length:Int) (by constructor<;>omega)
 have hlen:=Vc (d.length:Int) (by omega) (by omega)
 have hfs:(⟨(Lib.itoa (d.length:Int)).toArray⟩:ByteArray).size≤20:=by rw[Vt];exact hlen
 refine Ys Tryz.func52 rfl _ Tryz.ntmps52 (by simp) fun C g u i h hn hm hu hi=>?_
 repeat' (first
|(refine Ud (Qm b hb W0 (by decide) (by decide)) rfl hu hi rfl (Z6 [Vw W0]) rfl (by first|rfl|repeat' (first|rfl|exact Z0 _|refine Zt ?_ ?_)) (tl hn rfl) ?_;intro i h a hi ha;have hsz:=Wp a ha)
|(refine Yt (Me b hb d hd r0 h0 hk0) rfl hu hi rfl (Z6 [X1 d]) rfl (by first|rfl|repeat' (first|rfl|exact Z0 _|refine Zt ?_ ?_)) (tl hn rfl) ?_;intro i h x hi hx)
|refine Uz (t:=56) rfl rfl rfl rfl rfl (tl hn rfl) ?_
|(refine Zc hn rfl rfl rfl ?_;first
|refine⟨_,Zu d.length rfl hlm,?_⟩)
|refine Zbg Zk hn rfl ?_
|refine Zbh ?_
|refine Za 30 rfl ?_
|(refine Zc hn rfl rfl rfl ?_;first
|refine⟨_,Zi hF rfl,?_⟩
|refine⟨_,Qf rfl rfl (by omega),?_⟩
|refine⟨_,Z2 rfl,?_⟩)
|(refine Zbf 30 rfl ?_;first|refine Zg rfl ?_|refine Zm rfl ?_|refine Zbe (Zj hm rfl rfl ?_)|exact Zbe (Zf hm rfl rfl rfl (nbT rfl) rfl rfl))
|refine Zs rfl (tl hn rfl) ?_
|refine Z5 rfl rfl rfl rfl (nbT rfl) ?_
|refine Zx (tl hn rfl) ?_
|refine Zr rfl rfl rfl rfl (nbT rfl) ?_
|(refine Zc hn rfl rfl rfl ?_;first
|refine⟨_,Zw rfl rfl rfl rfl rfl rfl,?_⟩)
  )
 all_goals (
  refine Z4 (e:=5) (sz:=1) 2 4 (by decide) rfl rfl ?_
  refine Z4 (e:=9) (sz:=1) 2 5 (by decide) rfl rfl ?_
  refine Z4 (e:=3) (sz:=1) 2 6 (by decide) rfl rfl ?_)
 all_goals first
  |exact Zbf 30 rfl (Zbe (Vr (r:=⟨a++Wy d.length,4,0,false,[],[],[],[x]⟩) (x:=5) (y:=6) (z:=7) (w:=4) hm rfl rfl rfl hi rfl rfl rfl rfl rfl rfl (by decide) (by decide) (ruleD4 ha hx)))
set_option maxHeartbeats 8000000 in
theorem l4Make5_d(b:List UInt8)(hb:b.length≤1048576)(d:Des)(hd:d.length≤24)(r0:Rul)(h0:d[0]?=some r0)(hk0:r0.kind=1):Drw Tryz.prog 60 52 b [X1 d,.int 5] (Za3 (Ut d 5)):=by
 have hlm:(d.map Xz).length=d.length:=lmT ..
 have hF:=Y9 (d.length:Int) (by constructor<;>omega)
 have hlen:=Vc (d.length:Int) (by omega) (by omega)
 have hfs:(⟨(Lib.itoa (d.length:Int)).toArray⟩:ByteArray).size≤20:=by rw[Vt];exact hlen
 refine Ys Tryz.func52 rfl _ Tryz.ntmps52 (by simp) fun C g u i h hn hm hu hi=>?_
 repeat' (first
|(refine Ud (Qm b hb W0 (by decide) (by decide)) rfl hu hi rfl (Z6 [Vw W0]) rfl (by first|rfl|repeat' (first|rfl|exact Z0 _|refine Zt ?_ ?_)) (tl hn rfl) ?_;intro i h a hi ha;have hsz:=Wp a ha)
|(refine Yt (Me b hb d hd r0 h0 hk0) rfl hu hi rfl (Z6 [X1 d]) rfl (by first|rfl|repeat' (first|rfl|exact Z0 _|refine Zt ?_ ?_)) (tl hn rfl) ?_;intro i h x hi hx)
|(refine Yt (Yr b hb (d.length:Int) (by omega)) rfl hu hi rfl (Z6 [.int (d.length:Int)]) rfl (by first|rfl|repeat' (first|rfl|exact Z0 _|refine Zt ?_ ?_)) (tl hn rfl) ?_;intro i h y hi hy;have hyd:InD d y:=⟨fun e=>hy.1 (by omega),fun e=>hy.2 (by omega)⟩)
|refine Uz (t:=66) rfl rfl rfl rfl rfl (tl hn rfl) ?_
|(refine Zc hn rfl rfl rfl ?_;first
|refine⟨_,Zu d.length rfl hlm,?_⟩)
|refine Zbg Zk hn rfl ?_
|refine Zbh ?_
|refine Za 30 rfl ?_
|(refine Zc hn rfl rfl rfl ?_;first
|refine⟨_,Zi hF rfl,?_⟩
|refine⟨_,Qf rfl rfl (by omega),?_⟩
|refine⟨_,Z2 rfl,?_⟩)
|(refine Zbf 30 rfl ?_;first|refine Zg rfl ?_|refine Zm rfl ?_|refine Zbe (Zj hm rfl rfl ?_)|exact Zbe (Zf hm rfl rfl rfl (nbT rfl) rfl rfl))
|refine Zs rfl (tl hn rfl) ?_
|refine Z5 rfl rfl rfl rfl (nbT rfl) ?_
|refine Zx (tl hn rfl) ?_
|refine Zr rfl rfl rfl rfl (nbT rfl) ?_
|(refine Zc hn rfl rfl rfl ?_;first
|refine⟨_,Zw rfl rfl rfl rfl rfl rfl,?_⟩)
  )
 all_goals (
  refine Z4 (e:=5) (sz:=1) 2 4 (by decide) rfl rfl ?_
  refine Z4 (e:=9) (sz:=1) 2 5 (by decide) rfl rfl ?_
  refine Z4 (e:=3) (sz:=1) 2 6 (by decide) rfl rfl ?_)
 all_goals first
  |exact Zbf 30 rfl (Zbe (Vr (r:=⟨a++Wy d.length,5,0,false,[],[],[],[x,y]⟩) (x:=5) (y:=6) (z:=7) (w:=4) hm rfl rfl rfl hi rfl rfl rfl rfl rfl rfl (by decide) (by decide) (ruleD5 ha hx hyd)))
set_option maxHeartbeats 8000000 in
theorem l4Make8_d(b:List UInt8)(hb:b.length≤1048576)(d:Des)(hd:d.length≤24):Drw Tryz.prog 60 52 b [X1 d,.int 8] (Za3 (Ut d 8)):=by
 have hlm:(d.map Xz).length=d.length:=lmT ..
 have hF:=Y9 (d.length:Int) (by constructor<;>omega)
 have hlen:=Vc (d.length:Int) (by omega) (by omega)
 have hfs:(⟨(Lib.itoa (d.length:Int)).toArray⟩:ByteArray).size≤20:=by rw[Vt];exact hlen
 refine Ys Tryz.func52 rfl _ Tryz.ntmps52 (by simp) fun C g u i h hn hm hu hi=>?_
 repeat' (first
|(refine Ud (Qm b hb W0 (by decide) (by decide)) rfl hu hi rfl (Z6 [Vw W0]) rfl (by first|rfl|repeat' (first|rfl|exact Z0 _|refine Zt ?_ ?_)) (tl hn rfl) ?_;intro i h a hi ha;have hsz:=Wp a ha)
|(refine Yt (Yr b hb (d.length:Int) (by omega)) rfl hu hi rfl (Z6 [.int (d.length:Int)]) rfl (by first|rfl|repeat' (first|rfl|exact Z0 _|refine Zt ?_ ?_)) (tl hn rfl) ?_;intro i h y hi hy;have hyd:InD d y:=⟨fun e=>hy.1 (by omega),fun e=>hy.2 (by omega)⟩)
|refine Uz (t:=136) rfl rfl rfl rfl rfl (tl hn rfl) ?_
|(refine Zc hn rfl rfl rfl ?_;first
|refine⟨_,Zu d.length rfl hlm,?_⟩)
|refine Zbg Zk hn rfl ?_
|refine Zbh ?_
|refine Za 30 rfl ?_
|(refine Zc hn rfl rfl rfl ?_;first
|refine⟨_,Zi hF rfl,?_⟩
|refine⟨_,Qf rfl rfl (by omega),?_⟩
|refine⟨_,Z2 rfl,?_⟩)
|(refine Zbf 30 rfl ?_;first|refine Zg rfl ?_|refine Zm rfl ?_|refine Zbe (Zj hm rfl rfl ?_)|exact Zbe (Zf hm rfl rfl rfl (nbT rfl) rfl rfl))
|refine Zs rfl (tl hn rfl) ?_
|refine Z5 rfl rfl rfl rfl (nbT rfl) ?_
|refine Zx (tl hn rfl) ?_
|refine Zr rfl rfl rfl rfl (nbT rfl) ?_
|(refine Zc hn rfl rfl rfl ?_;first
|refine⟨_,Zw rfl rfl rfl rfl rfl rfl,?_⟩)
  )
 all_goals (
  refine Z4 (e:=5) (sz:=1) 2 4 (by decide) rfl rfl ?_
  refine Z4 (e:=9) (sz:=1) 2 5 (by decide) rfl rfl ?_
  refine Z4 (e:=3) (sz:=1) 2 6 (by decide) rfl rfl ?_)
 all_goals first
  |exact Zbf 30 rfl (Zbe (Vr (r:=⟨a++Wy d.length,8,0,false,[],[],[],[y]⟩) (x:=5) (y:=6) (z:=7) (w:=4) hm rfl rfl rfl hi rfl rfl rfl rfl rfl rfl (by decide) (by decide) (ruleD8 ha hyd)))
set_option maxHeartbeats 8000000 in
theorem l4Make9_d(b:List UInt8)(hb:b.length≤1048576)(d:Des)(hd:d.length≤24):Drw Tryz.prog 60 52 b [X1 d,.int 9] (Za3 (Ut d 9)):=by
 have hlm:(d.map Xz).length=d.length:=lmT ..
 have hF:=Y9 (d.length:Int) (by constructor<;>omega)
 have hlen:=Vc (d.length:Int) (by omega) (by omega)
 have hfs:(⟨(Lib.itoa (d.length:Int)).toArray⟩:ByteArray).size≤20:=by rw[Vt];exact hlen
 refine Ys Tryz.func52 rfl _ Tryz.ntmps52 (by simp) fun C g u i h hn hm hu hi=>?_
 repeat' (first
|(refine Ud (Qm b hb W0 (by decide) (by decide)) rfl hu hi rfl (Z6 [Vw W0]) rfl (by first|rfl|repeat' (first|rfl|exact Z0 _|refine Zt ?_ ?_)) (tl hn rfl) ?_;intro i h a hi ha;have hsz:=Wp a ha)
|(refine Yt (Yr b hb (d.length:Int) (by omega)) rfl hu hi rfl (Z6 [.int (d.length:Int)]) rfl (by first|rfl|repeat' (first|rfl|exact Z0 _|refine Zt ?_ ?_)) (tl hn rfl) ?_;intro i h y hi hy;have hyd:InD d y:=⟨fun e=>hy.1 (by omega),fun e=>hy.2 (by omega)⟩)
|refine Uz (t:=136) rfl rfl rfl rfl rfl (tl hn rfl) ?_
|(refine Zc hn rfl rfl rfl ?_;first
|refine⟨_,Zu d.length rfl hlm,?_⟩)
|refine Zbg Zk hn rfl ?_
|refine Zbh ?_
|refine Za 30 rfl ?_
|(refine Zc hn rfl rfl rfl ?_;first
|refine⟨_,Zi hF rfl,?_⟩
|refine⟨_,Qf rfl rfl (by omega),?_⟩
|refine⟨_,Z2 rfl,?_⟩)
|(refine Zbf 30 rfl ?_;first|refine Zg rfl ?_|refine Zm rfl ?_|refine Zbe (Zj hm rfl rfl ?_)|exact Zbe (Zf hm rfl rfl rfl (nbT rfl) rfl rfl))
|refine Zs rfl (tl hn rfl) ?_
|refine Z5 rfl rfl rfl rfl (nbT rfl) ?_
|refine Zx (tl hn rfl) ?_
|refine Zr rfl rfl rfl rfl (nbT rfl) ?_
|(refine Zc hn rfl rfl rfl ?_;first
|refine⟨_,Zw rfl rfl rfl rfl rfl rfl,?_⟩)
  )
 all_goals (
  refine Z4 (e:=5) (sz:=1) 2 4 (by decide) rfl rfl ?_
  refine Z4 (e:=9) (sz:=1) 2 5 (by decide) rfl rfl ?_
  refine Z4 (e:=3) (sz:=1) 2 6 (by decide) rfl rfl ?_)
 all_goals first
  |exact Zbf 30 rfl (Zbe (Vr (r:=⟨a++Wy d.length,9,0,false,[],[],[],[y]⟩) (x:=5) (y:=6) (z:=7) (w:=4) hm rfl rfl rfl hi rfl rfl rfl rfl rfl rfl (by decide) (by decide) (ruleD9 ha hyd)))
set_option maxHeartbeats 8000000 in
theorem Zag(b:List UInt8)(hb:b.length≤1048576)(d:Des)(hd:d.length≤24):Drw Tryz.prog 60 52 b [X1 d,.int 10] (Za3 (Ut d 10)):=by
 have hlm:(d.map Xz).length=d.length:=lmT ..
 have hF:=Y9 (d.length:Int) (by constructor<;>omega)
 have hlen:=Vc (d.length:Int) (by omega) (by omega)
 have hfs:(⟨(Lib.itoa (d.length:Int)).toArray⟩:ByteArray).size≤20:=by rw[Vt];exact hlen
 refine Ys Tryz.func52 rfl _ Tryz.ntmps52 (by simp) fun C g u i h hn hm hu hi=>?_
 repeat' (first
|(refine Ud (Qm b hb W0 (by decide) (by decide)) rfl hu hi rfl (Z6 [Vw W0]) rfl (by first|rfl|repeat' (first|rfl|exact Z0 _|refine Zt ?_ ?_)) (tl hn rfl) ?_;intro i h a hi ha;have hsz:=Wp a ha)
|(refine Yt (G5 b hb [0,10,59,255] (by decide) (by decide)) rfl hu hi rfl (Z6 [Xe [0,10,59,255]]) rfl (by first|rfl|repeat' (first|rfl|exact Z0 _|refine Zt ?_ ?_)) (tl hn rfl) ?_;intro i h y hi hy)
|refine Uz (t:=144) rfl rfl rfl rfl rfl (tl hn rfl) ?_
|(refine Zc hn rfl rfl rfl ?_;first
|refine⟨_,Zu d.length rfl hlm,?_⟩)
|refine Zbg Zk hn rfl ?_
|refine Zbh ?_
|refine Za 30 rfl ?_
|(refine Zc hn rfl rfl rfl ?_;first
|refine⟨_,Zi hF rfl,?_⟩
|refine⟨_,Qf rfl rfl (by omega),?_⟩
|refine⟨_,Z2 rfl,?_⟩
|refine⟨_,Q8 rfl,?_⟩)
|(refine Zbf 30 rfl ?_;first|refine Zg rfl ?_|refine Zm rfl ?_|refine Zbe (Zj hm rfl rfl ?_)|exact Zbe (Zf hm rfl rfl rfl (nbT rfl) rfl rfl))
|refine Zs rfl (tl hn rfl) ?_
|refine Z5 rfl rfl rfl rfl (nbT rfl) ?_
|refine Zx (tl hn rfl) ?_
|refine Zr rfl rfl rfl rfl (nbT rfl) ?_
|(refine Zc hn rfl rfl rfl ?_;first
|refine⟨_,Zw rfl rfl rfl rfl rfl rfl,?_⟩)
  )
 all_goals (
  refine Z4 (e:=9) (sz:=1) 2 5 (by decide) rfl rfl ?_
  refine Z4 (e:=3) (sz:=1) 2 6 (by decide) rfl rfl ?_
  refine Z4 (e:=3) (sz:=1) 2 7 (by decide) rfl rfl ?_)
 all_goals first
  |exact Zbf 30 rfl (Zbe (Vr (r:=⟨a++Wy d.length,10,0,false,[u8i y],[],[],[]⟩) (x:=4) (y:=5) (z:=6) (w:=7) hm rfl rfl rfl hi rfl rfl rfl rfl rfl rfl (by decide) (by decide) (ruleD10 ha hy)))
set_option maxHeartbeats 8000000 in
theorem l4Make6_d(b:List UInt8)(hb:b.length≤1048576)(d:Des)(hd:d.length≤24):Drw Tryz.prog 60 52 b [X1 d,.int 6] (Za3 (Ut d 6)):=by
 have hlm:(d.map Xz).length=d.length:=lmT ..
 have hF:=Y9 (d.length:Int) (by constructor<;>omega)
 have hlen:=Vc (d.length:Int) (by omega) (by omega)
 have hfs:(⟨(Lib.itoa (d.length:Int)).toArray⟩:ByteArray).size≤20:=by rw[Vt];exact hlen
 refine Ys Tryz.func52 rfl _ Tryz.ntmps52 (by simp) fun C g u i h hn hm hu hi=>?_
 repeat' (first
|(refine Ud (Qm b hb W0 (by decide) (by decide)) rfl hu hi rfl (Z6 [Vw W0]) rfl (by first|rfl|repeat' (first|rfl|exact Z0 _|refine Zt ?_ ?_)) (tl hn rfl) ?_;intro i h a hi ha;have hsz:=Wp a ha)
|(refine Yt (Yr b hb _ (by omega)) rfl hu hi rfl (Z6 [.int _]) rfl (by first|rfl|repeat' (first|rfl|exact Z0 _|refine Zt ?_ ?_)) (tl hn rfl) ?_;intro i h x hi hx;obtain⟨hxa,hxb⟩:=hx.2 (by omega))
|(refine Zc hn rfl rfl rfl ?_;first
|refine⟨_,Zu d.length rfl hlm,?_⟩)
|refine Zbg Zk hn rfl ?_
|refine Zbh ?_
|refine Za 30 rfl ?_
|(refine Zc hn rfl rfl rfl ?_;first
|refine⟨_,Zi hF rfl,?_⟩
|refine⟨_,Qf rfl rfl (by omega),?_⟩
|refine⟨_,Z2 rfl,?_⟩)
|(refine Zbf 30 rfl ?_;first|refine Zg rfl ?_|refine Zm rfl ?_|(refine Zd rfl ?_ ?_;·first|omega|rfl|assumption|(simp only[lmT];omega))|(refine Ze rfl ?_ ?_;·first|omega|rfl|assumption|(simp only[lmT];omega))|refine Zbe (Zj hm rfl rfl ?_)|exact Zbe (Zf hm rfl rfl rfl (nbT rfl) rfl rfl))
|refine Zs rfl (tl hn rfl) ?_
|refine Z5 rfl rfl rfl rfl (nbT rfl) ?_
|refine Zx (tl hn rfl) ?_
|refine Zr rfl rfl rfl rfl (nbT rfl) ?_
|(refine Zc hn rfl rfl rfl ?_;first
|refine⟨_,Zq rfl rfl (by omega),?_⟩
|refine⟨_,Z7 rfl rfl (by omega),?_⟩
|refine⟨_,Zw rfl rfl rfl rfl rfl rfl,?_⟩)
  )
 obtain⟨c,hc⟩:∃c:Nat,1+x=c:=⟨(1+x).toNat,by omega⟩
 rw[hc]
 refine Z4 (e:=9) (sz:=1) 3 5 (by decide) rfl rfl ?_
 refine Z4 (e:=3) (sz:=1) 3 7 (by decide) rfl rfl ?_
 refine W5 30 rfl (fun m E z=>∃(l:List ByteArray) (ks:List Int) (i h:Int),l.length+m=c∧ks.length=l.length∧(∀(j:Nat) x,l[j]?=some x→∃a∈Hr,x=a++Wy ((c:Int)-j))∧(∀z∈ks,InD d z)∧X8 b i∧E=[(0,.pin 0 0 g),(6,.obj 2 0),(7,.int d.length),(8,.obj 3 0),(9,.int m)] ∧
  z=[Yp 60 u i h,⟨26,0,[.ro (Wa d)]⟩,⟨78,0,[.str ⟨#[]⟩,.int 0,.int 0,.bool false,.nil,.nil,.nil,.nil]⟩,⟨78,0,[.str (a++Wy d.length),.int 6,.int 0,.bool false,.nil,.own 4,.nil,.own 5]⟩,⟨9,1,(l.map RV.str).map .ro⟩,⟨3,1,(ks.map RV.int).map .ro⟩]) c [(0,.pin 0 0 g),(6,.obj 2 0),(7,.int d.length),(8,.obj 3 0),(9,.int c)] ⟨rfl,rfl,rfl,rfl,rfl,trivial⟩ ⟨[],[],i,h,by simp,rfl,by simp,by simp,hi,rfl,rfl⟩ fun m E z ⟨l,ks,i,h,hlc,hkl,hl,hks,hi,hE,hz⟩ ih=>?_
 subst hE;subst hz
 have hll:(l.map RV.str).length=l.length:=lmT ..
 have hkk:(ks.map RV.int).length=ks.length:=lmT ..
 have hF2:=Y9 (m:Int) (by constructor<;>omega)
 have hlen2:=Vc (m:Int) (by omega) (by omega)
 have hfs2:(⟨(Lib.itoa (m:Int)).toArray⟩:ByteArray).size≤20:=by rw[Vt];exact hlen2
 by_cases hm0:0<m
 ·repeat' (first
|refine Xo (id:=19) 30 [0,1,2,3,5] [4,6,7,8,9,10,11] Yc rfl rfl (by kernel_rfl) (by kernel_rfl) (by kernel_rfl) ?_
|refine Xo (id:=20) 30 [0,1,2,3] [4,5,6,7,8] Yc rfl rfl (by kernel_rfl) (by kernel_rfl) (by kernel_rfl) ?_
|(refine R1 (Qm b hb Hr (by decide) (by decide)) rfl hu hi (fun _=>Z6 [Vw Hr]) rfl (by first|rfl|repeat' (first|rfl|exact Z0 _|refine Zt ?_ ?_)) (tl hn rfl) ?_;intro i h q hi hq;have hsz2:=Zaw q hq)
|(refine Qv (Yr b hb (d.length:Int) (by omega)) rfl hu hi (fun _=>Z6 [.int (d.length:Int)]) rfl (by first|rfl|repeat' (first|rfl|exact Z0 _|refine Zt ?_ ?_)) (tl hn rfl) ?_;intro i h y hi hy;have hyd:InD d y:=⟨fun e=>hy.1 (by omega),fun e=>hy.2 (by omega)⟩)
|(refine RunsL.junk 3 5 rfl ?_;refine Yl (t:=86) (n:=l.length) rfl rfl rfl rfl rfl rfl (by rw[hll,Nat.mul_one]) (FreeI.at_ ⟨by simp[Yp,AV.onlys,AV.only],by simp[AV.onlys,AV.only],by simp[AV.onlys,AV.only],by simp[AV.onlys,AV.only],Yg _ _,Yg _ _,trivial⟩) (by simp;omega) (by simp;omega) (tl hn rfl) ?_)
|(refine RunsL.junk 3 7 rfl ?_;refine Yl (t:=94) (n:=ks.length) rfl rfl rfl rfl rfl rfl (by rw[hkk,Nat.mul_one]) (FreeI.at_ ⟨by simp[Yp,AV.onlys,AV.only],by simp[AV.onlys,AV.only],by simp[AV.onlys,AV.only],by simp[AV.onlys,AV.only],Yg _ _,Yg _ _,trivial⟩) (by simp;omega) (by simp;omega) (tl hn rfl) ?_)
|refine RunsH.pur (fun _ _=>Yw Zk rfl) rfl (tl hn rfl) rfl ?_
|refine RunsH.pur (fun _ _=>Zi hF2 rfl) rfl (tl hn rfl) rfl ?_
|refine RunsH.pur (fun _ _=>Qf rfl rfl (by omega)) rfl (tl hn rfl) rfl ?_
|refine RunsH.pur (fun _ _=>Zw rfl rfl rfl rfl rfl rfl) rfl (tl hn rfl) rfl ?_
|refine RunsH.pur (fun _ _=>Zq rfl rfl (by omega)) rfl (tl hn rfl) rfl ?_
|refine RunsH.pur (fun _ _=>Z7 rfl rfl (by omega)) rfl (tl hn rfl) rfl ?_
|refine RunsH.pur (fun _ _=>Zw rfl rfl rfl rfl rfl rfl) rfl (tl hn rfl) rfl ?_
|refine RunsH.nil ?_
|refine RunsP.pur (Yw Zk rfl) rfl rfl (tl hn rfl) (by first|rfl|repeat' (first|rfl|exact Z0 _|refine Zt ?_ ?_)) ?_
|refine RunsP.pur (Zi hF2 rfl) rfl rfl (tl hn rfl) (by first|rfl|repeat' (first|rfl|exact Z0 _|refine Zt ?_ ?_)) ?_
|refine RunsP.pur (Qf rfl rfl (by omega)) rfl rfl (tl hn rfl) (by first|rfl|repeat' (first|rfl|exact Z0 _|refine Zt ?_ ?_)) ?_
|refine RunsP.pur (Zw rfl rfl rfl rfl rfl rfl) rfl rfl (tl hn rfl) (by first|rfl|repeat' (first|rfl|exact Z0 _|refine Zt ?_ ?_)) ?_
|refine RunsP.pur (Zq rfl rfl (by omega)) rfl rfl (tl hn rfl) (by first|rfl|repeat' (first|rfl|exact Z0 _|refine Zt ?_ ?_)) ?_
|refine RunsP.pur (Z7 rfl rfl (by omega)) rfl rfl (tl hn rfl) (by first|rfl|repeat' (first|rfl|exact Z0 _|refine Zt ?_ ?_)) ?_
|refine RunsP.pur (Zw rfl rfl rfl rfl rfl rfl) rfl rfl (tl hn rfl) (by first|rfl|repeat' (first|rfl|exact Z0 _|refine Zt ?_ ?_)) ?_
|refine Zbg Zk hn rfl ?_
|refine Zbh ?_
|refine Za 30 rfl ?_
|refine X2 9 rfl (nbT rfl) (by kernel_rfl) (by kernel_rfl) ?_
|refine X2 6 rfl (nbT rfl) (by kernel_rfl) (by kernel_rfl) ?_
|(refine Zc hn rfl rfl rfl ?_;first
|refine⟨_,Zi hF2 rfl,?_⟩
|refine⟨_,Qf rfl rfl (by omega),?_⟩
|refine⟨_,Zw rfl rfl rfl rfl rfl rfl,?_⟩)
|(refine Zbf 30 rfl ?_;first|refine Zg rfl ?_|refine Zm rfl ?_|(refine Zd rfl ?_ ?_;·first|omega|rfl|assumption|(simp only[lmT];omega))|(refine Ze rfl ?_ ?_;·first|omega|rfl|assumption|(simp only[lmT];omega))|refine Zbe (Zj hm rfl rfl ?_)|exact Zbe (Zf hm rfl rfl rfl (nbT rfl) rfl rfl))
|refine Zs rfl (tl hn rfl) ?_
|refine Z5 rfl rfl rfl rfl (nbT rfl) ?_
|refine Zx (tl hn rfl) ?_
|refine Zr rfl rfl rfl rfl (nbT rfl) ?_
|(refine Zc hn rfl rfl rfl ?_;first
|refine⟨_,Zq rfl rfl (by omega),?_⟩
|refine⟨_,Z7 rfl rfl (by omega),?_⟩
|refine⟨_,Zw rfl rfl rfl rfl rfl rfl,?_⟩)
  )
  refine ih (m-1) _ _ _ (by omega) ⟨l++[q++⟨(Lib.itoa (m:Int)).toArray⟩],ks++[y],i,h,by simp;omega,by simp[hkl],fun j z hz=>?_,fun z hz=>?_,hi,rfl,?_⟩ ⟨rfl,rfl,rfl,rfl,?_,trivial⟩
  ·rw[List.getElem?_append]at hz
   split at hz
   ·exact hl j z hz
   ·rename_i hj
    have hj':j-l.length=0:=by
     have:=(Za5.1 hz).1
     simp at this;omega
    rw[hj']at hz
    simp at hz
    subst hz
    exact⟨q,hq,by unfold Wy;congr 3;congr 1;omega⟩
  ·rcases List.mem_append.1 hz with h1|h1
   ·exact hks z h1
   ·simp at h1;subst h1;exact hyd
  ·simp
  ·show AV.int _=AV.int _
   congr 1;omega
 ·have em:m=0:=by omega
  repeat' (first
|refine Zbg Zk hn rfl ?_
|refine Zbh ?_
|refine Za 30 rfl ?_
|(refine Zbf 30 rfl ?_;first|refine Zg rfl ?_|refine Zm rfl ?_|(refine Zd rfl ?_ ?_;·first|omega|rfl|assumption|(simp only[lmT];omega))|(refine Ze rfl ?_ ?_;·first|omega|rfl|assumption|(simp only[lmT];omega))|refine Zbe (Zj hm rfl rfl ?_)|exact Zbe (Zf hm rfl rfl rfl (nbT rfl) rfl rfl))
|refine Zs rfl (tl hn rfl) ?_
|refine Z5 rfl rfl rfl rfl (nbT rfl) ?_
|refine Zx (tl hn rfl) ?_
|refine Zr rfl rfl rfl rfl (nbT rfl) ?_
|(refine Zc hn rfl rfl rfl ?_;first
|refine⟨_,Zq rfl rfl (by omega),?_⟩
|refine⟨_,Z7 rfl rfl (by omega),?_⟩
|refine⟨_,Zw rfl rfl rfl rfl rfl rfl,?_⟩)
   )
  refine Z4 (e:=5) (sz:=1) 2 4 (by decide) rfl rfl ?_
  refine Z4 (e:=3) (sz:=1) 2 6 (by decide) rfl rfl ?_
  exact Zbf 30 rfl (Zbe (Vr (r:=⟨a++Wy d.length,6,0,false,[],l,[],ks⟩) (x:=6) (y:=4) (z:=7) (w:=5) hm rfl rfl rfl hi rfl rfl rfl rfl rfl rfl (by decide) (by decide) (ruleD6 ha (by omega) (by rw[show(l.length:Int)=c by omega];exact hl) hkl hks)))
set_option maxHeartbeats 8000000 in
theorem l4Make7_d(b:List UInt8)(hb:b.length≤1048576)(d:Des)(hd:d.length≤24)(r0:Rul)(h0:d[0]?=some r0)(hk0:r0.kind=1):Drw Tryz.prog 60 52 b [X1 d,.int 7] (Za3 (Ut d 7)):=by
 have hlm:(d.map Xz).length=d.length:=lmT ..
 have hF:=Y9 (d.length:Int) (by constructor<;>omega)
 have hlen:=Vc (d.length:Int) (by omega) (by omega)
 have hfs:(⟨(Lib.itoa (d.length:Int)).toArray⟩:ByteArray).size≤20:=by rw[Vt];exact hlen
 refine Ys Tryz.func52 rfl _ Tryz.ntmps52 (by simp) fun C g u i h hn hm hu hi=>?_
 repeat' (first
|(refine Ud (Qm b hb W0 (by decide) (by decide)) rfl hu hi rfl (Z6 [Vw W0]) rfl (by first|rfl|repeat' (first|rfl|exact Z0 _|refine Zt ?_ ?_)) (tl hn rfl) ?_;intro i h a hi ha;have hsz:=Wp a ha)
|(refine Yt (Me b hb d hd r0 h0 hk0) rfl hu hi rfl (Z6 [X1 d]) rfl (by first|rfl|repeat' (first|rfl|exact Z0 _|refine Zt ?_ ?_)) (tl hn rfl) ?_;intro i h x0 hi hx0)
|refine Uz (t:=101) rfl rfl rfl rfl rfl (tl hn rfl) ?_
|(refine Yt (Yr b hb _ (by omega)) rfl hu hi rfl (Z6 [.int _]) rfl (by first|rfl|repeat' (first|rfl|exact Z0 _|refine Zt ?_ ?_)) (tl hn rfl) ?_;intro i h x hi hx;obtain⟨hxa,hxb⟩:=hx.2 (by omega))
|(refine Zc hn rfl rfl rfl ?_;first
|refine⟨_,Zu d.length rfl hlm,?_⟩)
|refine Zbg Zk hn rfl ?_
|refine Zbh ?_
|refine Za 30 rfl ?_
|(refine Zc hn rfl rfl rfl ?_;first
|refine⟨_,Zi hF rfl,?_⟩
|refine⟨_,Qf rfl rfl (by omega),?_⟩
|refine⟨_,Z2 rfl,?_⟩)
|(refine Zbf 30 rfl ?_;first|refine Zg rfl ?_|refine Zm rfl ?_|(refine Zd rfl ?_ ?_;·first|omega|rfl|assumption|(simp only[lmT];omega))|(refine Ze rfl ?_ ?_;·first|omega|rfl|assumption|(simp only[lmT];omega))|refine Zbe (Zj hm rfl rfl ?_)|exact Zbe (Zf hm rfl rfl rfl (nbT rfl) rfl rfl))
|refine Zs rfl (tl hn rfl) ?_
|refine Z5 rfl rfl rfl rfl (nbT rfl) ?_
|refine Zx (tl hn rfl) ?_
|refine Zr rfl rfl rfl rfl (nbT rfl) ?_
|(refine Zc hn rfl rfl rfl ?_;first
|refine⟨_,Zq rfl rfl (by omega),?_⟩
|refine⟨_,Z7 rfl rfl (by omega),?_⟩
|refine⟨_,Xj rfl rfl (by omega),?_⟩
|refine⟨_,Zw rfl rfl rfl rfl rfl rfl,?_⟩)
  )
 obtain⟨c,hc⟩:∃c:Nat,1+x=c:=⟨(1+x).toNat,by omega⟩
 rw[hc]
 refine Z4 (e:=3) (sz:=1) 3 6 (by decide) rfl rfl ?_
 refine W5 30 rfl (fun m E z=>∃(ts ks:List Int) (i h:Int),ts.length+m=c∧ks.length=ts.length∧(∀(j:Nat) z,ts[j]?=some z→4*(j:Int)≤z∧z≤4*j+3)∧(∀z∈ks,InD d z)∧X8 b i∧E=[(0,.pin 0 0 g),(6,.obj 2 0),(7,.int d.length),(8,.obj 3 0),(10,.int m)] ∧
  z=[Yp 60 u i h,⟨26,0,[.ro (Wa d)]⟩,⟨78,0,[.str ⟨#[]⟩,.int 0,.int 0,.bool false,.nil,.nil,.nil,.nil]⟩,⟨78,0,[.str (a++Wy d.length),.int 7,.int 0,.bool false,.nil,.nil,.own 5,.own 4]⟩,⟨3,1,((x0::ks).map RV.int).map .ro⟩,⟨3,1,(ts.map RV.int).map .ro⟩]) c [(0,.pin 0 0 g),(6,.obj 2 0),(7,.int d.length),(8,.obj 3 0),(10,.int c)] ⟨rfl,rfl,rfl,rfl,rfl,trivial⟩ ⟨[],[],i,h,by simp,rfl,by simp,by simp,hi,rfl,rfl⟩ fun m E z ⟨ts,ks,i,h,hlc,hkl,ht,hks,hi,hE,hz⟩ ih=>?_
 subst hE;subst hz
 have htt:(ts.map RV.int).length=ts.length:=lmT ..
 have hta:((ts.map RV.int).map AV.ro).length=ts.length:=by simp
 have hkk:((x0::ks).map RV.int).length=ks.length+1:=by simp
 by_cases hm0:0<m
 ·repeat' (first
|refine Xo (id:=26) 30 [0,1,2,3,4,5,6] [7,8,9,10,11,12] Yc rfl rfl (by kernel_rfl) (by kernel_rfl) (by kernel_rfl) ?_
|refine Xo (id:=27) 30 [0,1,2,3] [4,5,6,7,8] Yc rfl rfl (by kernel_rfl) (by kernel_rfl) (by kernel_rfl) ?_
|(refine Qv (t:=117) (Yr b hb 4 (by omega)) rfl hu hi (fun _=>Z6 [.int 4]) rfl (by first|rfl|repeat' (first|rfl|exact Z0 _|refine Zt ?_ ?_)) (tl hn rfl) ?_;intro i h q hi hq;obtain⟨hqa,hqb⟩:=hq.2 (by omega))
|(refine Qv (t:=126) (Yr b hb (d.length:Int) (by omega)) rfl hu hi (fun _=>Z6 [.int (d.length:Int)]) rfl (by first|rfl|repeat' (first|rfl|exact Z0 _|refine Zt ?_ ?_)) (tl hn rfl) ?_;intro i h y hi hy;have hyd:InD d y:=⟨fun e=>hy.1 (by omega),fun e=>hy.2 (by omega)⟩)
|refine RunsH.pur (fun _ _=>Yw Zk rfl) rfl (tl hn rfl) rfl ?_
|refine RunsH.pur (fun _ _=>Yo (n:=ts.length) rfl rfl (by rw[hta,Nat.mul_one])) rfl (tl hn rfl) rfl ?_
|refine RunsH.pur (fun _ _=>Xj rfl rfl (by omega)) rfl (tl hn rfl) rfl ?_
|refine RunsH.pur (fun _ _=>Zq rfl rfl (by omega)) rfl (tl hn rfl) rfl ?_
|refine RunsH.pur (fun _ _=>Zw rfl rfl rfl rfl rfl rfl) rfl (tl hn rfl) rfl ?_
|refine RunsH.pur (fun _ _=>Zq rfl rfl (by omega)) rfl (tl hn rfl) rfl ?_
|refine RunsH.pur (fun _ _=>Z7 rfl rfl (by omega)) rfl (tl hn rfl) rfl ?_
|refine RunsH.pur (fun _ _=>Xj rfl rfl (by omega)) rfl (tl hn rfl) rfl ?_
|refine RunsH.pur (fun _ _=>Zw rfl rfl rfl rfl rfl rfl) rfl (tl hn rfl) rfl ?_
|refine RunsH.nil ?_
|refine RunsP.pur (Yw Zk rfl) rfl rfl (tl hn rfl) (by first|rfl|repeat' (first|rfl|exact Z0 _|refine Zt ?_ ?_)) ?_
|refine RunsP.pur (Yo (n:=ts.length) rfl rfl (by rw[hta,Nat.mul_one])) rfl rfl (tl hn rfl) (by first|rfl|repeat' (first|rfl|exact Z0 _|refine Zt ?_ ?_)) ?_
|refine RunsP.pur (Xj rfl rfl (by omega)) rfl rfl (tl hn rfl) (by first|rfl|repeat' (first|rfl|exact Z0 _|refine Zt ?_ ?_)) ?_
|refine RunsP.pur (Zq rfl rfl (by omega)) rfl rfl (tl hn rfl) (by first|rfl|repeat' (first|rfl|exact Z0 _|refine Zt ?_ ?_)) ?_
|refine RunsP.pur (Zw rfl rfl rfl rfl rfl rfl) rfl rfl (tl hn rfl) (by first|rfl|repeat' (first|rfl|exact Z0 _|refine Zt ?_ ?_)) ?_
|refine RunsP.pur (Zq rfl rfl (by omega)) rfl rfl (tl hn rfl) (by first|rfl|repeat' (first|rfl|exact Z0 _|refine Zt ?_ ?_)) ?_
|refine RunsP.pur (Z7 rfl rfl (by omega)) rfl rfl (tl hn rfl) (by first|rfl|repeat' (first|rfl|exact Z0 _|refine Zt ?_ ?_)) ?_
|refine RunsP.pur (Xj rfl rfl (by omega)) rfl rfl (tl hn rfl) (by first|rfl|repeat' (first|rfl|exact Z0 _|refine Zt ?_ ?_)) ?_
|refine RunsP.pur (Zw rfl rfl rfl rfl rfl rfl) rfl rfl (tl hn rfl) (by first|rfl|repeat' (first|rfl|exact Z0 _|refine Zt ?_ ?_)) ?_
|refine Zbg Zk hn rfl ?_
|refine Zbh ?_
|refine Za 30 rfl ?_
|refine X2 10 rfl (nbT rfl) (by kernel_rfl) (by kernel_rfl) ?_
|refine X2 6 rfl (nbT rfl) (by kernel_rfl) (by kernel_rfl) ?_
|(refine RunsL.junk 3 6 rfl ?_;refine Yl (t:=120) (n:=ts.length) rfl rfl rfl rfl rfl rfl (by rw[htt,Nat.mul_one]) (FreeI.at_ ⟨by simp[Yp,AV.onlys,AV.only],by simp[AV.onlys,AV.only],by simp[AV.onlys,AV.only],by simp[AV.onlys,AV.only],Yg _ _,Yg _ _,trivial⟩) (by simp;omega) (by simp;omega) (tl hn rfl) ?_)
|(refine RunsL.junk 3 7 rfl ?_;refine Yl (t:=128) (n:=ks.length+1) rfl rfl rfl rfl rfl rfl (by rw[hkk,Nat.mul_one]) (FreeI.at_ ⟨by simp[Yp,AV.onlys,AV.only],by simp[AV.onlys,AV.only],by simp[AV.onlys,AV.only],by simp[AV.onlys,AV.only],Yg _ _,Yg _ _,trivial⟩) (by simp;omega) (by simp;omega) (tl hn rfl) ?_)
|(refine Zc hn rfl rfl rfl ?_;first
|refine⟨_,Yo (n:=ts.length) rfl rfl (by rw[hta,Nat.mul_one]),?_⟩
|refine⟨_,Xj rfl rfl (by omega),?_⟩
|refine⟨_,Zq rfl rfl (by omega),?_⟩
|refine⟨_,Zw rfl rfl rfl rfl rfl rfl,?_⟩)
|(refine Zbf 30 rfl ?_;first|refine Zg rfl ?_|refine Zm rfl ?_|(refine Zd rfl ?_ ?_;·first|omega|rfl|assumption|(simp only[lmT];omega))|(refine Ze rfl ?_ ?_;·first|omega|rfl|assumption|(simp only[lmT];omega))|refine Zbe (Zj hm rfl rfl ?_)|exact Zbe (Zf hm rfl rfl rfl (nbT rfl) rfl rfl))
|refine Zs rfl (tl hn rfl) ?_
|refine Z5 rfl rfl rfl rfl (nbT rfl) ?_
|refine Zx (tl hn rfl) ?_
|refine Zr rfl rfl rfl rfl (nbT rfl) ?_
|(refine Zc hn rfl rfl rfl ?_;first
|refine⟨_,Zq rfl rfl (by omega),?_⟩
|refine⟨_,Z7 rfl rfl (by omega),?_⟩
|refine⟨_,Xj rfl rfl (by omega),?_⟩
|refine⟨_,Zw rfl rfl rfl rfl rfl rfl,?_⟩)
  )
  refine ih (m-1) _ _ _ (by omega) ⟨ts++[4*(ts.length:Int)+q],ks++[y],i,h,by simp;omega,by simp[hkl],fun j z hz=>?_,fun z hz=>?_,hi,rfl,?_⟩ ⟨rfl,rfl,rfl,rfl,?_,trivial⟩
  ·rw[List.getElem?_append]at hz
   split at hz
   ·exact ht j z hz
   ·rename_i hj
    have hj':j-ts.length=0:=by
     have:=(Za5.1 hz).1
     simp at this;omega
    rw[hj']at hz
    simp at hz
    subst hz
    omega
  ·rcases List.mem_append.1 hz with h1|h1
   ·exact hks z h1
   ·simp at h1;subst h1;exact hyd
  ·simp
  ·show AV.int _=AV.int _
   congr 1;omega
 ·have em:m=0:=by omega
  repeat' (first
|refine Zbg Zk hn rfl ?_
|refine Zbh ?_
|refine Za 30 rfl ?_
|(refine Zbf 30 rfl ?_;first|refine Zg rfl ?_|refine Zm rfl ?_|(refine Zd rfl ?_ ?_;·first|omega|rfl|assumption|(simp only[lmT];omega))|(refine Ze rfl ?_ ?_;·first|omega|rfl|assumption|(simp only[lmT];omega))|refine Zbe (Zj hm rfl rfl ?_)|exact Zbe (Zf hm rfl rfl rfl (nbT rfl) rfl rfl))
|refine Zs rfl (tl hn rfl) ?_
|refine Z5 rfl rfl rfl rfl (nbT rfl) ?_
|refine Zx (tl hn rfl) ?_
|refine Zr rfl rfl rfl rfl (nbT rfl) ?_
|(refine Zc hn rfl rfl rfl ?_;first
|refine⟨_,Zq rfl rfl (by omega),?_⟩
|refine⟨_,Z7 rfl rfl (by omega),?_⟩
|refine⟨_,Xj rfl rfl (by omega),?_⟩
|refine⟨_,Zw rfl rfl rfl rfl rfl rfl,?_⟩)
   )
  refine Z4 (e:=5) (sz:=1) 2 4 (by decide) rfl rfl ?_
  refine Z4 (e:=9) (sz:=1) 2 5 (by decide) rfl rfl ?_
  exact Zbf 30 rfl (Zbe (Vr (r:=⟨a++Wy d.length,7,0,false,[],[],ts,x0::ks⟩) (x:=6) (y:=7) (z:=5) (w:=4) hm rfl rfl rfl hi rfl rfl rfl rfl rfl rfl (by decide) (by decide) (ruleD7 ha (by omega) ht hx0 hkl hks)))
structure DrawD (d:Des):Prop where
 pos:1≤d.length
 most:d.length≤6
 first:∃r0,d[0]?=some r0∧r0.kind=1
 rule:∀(j:Nat) r,d[j]?=some r→∃k,1≤k∧k≤10∧Ut (d.take j) k r
theorem Sz(b:List UInt8)(hb:b.length≤1048576)(d:Des)(hd:d.length≤24)(k:Int)(hk:1≤k∧k≤10)(hi:k=1∨∃r0,d[0]?=some r0∧r0.kind=1):Drw Tryz.prog 60 52 b [X1 d,.int k] (Za3 (Ut d k)):=by
 by_cases h1:k=1
 ·subst h1;exact l4Make1_d b hb d hd
 obtain⟨r0,h0,hk0⟩:=hi.resolve_left h1
 have:k=2∨k=3∨k=4∨k=5∨k=6∨k=7∨k=8∨k=9∨k=10:=by omega
 rcases this with rfl|rfl|rfl|rfl|rfl|rfl|rfl|rfl|rfl
 ·exact l4Make2_d b hb d hd
 ·exact l4Make3_d b hb d hd
 ·exact l4Make4_d b hb d hd r0 h0 hk0
 ·exact l4Make5_d b hb d hd r0 h0 hk0
 ·exact l4Make6_d b hb d hd
 ·exact l4Make7_d b hb d hd r0 h0 hk0
 ·exact l4Make8_d b hb d hd
 ·exact l4Make9_d b hb d hd
 ·exact Zag b hb d hd
theorem DrawD.app{d:Des}{k:Int}{r:Rul}(h:DrawD d)(hl:d.length<6)(hk:1≤k∧k≤10)(hr:Ut d k r):DrawD (d++[r]):=by
 obtain⟨r0,e0,k0⟩:=h.first
 refine⟨by simp,by simp;omega,⟨r0,?_,k0⟩,fun j x hx=>?_⟩
 ·rw[Zbc (by have:=h.pos;omega)];exact e0
 ·rcases Nat.lt_or_ge j d.length with hj|hj
  ·rw[Zbc hj]at hx
   rw[List.take_append_of_le_length (by omega)]
   exact h.rule j x hx
  ·have hjl:=(Za5.1 hx).1
   simp only[Za7,Zbb]at hjl
   have ej:j=d.length:=by omega
   subst ej
   simp at hx;subst hx
   rw[List.take_left']
   ·exact⟨k,hk.1,hk.2,hr⟩
   ·rfl
theorem DrawD.one{r:Rul}(hr:Ut [] 1 r):DrawD [r]:=by
 refine⟨by simp,by simp,⟨r,rfl,hr.hkind⟩,fun j x hx=>?_⟩
 cases j with
 |zero=>simp at hx;subst hx;exact⟨1,by decide,by decide,hr⟩
 |succ j=>simp at hx
set_option maxRecDepth 100000 in
instance tb_des:TB Tryz.prog 26 [(0,1)] [.slice none 0 0]:=⟨_,_,_,rfl,rfl,rfl,rfl,by kernel_rfl,by decide⟩
def desRR(d:Des):RR:=.agg [.row 78 8 (d.map Xz).flatten]
def QDes(p:Des→Prop)(rr:RR):Prop:=∃d,rr=desRR d∧p d
theorem qdes_ok{p:Des→Prop}:∀rr,QDes p rr→∃r,Seals rr r∧∃d,r=X1 d∧p d:=by
 rintro _ ⟨d,rfl,hd⟩
 refine⟨X1 d,?_,d,rfl,hd⟩
 unfold desRR X1 Wa
 simp only[Seals,Wc]
 exact⟨_,rfl,_,_,rfl,⟨_,rfl,rfl,fun x hx=>by obtain⟨r,_,rfl⟩:=List.mem_map.1 hx;rfl⟩,rfl⟩
theorem ruls_len(d:Des):(d.map Xz).flatten.length=d.length*8:=by rw[V7 (sz:=8) fun x hx=>by obtain⟨r,_,rfl⟩:=List.mem_map.1 hx;rfl,lmT]
set_option maxHeartbeats 8000000 in
theorem Dr(b:List UInt8)(hb:b.length≤1048576):Drw Tryz.prog 60 23 b [] (QDes DrawD):=by
 refine Ys Tryz.func23 rfl _ Tryz.ntmps23 (by simp) fun C g u i h hn hm hu hi=>?_
 have rl:∀d:Des,∀x∈d.map Xz,x.length=8:=fun d x hx=>by obtain⟨r,_,rfl⟩:=List.mem_map.1 hx;rfl
 repeat' (first
|refine Z4 (e:=78) (sz:=8) 2 0 (by decide) rfl rfl ?_
|refine Xo (id:=2) 30 [0,1,2,3] [4,5,6,7,8] Yc rfl rfl (by kernel_rfl) (by kernel_rfl) (by kernel_rfl) ?_
|(refine K8 (t:=10) (Sz b hb [] (by simp) 1 (by omega) (.inl rfl)) qrul_ok rfl hu hi (fun _=>.cons (LendsP.agg (.cons (LendsP.own (i:=3) (o:=⟨78,8,_⟩) (els:=List.map Xz []) (by decide) rfl rfl (rl [])) .nil)) (.cons .ro .nil)) rfl (by first|rfl|repeat' (first|rfl|exact Z0 _|refine Zt ?_ ?_)) (tl hn rfl) ?_;rintro i h _ hi ⟨r,rfl,hr⟩)
|(refine Yt (Yr b hb _ (by omega)) rfl hu hi rfl (Z6 [.int _]) rfl (by first|rfl|repeat' (first|rfl|exact Z0 _|refine Zt ?_ ?_)) (tl hn rfl) ?_;intro i h x hi hx;obtain⟨hxa,hxb⟩:=hx.2 (by omega))
|refine RunsH.pur (fun _ _=>Yw Zk rfl) rfl (tl hn rfl) rfl ?_
|refine RunsH.pur (fun _ _=>Z2 rfl) rfl (tl hn rfl) rfl ?_
|refine RunsH.pur (fun _ _=>Zw rfl rfl rfl rfl rfl rfl) rfl (tl hn rfl) rfl ?_
|refine RunsH.pur (fun _ _=>Zq rfl rfl (by omega)) rfl (tl hn rfl) rfl ?_
|refine RunsH.pur (fun _ _=>Z7 rfl rfl (by omega)) rfl (tl hn rfl) rfl ?_
|refine RunsH.pur (fun _ _=>Zw rfl rfl rfl rfl rfl rfl) rfl (tl hn rfl) rfl ?_
|refine RunsH.nil ?_
|refine RunsP.pur (Yw Zk rfl) rfl rfl (tl hn rfl) (by first|rfl|repeat' (first|rfl|exact Z0 _|refine Zt ?_ ?_)) ?_
|refine RunsP.pur (Z2 rfl) rfl rfl (tl hn rfl) (by first|rfl|repeat' (first|rfl|exact Z0 _|refine Zt ?_ ?_)) ?_
|refine RunsP.pur (Zw rfl rfl rfl rfl rfl rfl) rfl rfl (tl hn rfl) (by first|rfl|repeat' (first|rfl|exact Z0 _|refine Zt ?_ ?_)) ?_
|refine RunsP.pur (Zq rfl rfl (by omega)) rfl rfl (tl hn rfl) (by first|rfl|repeat' (first|rfl|exact Z0 _|refine Zt ?_ ?_)) ?_
|refine RunsP.pur (Z7 rfl rfl (by omega)) rfl rfl (tl hn rfl) (by first|rfl|repeat' (first|rfl|exact Z0 _|refine Zt ?_ ?_)) ?_
|refine RunsP.pur (Zw rfl rfl rfl rfl rfl rfl) rfl rfl (tl hn rfl) (by first|rfl|repeat' (first|rfl|exact Z0 _|refine Zt ?_ ?_)) ?_
|refine Zbg Zk hn rfl ?_
|refine Zbh ?_
|refine Za 30 rfl ?_
|refine X2 6 rfl (nbT rfl) (by kernel_rfl) (by kernel_rfl) ?_
|(refine RunsL.junk 2 0 rfl ?_;refine Yl (t:=12) (n:=0) (rs:=[]) rfl rfl rfl rfl rfl rfl rfl (FreeI.at_ ⟨by simp[Yp,AV.onlys,AV.only],by simp[AV.onlys,AV.only],⟨trivial,trivial⟩,by simp[AV.onlys],trivial⟩) (by simp) (by simp) (tl hn rfl) ?_)
|(refine Zc hn rfl rfl rfl ?_;first
|refine⟨_,Z2 rfl,?_⟩
|refine⟨_,Zw rfl rfl rfl rfl rfl rfl,?_⟩)
|(refine Zbf 30 rfl ?_;first|(refine Zd rfl ?_ ?_;·first|omega|rfl|assumption)|(refine Ze rfl ?_ ?_;·first|omega|rfl|assumption)|refine Zbe (Zj hm rfl rfl ?_)|exact Zbe (Zf hm rfl rfl rfl (nbT rfl) rfl rfl))
|refine Z5 rfl rfl rfl rfl (nbT rfl) ?_
|refine Zx (tl hn rfl) ?_
|refine Zr rfl rfl rfl rfl (nbT rfl) ?_
|(refine Zc hn rfl rfl rfl ?_;first
|refine⟨_,Zq rfl rfl (by omega),?_⟩
|refine⟨_,Z7 rfl rfl (by omega),?_⟩
|refine⟨_,Zw rfl rfl rfl rfl rfl rfl,?_⟩))
 obtain⟨c,hc⟩:∃c:Nat,x=c:=⟨x.toNat,by omega⟩
 subst hc
 have hD0:=DrawD.one hr
 refine W5 30 rfl (fun m E z=>∃(d:Des) (i h:Int),d.length+m≤6∧DrawD d∧X8 b i∧E=[(0,.pin 0 0 g),(2,.obj 1 0),(3,.obj 2 0),(4,.int m)] ∧
  z=[Yp 60 u i h,⟨26,0,[.nil]⟩,⟨26,0,[.own 3]⟩,⟨78,8,(d.map Xz).flatten.map .ro⟩]) c [(0,.pin 0 0 g),(2,.obj 1 0),(3,.obj 2 0),(4,.int c)] ⟨rfl,rfl,rfl,rfl,trivial⟩ ⟨[r],i,h,by simp;omega,hD0,hi,rfl,rfl⟩ fun m E z ⟨d,i,h,hlc,hD,hi,hE,hz⟩ ih=>?_
 subst hE;subst hz
 have hfl:=ruls_len d
 by_cases hm0:0<m
 ·repeat' (first
|refine Xo (id:=6) 30 [0,1,2,3,4] [5,6,7,8,9,10,11] Yc rfl rfl (by kernel_rfl) (by kernel_rfl) (by kernel_rfl) ?_
|(refine Qv (t:=25) (Yr b hb 10 (by omega)) rfl hu hi (fun _=>Z6 [.int 10]) rfl (by first|rfl|repeat' (first|rfl|exact Z0 _|refine Zt ?_ ?_)) (tl hn rfl) ?_;intro i h q hi hq;obtain⟨hqa,hqb⟩:=hq.2 (by omega))
|(refine K8 (t:=27) (Sz b hb d (by omega) (1+q) (by omega) (.inr hD.first)) qrul_ok rfl hu hi (fun _=>.cons (LendsP.agg (.cons (LendsP.own (i:=3) (o:=⟨78,8,_⟩) (els:=List.map Xz d) (by decide) rfl rfl (rl d)) .nil)) (.cons .ro .nil)) rfl (by first|rfl|repeat' (first|rfl|exact Z0 _|refine Zt ?_ ?_)) (tl hn rfl) ?_;rintro i h _ hi ⟨r,rfl,hr⟩)
|refine RunsH.pur (fun _ _=>Yw Zk rfl) rfl (tl hn rfl) rfl ?_
|refine RunsH.pur (fun _ _=>Zq rfl rfl (by omega)) rfl (tl hn rfl) rfl ?_
|refine RunsH.pur (fun _ _=>Zw rfl rfl rfl rfl rfl rfl) rfl (tl hn rfl) rfl ?_
|refine RunsH.pur (fun _ _=>Zq rfl rfl (by omega)) rfl (tl hn rfl) rfl ?_
|refine RunsH.pur (fun _ _=>Z7 rfl rfl (by omega)) rfl (tl hn rfl) rfl ?_
|refine RunsH.pur (fun _ _=>Zw rfl rfl rfl rfl rfl rfl) rfl (tl hn rfl) rfl ?_
|refine RunsH.nil ?_
|refine RunsP.pur (Yw Zk rfl) rfl rfl (tl hn rfl) (by first|rfl|repeat' (first|rfl|exact Z0 _|refine Zt ?_ ?_)) ?_
|refine RunsP.pur (Zq rfl rfl (by omega)) rfl rfl (tl hn rfl) (by first|rfl|repeat' (first|rfl|exact Z0 _|refine Zt ?_ ?_)) ?_
|refine RunsP.pur (Zw rfl rfl rfl rfl rfl rfl) rfl rfl (tl hn rfl) (by first|rfl|repeat' (first|rfl|exact Z0 _|refine Zt ?_ ?_)) ?_
|refine RunsP.pur (Zq rfl rfl (by omega)) rfl rfl (tl hn rfl) (by first|rfl|repeat' (first|rfl|exact Z0 _|refine Zt ?_ ?_)) ?_
|refine RunsP.pur (Z7 rfl rfl (by omega)) rfl rfl (tl hn rfl) (by first|rfl|repeat' (first|rfl|exact Z0 _|refine Zt ?_ ?_)) ?_
|refine RunsP.pur (Zw rfl rfl rfl rfl rfl rfl) rfl rfl (tl hn rfl) (by first|rfl|repeat' (first|rfl|exact Z0 _|refine Zt ?_ ?_)) ?_
|refine Zbg Zk hn rfl ?_
|refine Zbh ?_
|refine Za 30 rfl ?_
|refine X2 9 rfl (nbT rfl) (by kernel_rfl) (by kernel_rfl) ?_
|(refine RunsL.junk 2 0 rfl ?_;refine Yl (t:=29) (n:=d.length) rfl rfl rfl rfl rfl rfl (by rw[hfl]) (FreeI.at_ ⟨by simp[Yp,AV.onlys,AV.only],by simp[AV.onlys,AV.only],by simp[AV.onlys,AV.only],Yg _ _,trivial⟩) (by simp;omega) (by simp;omega) (tl hn rfl) ?_)
|(refine Zc hn rfl rfl rfl ?_;first
|refine⟨_,Zq rfl rfl (by omega),?_⟩
|refine⟨_,Zw rfl rfl rfl rfl rfl rfl,?_⟩)
|(refine Zbf 30 rfl ?_;first|(refine Zd rfl ?_ ?_;·first|omega|rfl|assumption)|(refine Ze rfl ?_ ?_;·first|omega|rfl|assumption)|refine Zbe (Zj hm rfl rfl ?_)|exact Zbe (Zf hm rfl rfl rfl (nbT rfl) rfl rfl))
|refine Z5 rfl rfl rfl rfl (nbT rfl) ?_
|refine Zx (tl hn rfl) ?_
|refine Zr rfl rfl rfl rfl (nbT rfl) ?_
|(refine Zc hn rfl rfl rfl ?_;first
|refine⟨_,Zq rfl rfl (by omega),?_⟩
|refine⟨_,Z7 rfl rfl (by omega),?_⟩
|refine⟨_,Zw rfl rfl rfl rfl rfl rfl,?_⟩))
  refine ih (m-1) _ _ _ (by omega) ⟨d++[r],i,h,by simp;omega,hD.app (by omega) (by omega) hr,hi,rfl,?_⟩ ⟨rfl,rfl,rfl,?_,trivial⟩
  ·simp;rfl
  ·show AV.int _=AV.int _
   congr 1;omega
 ·repeat' (first
|refine Zbg Zk hn rfl ?_
|refine Zbh ?_
|refine Za 30 rfl ?_
|(refine Zbf 30 rfl ?_;first|(refine Zd rfl ?_ ?_;·first|omega|rfl|assumption)|(refine Ze rfl ?_ ?_;·first|omega|rfl|assumption)|refine Zbe (Zj hm rfl rfl ?_)|exact Zbe (Zf hm rfl rfl rfl (nbT rfl) rfl rfl))
|refine Z5 rfl rfl rfl rfl (nbT rfl) ?_
|refine Zx (tl hn rfl) ?_
|refine Zr rfl rfl rfl rfl (nbT rfl) ?_
|(refine Zc hn rfl rfl rfl ?_;first
|refine⟨_,Zq rfl rfl (by omega),?_⟩
|refine⟨_,Z7 rfl rfl (by omega),?_⟩
|refine⟨_,Zw rfl rfl rfl rfl rfl rfl,?_⟩))
  exact Zbf 30 rfl (Zbe (A8 hm rfl rfl rfl hi (.agg [.own 3]) (by
   simp only[H3]
   exact⟨1,0,_,rfl,rfl,.inr ⟨1,by infer_instance,Nat.le_refl _,rfl⟩⟩) (desRR d) [3] (by
   simp only[desRR,Kx,Vy]
   exact⟨_,rfl,_,_,[3],[],rfl,rfl,⟨3,rfl,rfl,rfl⟩,rfl,rfl⟩) (by decide) (by decide) ⟨d,rfl,hD⟩))
theorem M6{n:Nat}(h:n<10):Wy (n:Int)=⟨#[UInt8.ofNat (48+n)]⟩:=by
 unfold Wy Lib.itoa
 rw[if_neg (by omega),Int.toNat_natCast,Lib.decDigits_one h]
theorem ba_inv{s:ByteArray}{k:Nat}{c:UInt8}(h:s[k]?=some c):s.data.toList[k]?=some c:=by
 rw[Array.getElem?_toList]
 have hk:k<s.size:=by
  rcases Nat.lt_or_ge k s.size with h'|h'
  ·exact h'
  ·rw[getElem?_neg s k (by omega)]at h;cases h
 rw[getElem?_pos s k hk]at h
 injection h with h
 rw[Array.getElem?_eq_getElem (show k<s.data.size from hk)]
 exact congrArg some h
theorem Fm(a:ByteArray)(x:UInt8):(a++(⟨#[x]⟩:ByteArray)).data.toList=a.data.toList++[x]:=by simp
theorem Dg(a:ByteArray)(x:UInt8):(a++(⟨#[x]⟩:ByteArray)).size=a.size+1:=by rw[ByteArray.size_append];rfl
theorem ba_len(s:ByteArray):s.data.toList.length=s.size:=by rw[Array.length_toList];rfl
def Low(a:ByteArray):Prop:=1≤a.size∧a.size≤4∧∀x∈a.data.toList,97≤x.toNat∧x.toNat≤122
theorem baseA_low:∀a∈W0,Low a:=by
 intro x hx
 simp only[W0,List.mem_cons,List.not_mem_nil,or_false]at hx
 rcases hx with rfl|rfl|rfl|rfl|rfl<;>exact⟨by decide,by decide,by decide⟩
theorem O4:∀a∈Hr,Low a:=by
 intro x hx
 simp only[Hr,List.mem_cons,List.not_mem_nil,or_false]at hx
 rcases hx with rfl|rfl|rfl<;>exact⟨by decide,by decide,by decide⟩
theorem nm_cat{a:ByteArray}(h:Low a){n:Nat}(hn:n<10):R6 (a++Wy (n:Int)):=by
 rw[M6 hn]
 refine⟨by rw[Dg];omega,by rw[Dg];have:=h.2.1;omega,fun i c hc=>?_⟩
 have h1:=ba_inv hc
 rw[Fm]at h1
 have hal:=ba_len a
 rcases Nat.lt_or_ge i a.size with hi|hi
 ·rw[Zbc (by omega)]at h1
  have:=h.2.2 c (Zba h1)
  exact .inl this
 ·have hil:=(Za5.1 h1).1
  simp only[Za7,Zbb]at hil
  have ei:i=a.data.toList.length:=by omega
  subst ei
  rw[Zbd (Nat.le_refl _),Nat.sub_self]at h1
  have h1':UInt8.ofNat (48+n)=c:=by simpa only[List.getElem?_cons_zero,Option.some.injEq] using h1
  subst h1'
  have:=h.1
  refine .inr ⟨?_,?_,by omega⟩<;>(rw[UInt8.toNat_ofNat'];omega)
theorem cat_inj{a a':ByteArray}{n n':Nat}(hn:n<10)(hn':n'<10)(h:a++Wy (n:Int)=a'++Wy (n':Int)):n=n':=by
 rw[M6 hn,M6 hn']at h
 have h1:=congrArg (fun s:ByteArray=>s.data.toList.getLast?) h
 simp only[Fm,List.getLast?_append,List.getLast?_singleton,Option.some_or,Option.some.injEq]at h1
 have h2:=congrArg UInt8.toNat h1
 rw[UInt8.toNat_ofNat',UInt8.toNat_ofNat']at h2
 omega
theorem ncat_le{a:ByteArray}(h:Low a){n:Nat}(hn:n<10):(a++Wy (n:Int)).size≤5:=by
 rw[M6 hn,Dg];have:=h.2.1;omega
theorem IsInt.up{d:Des}{j:Nat}{x:Int}(h:IsInt (d.take j) x):IsInt d x∧x<j:=by
 obtain⟨h1,h2,r,h3,h4⟩:=h
 rw[List.length_take]at h2
 have hj:x.toNat<j:=by omega
 rw[List.getElem?_take_of_lt hj]at h3
 exact⟨⟨h1,by omega,r,h3,h4⟩,by omega⟩
structure IsInt' (d:Des) (x:Int):Prop where
 int:IsInt d x
 lim:255≤lim d x
theorem DrawD.int{d:Des}(h:DrawD d){x:Int}(hx:IsInt d x):255≤lim d x:=by
 obtain⟨h1,h2,r,h3,h4⟩:=hx
 obtain⟨k,k1,k2,hr⟩:=h.rule _ r h3
 have ek:k=1:=by rw[←hr.hkind];exact h4
 have hs:=hr.hsize.1 ek
 rw[G4 h3 ⟨h1,h4,hs.1,by omega⟩]
 have:=@N7 r.size
 omega
section
variable{d:Des}(h:DrawD d){j:Nat}{r:Rul}(hj:d[j]?=some r)
include h hj
theorem DrawD.kinds:∃k,1≤k∧k≤10∧Ut (d.take j) k r∧r.kind=k∧(d.take j).length=j∧j<d.length:=by
 obtain⟨k,k1,k2,hr⟩:=h.rule j r hj
 have hjl:=(Za5.1 hj).1
 exact⟨k,k1,k2,hr,hr.hkind,by rw[List.length_take];omega,hjl⟩
theorem DrawD.kid:∀z∈r.kids,0≤z∧z<j:=by
 obtain⟨k,k1,k2,hr,hk,hl,hjl⟩:=h.kinds hj
 have hInt:∀x,IsInt (d.take j) x→0≤x∧x<j:=fun x hx=>⟨hx.1,hx.up.2⟩
 have hpos:2≤k→0<j:=fun h2=>by
  rcases Nat.eq_zero_or_pos j with e|e
  ·subst e
   obtain⟨r0,e0,k0⟩:=h.first
   rw[e0]at hj;injection hj with hj;subst hj
   omega
  ·exact e
 have hIn:2≤k→∀x,InD (d.take j) x→0≤x∧x<j:=fun h2 x hx=>by
  have:=hx.2 (by rw[hl];exact hpos h2)
  rw[hl]at this;exact this
 intro z hz
 obtain⟨g4,g5,g6,g7,g8,g1⟩:=hr.hkids
 have hc:k=1∨k=2∨k=3∨k=4∨k=5∨k=6∨k=7∨k=8∨k=9∨k=10:=by omega
 rcases hc with e|e|e|e|e|e|e|e|e|e
 ·rw[g1 (.inl e)]at hz;simp at hz
 ·rw[g1 (.inr (.inl e))]at hz;simp at hz
 ·rw[g1 (.inr (.inr (.inl e)))]at hz;simp at hz
 ·obtain⟨x,h1,e1⟩:=g4 e
  rw[e1]at hz;simp at hz;subst hz;exact hInt _ h1
 ·obtain⟨x,y,h1,h2,e1⟩:=g5 e
  rw[e1]at hz;simp at hz
  rcases hz with rfl|rfl
  ·exact hInt _ h1
  ·exact hIn (by omega) _ h2
 ·exact hIn (by omega) _ ((g6 e).2 z hz)
 ·obtain⟨x,l,h1,_,h2,e1⟩:=g7 e
  rw[e1]at hz
  rcases List.mem_cons.1 hz with rfl|hz
  ·exact hInt _ h1
  ·exact hIn (by omega) _ (h2 z hz)
 ·obtain⟨y,h2,e1⟩:=g8 (.inl e)
  rw[e1]at hz;simp at hz;subst hz;exact hIn (by omega) _ h2
 ·obtain⟨y,h2,e1⟩:=g8 (.inr e)
  rw[e1]at hz;simp at hz;subst hz;exact hIn (by omega) _ h2
 ·rw[g1 (.inr (.inr (.inr e)))]at hz;simp at hz
theorem DrawD.name:∃a,Low a∧r.name=a++Wy (j:Int):=by
 obtain⟨k,k1,k2,hr,hk,hl,hjl⟩:=h.kinds hj
 obtain⟨a,ha,e⟩:=hr.hname
 rw[hl]at e
 exact⟨a,baseA_low a ha,e⟩
theorem DrawD.kindOk:Xi d r:=by
 obtain⟨k,k1,k2,hr,hk,hl,hjl⟩:=h.kinds hj
 have hlit:r.little=false∨r.kind=1:=by
  cases e:r.little
  ·exact .inl rfl
  ·exact .inr (hk.trans (hr.hlittle e).1)
 have hbytes:k≠2→k≠10→r.bytes.length=0:=fun a b=>by rw[hr.hbytes.2.2 a b];rfl
 have hnames:k≠6→r.names.length=0:=fun a=>by rw[hr.hnames.2 a];rfl
 have htags:k≠7→r.tags.length=0:=fun a=>by rw[hr.htags.2 a];rfl
 have hsize:k≠1→k≠3→r.size=0:=hr.hsize.2.2
 obtain⟨g4,g5,g6,g7,g8,g1⟩:=hr.hkids
 have hc:k=1∨k=2∨k=3∨k=4∨k=5∨k=6∨k=7∨k=8∨k=9∨k=10:=by omega
 rcases hc with e|e|e|e|e|e|e|e|e|e
 ·refine .inl ⟨by omega,⟨⟨.inl rfl,.inr (hbytes (by omega) (by omega)),.inr (hnames (by omega)),.inr (htags (by omega)),.inr ?_⟩,hlit⟩,?_,?_⟩
  ·rw[g1 (.inl e)];rfl
  ·have:=hr.hsize.1 e;unfold InR;omega
  ·cases e':r.little
   ·exact .inl rfl
   ·exact .inr (hr.hlittle e').2
 ·refine .inr (.inl ⟨by omega,⟨⟨.inr (hsize (by omega) (by omega)),.inl rfl,.inr (hnames (by omega)),.inr (htags (by omega)),.inr ?_⟩,hlit⟩,?_⟩)
  ·rw[g1 (.inr (.inl e))];rfl
  ·have:=hr.hbytes.1 e;unfold InR;omega
 ·refine .inr (.inr (.inl ⟨by omega,⟨⟨.inl rfl,.inr (hbytes (by omega) (by omega)),.inr (hnames (by omega)),.inr (htags (by omega)),.inr ?_⟩,hlit⟩,?_⟩))
  ·rw[g1 (.inr (.inr (.inl e)))];rfl
  ·have:=hr.hsize.2.1 e;unfold InR;omega
 ·obtain⟨x,h1,e1⟩:=g4 e
  have:=h.int h1.up.1
  refine .inr (.inr (.inr (.inl ⟨by omega,⟨⟨.inr (hsize (by omega) (by omega)),.inr (hbytes (by omega) (by omega)),.inr (hnames (by omega)),.inr (htags (by omega)),.inr ?_⟩,hlit⟩,?_⟩)))
  ·rw[e1];rfl
  ·rw[e1];show 0<lim d x;omega
 ·obtain⟨x,y,h1,h2,e1⟩:=g5 e
  have:=h.int h1.up.1
  refine .inr (.inr (.inr (.inr (.inl ⟨by omega,⟨⟨.inr (hsize (by omega) (by omega)),.inr (hbytes (by omega) (by omega)),.inr (hnames (by omega)),.inr (htags (by omega)),.inr ?_⟩,hlit⟩,?_⟩))))
  ·rw[e1];rfl
  ·rw[e1];show 0<lim d x;omega
 ·obtain⟨n1,n2,n3⟩:=hr.hnames.1 e
  refine .inr (.inr (.inr (.inr (.inr (.inl ⟨by omega,⟨⟨.inr (hsize (by omega) (by omega)),.inr (hbytes (by omega) (by omega)),.inl rfl,.inr (htags (by omega)),.inr ?_⟩,hlit⟩,n1,by omega,fun i x hx=>?_⟩)))))
  ·rw[(g6 e).1]
  ·have hil:=(Za5.1 hx).1
   obtain⟨a,ha,rfl⟩:=n3 i x hx
   have e1:((r.names.length:Int)-i)=((r.names.length-i:Nat):Int):=by omega
   rw[e1]
   refine⟨nm_cat (O4 a ha) (by omega),fun hm=>?_⟩
   obtain⟨m,hm',hm⟩:=List.mem_take_iff_getElem.1 hm
   obtain⟨a',ha',e2⟩:=n3 m _ (Za6 (by omega))
   rw[hm,show((r.names.length:Int)-m)=((r.names.length-m:Nat):Int) by omega]at e2
   have:=cat_inj (by omega) (by omega) e2
   omega
 ·obtain⟨t1,t2,t3⟩:=hr.htags.1 e
  obtain⟨x,l,h1,h2,h3,e1⟩:=g7 e
  have hlim:=h.int h1.up.1
  refine .inr (.inr (.inr (.inr (.inr (.inr (.inl ⟨by omega,⟨⟨.inr (hsize (by omega) (by omega)),.inr (hbytes (by omega) (by omega)),.inr (hnames (by omega)),.inl rfl,.inl (by decide)⟩,hlit⟩,?_,t1,by omega,fun i z hz=>?_⟩))))))
  ·rw[e1,Za8,h2]
  ·have hil:=(Za5.1 hz).1
   have:=t3 i z hz
   refine⟨by omega,?_,fun y hi hy=>?_⟩
   ·rw[e1];show z≤lim d x;omega
   ·have:=t3 (i-1) y hy
    omega
 ·obtain⟨y,h2,e1⟩:=g8 (.inl e)
  refine .inr (.inr (.inr (.inr (.inr (.inr (.inr (.inl ⟨.inl (by omega),⟨⟨.inr (hsize (by omega) (by omega)),.inr (hbytes (by omega) (by omega)),.inr (hnames (by omega)),.inr (htags (by omega)),.inr ?_⟩,hlit⟩⟩)))))))
  rw[e1];rfl
 ·obtain⟨y,h2,e1⟩:=g8 (.inr e)
  refine .inr (.inr (.inr (.inr (.inr (.inr (.inr (.inl ⟨.inr (by omega),⟨⟨.inr (hsize (by omega) (by omega)),.inr (hbytes (by omega) (by omega)),.inr (hnames (by omega)),.inr (htags (by omega)),.inr ?_⟩,hlit⟩⟩)))))))
  rw[e1];rfl
 ·obtain⟨x,hx,eb⟩:=hr.hbytes.2.1 e
  refine .inr (.inr (.inr (.inr (.inr (.inr (.inr (.inr ⟨by omega,⟨⟨.inr (hsize (by omega) (by omega)),.inl rfl,.inr (hnames (by omega)),.inr (htags (by omega)),.inr ?_⟩,hlit⟩,?_,?_⟩)))))))
  ·rw[g1 (.inr (.inr (.inr e)))];rfl
  ·rw[eb];rfl
  ·rw[eb]
   simp only[List.mem_cons,List.not_mem_nil,or_false]at hx
   rcases hx with rfl|rfl|rfl|rfl<;>decide
end
theorem DrawD.good{d:Des}(h:DrawD d):U5 d:=by
 refine⟨h.pos,by have:=h.most;omega,fun j hj=>?_⟩
 obtain⟨r,hr⟩:∃r,d[j]?=some r:=⟨_,Za6 hj⟩
 have hm:=h.most
 refine(N0 (by omega) (by simpa using hr)).2 ?_
 rw[Int.toNat_natCast]
 obtain⟨a,ha,en⟩:=h.name hr
 refine⟨fun k x hk hx e=>?_,fun k z hz=>h.kid hr z (Zba hz),by rw[en];exact nm_cat ha (by omega),h.kindOk hr⟩
 obtain⟨a',ha',en'⟩:=h.name hx
 rw[en,en']at e
 have:=cat_inj (by omega) (by omega) e
 omega
theorem La{α:Type}(f:α→Nat)(c:Nat):∀l:List α,(∀x∈l,f x≤c)→(l.map f).sum≤l.length*c
 | [],_=>by simp
 |x::l,h=>by
  have h1:=h x (by simp)
  have h2:=La f c l fun y hy=>h y (by simp[hy])
  rw[List.map_cons,List.sum_cons,Za8,Nat.succ_mul];omega
section
variable{d:Des}(h:DrawD d){j:Nat}{r:Rul}(hj:d[j]?=some r)
include h hj
theorem DrawD.lens:r.name.size≤5∧r.bytes.length≤3∧r.names.length≤3∧(∀s∈r.names,s.size≤5)∧r.tags.length≤3∧r.kids.length≤4∧(∀z∈r.tags,0≤z∧z≤12)∧0≤r.size∧r.size≤4:=by
 obtain⟨k,k1,k2,hr,hk,hl,hjl⟩:=h.kinds hj
 have hm:=h.most
 obtain⟨a,ha,en⟩:=h.name hj
 have hnm:r.names.length≤3∧∀s∈r.names,s.size≤5:=by
  by_cases e:k=6
  ·obtain⟨n1,n2,n3⟩:=hr.hnames.1 e
   refine⟨n2,fun s hs=>?_⟩
   obtain⟨i,hi⟩:=List.mem_iff_getElem?.1 hs
   have hil:=(Za5.1 hi).1
   obtain⟨b,hb,rfl⟩:=n3 i s hi
   rw[show((r.names.length:Int)-i)=((r.names.length-i:Nat):Int) by omega]
   exact ncat_le (O4 b hb) (by omega)
  ·rw[hr.hnames.2 e];simp
 have htg:r.tags.length≤3∧∀z∈r.tags,0≤z∧z≤12:=by
  by_cases e:k=7
  ·obtain⟨n1,n2,n3⟩:=hr.htags.1 e
   refine⟨n2,fun s hs=>?_⟩
   obtain⟨i,hi⟩:=List.mem_iff_getElem?.1 hs
   have hil:=(Za5.1 hi).1
   have:=n3 i s hi
   omega
  ·rw[hr.htags.2 e];simp
 have hbs:r.bytes.length≤3:=by
  by_cases e:k=2
  ·exact(hr.hbytes.1 e).2
  ·by_cases e':k=10
   ·obtain⟨x,_,eb⟩:=hr.hbytes.2.1 e'
    rw[eb];simp
   ·rw[hr.hbytes.2.2 e e'];simp
 have hkd:r.kids.length≤4:=by
  obtain⟨g4,g5,g6,g7,g8,g1⟩:=hr.hkids
  have hc:k=1∨k=2∨k=3∨k=4∨k=5∨k=6∨k=7∨k=8∨k=9∨k=10:=by omega
  rcases hc with e|e|e|e|e|e|e|e|e|e
  ·rw[g1 (.inl e)];simp
  ·rw[g1 (.inr (.inl e))];simp
  ·rw[g1 (.inr (.inr (.inl e)))];simp
  ·obtain⟨x,_,e1⟩:=g4 e;rw[e1];simp
  ·obtain⟨x,y,_,_,e1⟩:=g5 e;rw[e1];simp
  ·rw[(g6 e).1];omega
  ·obtain⟨x,l,_,h2,_,e1⟩:=g7 e;rw[e1,Za8,h2];omega
  ·obtain⟨y,_,e1⟩:=g8 (.inl e);rw[e1];simp
  ·obtain⟨y,_,e1⟩:=g8 (.inr e);rw[e1];simp
  ·rw[g1 (.inr (.inr (.inr e)))];simp
 have hsz:0≤r.size∧r.size≤4:=by
  by_cases e:k=1
  ·have:=hr.hsize.1 e;omega
  ·by_cases e':k=3
   ·have:=hr.hsize.2.1 e';omega
   ·have:=hr.hsize.2.2 e e';omega
 exact⟨by rw[en];exact ncat_le ha (by omega),hbs,hnm.1,hnm.2,htg.1,hkd,htg.2,hsz.1,hsz.2⟩
theorem DrawD.ruleOk:r.Ok:=by
 obtain⟨l1,l2,l3,l4,l5,l6,l7,l8,l9⟩:=h.lens hj
 obtain⟨k,k1,k2,hr,hk,hl,hjl⟩:=h.kinds hj
 have hm:=h.most
 have hkd:=h.kid hj
 have mx:maxLen=4611686018427387904∨10≤maxLen:=.inr (by decide)
 refine⟨by unfold I64;omega,by unfold I64;omega,fun z hz=>by have:=l7 z hz;unfold I64;omega,fun z hz=>by have:=hkd z hz;unfold I64;omega,?_⟩
 have hx:10≤maxLen:=by decide
 exact⟨by omega,by omega,by omega,fun s hs=>by have:=l4 s hs;omega,by omega,by omega,trivial⟩
theorem DrawD.ruleTotal:r.total≤40:=by
 obtain⟨l1,l2,l3,l4,l5,l6,l7,l8,l9⟩:=h.lens hj
 have:=La ByteArray.size 5 r.names l4
 unfold Rul.total
 omega
end
theorem DrawD.desOk{d:Des}(h:DrawD d):H0 d:=
 ⟨fun r hr=>by
  obtain⟨j,hj⟩:=List.mem_iff_getElem?.1 hr
  exact h.ruleOk hj,by have:=h.most;have hx:10≤maxLen:=(by decide);omega⟩
theorem DrawD.total{d:Des}(h:DrawD d):Wi d≤1000:=by
 have:=La Rul.total 40 d fun r hr=>by
  obtain⟨j,hj⟩:=List.mem_iff_getElem?.1 hr
  exact h.ruleTotal hj
 have:=h.most
 unfold Wi
 omega
inductive Tre where
 |mk (number:Int) (bytes:List UInt8) (items:List Tre)
namespace Tre
def number:Tre→Int | .mk n _ _=>n
def bytes:Tre→List UInt8 | .mk _ b _=>b
def items:Tre→List Tre | .mk _ _ l=>l
mutual
def cells:Tre→List RV
 | .mk n b l=>[.int n,Ya b,.seq 3 (Fk l)]
def Fk:List Tre→List (List RV)
 | []=>[]
 |v::vs=>cells v::Fk vs
def total:Tre→Nat
 | .mk _ b l=>b.length+l.length+totalL l
def totalL:List Tre→Nat
 | []=>0
 |v::vs=>total v+totalL vs
def count:Tre→Nat
 | .mk _ _ l=>1+D8 l
def D8:List Tre→Nat
 | []=>0
 |v::vs=>count v+D8 vs
def weight:Tre→Nat
 | .mk _ b l=>b.length+L4 l
def L4:List Tre→Nat
 | []=>0
 |v::vs=>weight v+L4 vs
def Ok:Tre→Prop
 | .mk n b l=>I64 n∧b.length≤maxLen∧l.length≤maxLen∧OkL l
def OkL:List Tre→Prop
 | []=>True
 |v::vs=>Ok v∧OkL vs
end
theorem O2:∀l,Fk l=l.map cells
 | []=>rfl
 |v::vs=>by rw[Fk,O2 vs];rfl
theorem Ib:∀l,totalL l=(l.map total).sum
 | []=>rfl
 |v::vs=>by rw[totalL,Ib vs];rfl
theorem Ox:∀l,D8 l=(l.map count).sum
 | []=>rfl
 |v::vs=>by rw[D8,Ox vs];rfl
theorem B4:∀l,L4 l=(l.map weight).sum
 | []=>rfl
 |v::vs=>by rw[L4,B4 vs];rfl
theorem OkL_iff:∀{l},OkL l↔∀x∈l,Ok x
 | []=>by simp[OkL]
 |v::vs=>by simp[OkL,OkL_iff (l:=vs)]
theorem cells_eq(v:Tre):v.cells=[.int v.number,Ya v.bytes,.seq 3 (v.items.map cells)]:=by
 cases v;rw[cells,O2];rfl
theorem total_eq(v:Tre):v.total=v.bytes.length+v.items.length+(v.items.map total).sum:=by
 cases v;rw[total,Ib];rfl
theorem count_eq(v:Tre):v.count=1+(v.items.map count).sum:=by
 cases v;rw[count,Ox];rfl
theorem weight_eq(v:Tre):v.weight=v.bytes.length+(v.items.map weight).sum:=by
 cases v;rw[weight,B4];rfl
theorem Ok.out{v:Tre}(h:v.Ok):I64 v.number∧v.bytes.length≤maxLen∧v.items.length≤maxLen∧∀x∈v.items,x.Ok:=by
 cases v;rw[Ok,OkL_iff]at h;exact h
theorem cells_len(v:Tre):v.cells.length=3:=by rw[cells_eq];rfl
mutual
theorem ind{P:Tre→Prop}(h:∀v,(∀x∈v.items,P x)→P v):∀v,P v
 | .mk n b l=>h _ (indL h l)
theorem indL{P:Tre→Prop}(h:∀v,(∀x∈v.items,P x)→P v):∀l:List Tre,∀x∈l,P x
 | [],x,hx=>by cases hx
 |v::vs,x,hx=>by
  rcases List.mem_cons.1 hx with e|e
  ·rw[e];exact ind h v
  ·exact indL h vs x e
end
mutual
theorem count_le:∀v:Tre,v.count≤1+v.total
 | .mk n b l=>by have:=Ow l;simp only[count,total];omega
theorem Ow:∀l:List Tre,D8 l≤l.length+totalL l
 | []=>by simp[D8]
 |v::vs=>by have:=count_le v;have:=Ow vs;simp only[D8,totalL,Za8];omega
end
mutual
theorem weight_le:∀v:Tre,v.weight≤v.total
 | .mk n b l=>by have:=B3 l;simp only[weight,total];omega
theorem B3:∀l:List Tre,L4 l≤totalL l
 | []=>by simp[L4]
 |v::vs=>by have:=weight_le v;have:=B3 vs;simp only[L4,totalL];omega
end
end Tre
def X3(l:List Tre):RV:=.seq 3 (l.map Tre.cells)
def Gj(v:Tre):RV:=.agg [.int v.number,Ya v.bytes,X3 v.items]
noncomputable instance:DecidableEq Tre:=fun a b=>Classical.propDecidable _
end Go.Proofs.YtnecoghfhcimeaaGreat
