/- Gathered texts. -/
import Derived.Test.YtnecoghfhcimeaaGreatGat0
import Derived.Test.YtnecoghfhcimeaaGreatGat1
import Derived.Test.YtnecoghfhcimeaaGreatGat2
import Derived.Test.YtnecoghfhcimeaaGreatGat3
import Derived.Test.YtnecoghfhcimeaaGreatGat4
import Derived.Test.YtnecoghfhcimeaaGreatGat5
/- Programs that are safe: what both sides test, and that it is the same. -/
namespace Go.Proofs.YtnecoghfhcimeaaGreat
set_option linter.unusedSimpArgs false
set_option linter.unusedVariables false
set_option linter.unusedSectionVars false
open Go.RowKit
def PlaceS(p:Prg)(k s e:Int)(x:Ins):Prop:=
 x.op≠17∧(x.op=9→∃j:Nat,p.entries[j]?=some x.a∧∀(i:Nat) y,i≤j→p.entries[i]?=some y→y<s)∧(x.op=6→Jh p (k+1)∧k+4<e)∧(x.op=7→Jh p k∧s≤k-1∧k+3<e)∧(x.op=8→Jh p (k-2)∧s≤k-3) ∧
 (x.op=13→k+1≤x.a∧x.a≤e-1)∧(x.op=11→k+1≤x.b∧x.b≤e-1)∧(x.op=14→opA p (k+1)=9∧opA p (k+2)=15∧k+2<e)∧(x.op=15→opA p (k-1)=9∧opA p (k-2)=14∧s≤k-2)
noncomputable instance (p:Prg) (k s e:Int) (x:Ins):Decidable (PlaceS p k s e x):=Classical.propDecidable _
structure FrameP (p:Prg):Prop where
 len:p.code.length≤700
 first:p.entries[0]?=some 2
 op0:opA p 0=9
 op1:opA p 1=17
 last:p.entries[p.entries.length-1]?=some (aA p 0)
 ins:∀i:Nat,i<p.code.length→Bg p i
 rise:∀(i:Nat) y z,p.entries[i]?=some y→p.entries[i+1]?=some z→y<z
def Mm(p:Prg):Prop:=FrameP p∧∀(b:Nat) e,p.entries[b]?=some e→opA p (endA p b-1)=10∧∀(k:Int) x,e≤k→k<endA p b→p.code[k.toNat]?=some x→Uy p b k x
def SafeS(p:Prg):Prop:=FrameP p∧(∀(i:Nat) z,p.entries[i+1]?=some z→z<p.code.length)∧∀(b:Nat) e,p.entries[b]?=some e→e<endA p b∧opA p (endA p b-1)=10∧∀(k:Int) x,e≤k→k<endA p b→p.code[k.toNat]?=some x→PlaceS p k e (endA p b) x
noncomputable instance (p:Prg):Decidable (Mm p):=Classical.propDecidable _
noncomputable instance (p:Prg):Decidable (SafeS p):=Classical.propDecidable _
section
variable{p:Prg}
theorem FrameP.mono(h:FrameP p):∀(j i:Nat) y z,i<j→p.entries[i]?=some y→p.entries[j]?=some z→y<z
 |0,i,y,z,hij,_,_=>by omega
 |j+1,i,y,z,hij,hy,hz=>by
  have hj:j<p.entries.length:=by have:=(Za5.1 hz).1;omega
  have hm:=Za6 hj
  have h1:=h.rise j _ z hm hz
  by_cases e:i=j
  ·subst e;rw[hy]at hm;injection hm with hm;omega
  ·have:=h.mono j i y _ (by omega) hy hm;omega
theorem FrameP.two(h:FrameP p){b:Nat}{e:Int}(he:p.entries[b]?=some e):2≤e:=by
 by_cases hb:b=0
 ·subst hb;rw[h.first]at he;injection he with he;omega
 ·have:=h.mono b 0 2 e (by omega) h.first he;omega
theorem FrameP.lt(h:FrameP p){b:Nat}{e:Int}(he:p.entries[b]?=some e):e<p.code.length:=by
 have hi:=Dc (p:=p) (i:=0) (by rw[h.op0];decide)
 obtain⟨x,hx⟩:=D0 hi
 have hs:=(U8 hx).1 (h.ins 0 (by have:=hi.2;omega))
 have ho:=Dd (Int.le_refl 0) hx
 have ha:=Rz (Int.le_refl 0) hx
 rw[h.op0]at ho
 have hl:=hs.2.2.1 (by omega)
 have hla:=h.last
 have hbl:=(Za5.1 he).1
 by_cases hb:b=p.entries.length-1
 ·subst hb;rw[hla]at he;injection he with he;omega
 ·have:=h.mono _ b e _ (by omega) he hla;omega
theorem Kt{b:Nat}{z:Int}(h:p.entries[b+1]?=some z):endA p b=z:=by
 unfold endA
 rw[show((b:Int)+1).toNat=b+1 by omega,h]
theorem Jz{b:Nat}(h:p.entries[b+1]?=none):endA p b=p.code.length:=by
 unfold endA
 rw[show((b:Int)+1).toNat=b+1 by omega,h]
theorem FrameP.lt_end(h:FrameP p){b:Nat}{e:Int}(he:p.entries[b]?=some e):e<endA p b:=by
 cases hz:p.entries[b+1]? with
 |some z=>rw[Kt hz];exact h.rise b e z he hz
 |none=>rw[Jz hz];exact h.lt he
theorem FrameP.end_le(h:FrameP p)(b:Nat):endA p b≤p.code.length:=by
 cases hz:p.entries[b+1]? with
 |some z=>rw[Kt hz];exact Int.le_of_lt (h.lt hz)
 |none=>rw[Jz hz];exact Int.le_refl _
end
noncomputable def stA(d:Des)(j:Nat):Nat:=(cdT d j).length+2
noncomputable def blk(d:Des)(j:Nat):List Ins:=cmpL d j (stA d j:Nat) (cdE d j)
theorem Vl(d:Des)(j:Nat):stA d (j+1)=stA d j+(blk d j).length:=by
 unfold stA blk
 rw[cdT,Za7]
 unfold stA
 omega
theorem O3(d:Des):∀n j:Nat,j<n→(cdE d n)[j]?=some (stA d j:Int)
 |0,j,h=>by omega
 |n+1,j,h=>by
  rw[cdE]
  by_cases e:j=n
  ·subst e
   rw[Zbd (by rw[Ur];exact Nat.le_refl _),Ur,Nat.sub_self];rfl
  ·rw[Zbc (by rw[Ur];omega)]
   exact O3 d n j (by omega)
theorem cdE_out(d:Des)(n j:Nat)(h:n≤j):(cdE d n)[j]?=none:=List.getElem?_eq_none (by rw[Ur];exact h)
theorem cdT_at(d:Des):∀n j i:Nat,j<n→i<(blk d j).length→(cdT d n)[(cdT d j).length+i]?=(blk d j)[i]?
 |0,j,i,h,_=>by omega
 |n+1,j,i,h,hi=>by
  rw[cdT]
  by_cases e:j=n
  ·subst e
   rw[Zbd (by omega),Nat.add_sub_cancel_left]
   rfl
  ·have hle:(cdT d j).length+(blk d j).length≤(cdT d n).length:=by
    have h1:∀m,j+1≤m→(cdT d (j+1)).length≤(cdT d m).length:=fun m hm=>by
     induction m with
     |zero=>omega
     |succ m ih=>
      have hmm:(cdT d m).length≤(cdT d (m+1)).length:=by rw[cdT,Za7];omega
      rcases Nat.lt_or_ge j m with h|h
      ·have:=ih (by omega);omega
      ·obtain rfl:m=j:=by omega
       exact Nat.le_refl _
    have h2:=h1 n (by omega)
    have h3:=Vl d j
    unfold stA at h3
    omega
   rw[Zbc (by omega)]
   exact cdT_at d n j i (by omega) hi
section
variable{d:Des}(hD:DrawD d)
include hD
theorem Wr{j:Nat}{x:Rul}(hx:d[j]?=some x):blk d j=Xh x (stA d j:Nat) (cdE d j):=by
 have hj:=(Za5.1 hx).1
 unfold blk
 exact Hm ⟨kn_at hD.good hj,by rw[Ur];omega⟩ (by simpa using hx)
theorem Nh:(cdF d).entries=cdE d d.length:=by rw[Rt hD.good]
theorem Mj{j:Nat}(hj:j<d.length):(cdF d).entries[j]?=some (stA d j:Int):=by rw[Nh hD];exact O3 d _ j hj
theorem K7:(cdF d).entries.length=d.length:=by rw[Nh hD,Ur]
theorem Uf:(cdF d).code=cdC (stA d (d.length-1):Int) (cdT d d.length):=by
 have:=hD.pos
 rw[Rt hD.good]
 show cdC _ _=_
 rw[O3 d d.length (d.length-1) (by omega)];rfl
theorem Qs:(cdF d).code.length=stA d d.length:=by rw[Uf hD,Ho];rfl
theorem cdF_at{j i:Nat}(hj:j<d.length)(hi:i<(blk d j).length):(cdF d).code[stA d j+i]?=(blk d j)[i]?:=by
 rw[Uf hD,←cdT_at d d.length j i hj hi]
 unfold stA cdC
 rw[show(cdT d j).length+2+i=((cdT d j).length+i)+1+1 by omega,List.getElem?_cons_succ,List.getElem?_cons_succ]
theorem end_at{j:Nat}(hj:j<d.length):endA (cdF d) j=(stA d j:Int)+((blk d j).length:Int):=by
 have h1:=Vl d j
 by_cases e:j+1<d.length
 ·rw[Kt (Mj hD e)];omega
 ·rw[Jz (by rw[Nh hD];exact cdE_out d _ _ (by omega)),Qs hD,show d.length=j+1 by omega];omega
end
structure Loc (s:Int) (en:List Int) (L:List Ins) (i:Nat) (x:Ins):Prop where
 ok:Tv x
 no17:x.op≠17
 goes:Goes x.op→i+1<L.length
 call:x.op=9→x.a∈en
 loop:x.op=7→∃m y z w,i=m+1∧L[m]?=some y∧y.op=6∧L[m+2]?=some z∧z.op=9∧L[m+3]?=some w∧w.op=8∧w.a=s+i∧x.a=s+i+3∧i+3<L.length
 push:x.op=6→∃y,L[i+1]?=some y∧y.op=7
 jump:x.op=8→∃m y,i=m+2∧L[m]?=some y∧y.op=7
 flag:x.op=13→s+i<x.a∧x.a<s+L.length
 tag:x.op=11→s+i<x.b∧x.b<s+L.length
 mark:x.op=14→∃y z,L[i+1]?=some y∧y.op=9∧L[i+2]?=some z∧z.op=15
 sum:x.op=15→∃m y,i=m+2∧L[m]?=some y∧y.op=14
theorem call_mem{en:List Int}{z:Int}(h:0≤z∧z<en.length):(Y4 en z).a∈en:=by
 unfold Y4
 obtain⟨e,he⟩:∃e,en[z.toNat]?=some e:=⟨_,Za6 (by omega)⟩
 rw[he]
 exact Zba he
theorem Q4{s:Int}{en:List Int}{L:List Ins}{i:Nat}{z:Int}(h:0≤z∧z<en.length)(hi:i+1<L.length):Loc s en L i (Y4 en z) where
 ok:=by simp[Tv,Y4,InR]
 no17:=by simp[Y4]
 goes:=fun _=>hi
 call:=fun _=>call_mem h
 loop:=fun e=>by simp[Y4]at e
 push:=fun e=>by simp[Y4]at e
 jump:=fun e=>by simp[Y4]at e
 flag:=fun e=>by simp[Y4]at e
 tag:=fun e=>by simp[Y4]at e
 mark:=fun e=>by simp[Y4]at e
 sum:=fun e=>by simp[Y4]at e
theorem Q3{s:Int}{en:List Int}{L:List Ins}{i:Nat}{x:Ins}(ok:Tv x)(hop:x.op=1∨x.op=2∨x.op=3∨x.op=4∨x.op=5∨x.op=10∨x.op=12∨x.op=16)(hi:Goes x.op→i+1<L.length):Loc s en L i x where
 ok:=ok
 no17:=by omega
 goes:=hi
 call:=fun e=>by omega
 loop:=fun e=>by omega
 push:=fun e=>by omega
 jump:=fun e=>by omega
 flag:=fun e=>by omega
 tag:=fun e=>by omega
 mark:=fun e=>by omega
 sum:=fun e=>by omega
theorem Ql{s:Int}{en:List Int}{L:List Ins}{i:Nat}:Loc s en L i ⟨10,0,0⟩:=Q3 (by simp[Tv,InR]) (by simp) (fun h=>by simp[Goes]at h)
def AllI(P:Nat→Ins→Prop):Nat→List Ins→Prop
 |_,[]=>True
 |n,a::l=>P n a∧AllI P (n+1) l
theorem AllI.at_{P:Nat→Ins→Prop}:∀{l:List Ins} {n i:Nat} {y:Ins},AllI P n l→l[i]?=some y→P (n+i) y
 | [],n,i,y,_,h=>by simp at h
 |a::l,n,0,y,h,e=>by simp at e;subst e;exact h.1
 |a::l,n,i+1,y,h,e=>by
  simp at e
  have:=AllI.at_ h.2 e
  rwa [show n+1+i=n+(i+1) by omega]at this
theorem Be{P:Nat→Ins→Prop}:∀(l:List Ins) (n:Nat),(∀(i:Nat) y,l[i]?=some y→P (n+i) y)→AllI P n l
 | [],_,_=>trivial
 |a::l,n,h=>⟨h 0 a rfl,Be l (n+1) fun i y e=>by
  have:=h (i+1) y (by simpa using e)
  rwa [show n+(i+1)=n+1+i by omega]at this⟩
theorem Nj{P:Nat→Ins→Prop}:∀{a b:List Ins} {n:Nat},AllI P n a→AllI P (n+a.length) b→AllI P n (a++b)
 | [],b,n,_,h=>h
 |x::a,b,n,h1,h2=>⟨h1.1,Nj h1.2 (by rwa [show n+1+a.length=n+(x::a).length by simp;omega])⟩
theorem O0{tags:List Int}{first:Int}{j i:Nat}{y:Ins}(h:(V0 tags first j)[i]?=some y):i<j∧y=⟨11,(tags[i]?).getD 0,w64 (first+2*(i:Int))⟩:=by
 unfold V0 at h
 have hi:=(Za5.1 h).1
 simp at hi
 rw[List.getElem?_map,List.getElem?_range hi]at h
 simp at h
 exact⟨hi,h.symm⟩
theorem Q7(kids en:List Int):∀j:Nat,(Xk kids en (j+1)).length=2*j+1
 |0=>by simp[Xk]
 |j+1=>by
  have h:=Q7 kids en j
  unfold Xk at h ⊢
  rw[List.range_succ,List.flatMap_append,List.flatMap_singleton,Za7,h]
  simp;omega
theorem Ba{kids en:List Int}{n:Nat}(hk:∀z∈kids,0≤z∧z<n):∀j:Nat,j<kids.length→∀y∈Xk kids en j,y=⟨10,0,0⟩∨∃z:Int,0≤z∧z<n∧y=Y4 en z
 |0,_,y,h=>by simp[Xk]at h
 |j+1,hj,y,h=>by
  obtain⟨z,hz⟩:∃z,kids[j+1]?=some z:=⟨_,Za6 hj⟩
  rw[Tr hz]at h
  rcases List.mem_append.1 h with h|h
  ·exact Ba hk j (by omega) y h
  ·rcases List.mem_append.1 h with h|h
   ·split at h
    ·simp at h
    ·simp at h;exact .inl h
   ·simp at h
    have:=hk z (Zba hz)
    exact .inr ⟨z,this.1,this.2,h⟩
set_option maxHeartbeats 2000000 in
theorem rule_loc{d:Des}(hD:DrawD d){j:Nat}{x:Rul}(hx:d[j]?=some x)(s:Int)(hs:0≤s∧s≤1000000)(en:List Int)(hen:en.length=j):∀(i:Nat) y,(Xh x s en)[i]?=some y→Loc s en (Xh x s en) i y:=by
 have hkid:=hD.kid hx
 obtain⟨k',k1,k2,hr,hk',_,_⟩:=hD.kinds hx
 have hlen:=hD.lens hx
 have hG:=hD.good
 have hkd:∀z∈x.kids,0≤z∧z<en.length:=fun z hz=>by rw[hen];exact hkid z hz
 suffices h:AllI (fun i y=>Loc s en (Xh x s en) i y) 0 (Xh x s en) by
  intro i y hy
  have:=h.at_ hy
  rwa [Nat.zero_add]at this
 have hrl:∀l:List Ins,Y7 x s en=l→(Xh x s en).length=l.length+1:=fun l e=>by unfold Xh;rw[e];simp
 by_cases e1:x.kind=1
 ·have e:Y7 x s en=[⟨1,x.size,if x.little=true then 1 else 0⟩]:=by unfold Y7;rw[if_pos e1]
  have hl:=hrl _ e
  have hz:=hr.hsize.1 (by omega)
  have hrw:Xh x s en=[⟨1,x.size,if x.little=true then 1 else 0⟩,⟨10,0,0⟩]:=by unfold Xh;rw[e];rfl
  conv=>arg 3;rw[hrw]
  exact⟨Q3 (by simp only[Tv,InR];refine⟨fun _=>⟨by omega,by split<;>omega⟩,by omega,by omega,by omega,by omega,by omega⟩) (by simp) (fun _=>by rw[hl];simp),Ql,trivial⟩
 by_cases e2:x.kind=2
 ·have e:Y7 x s en=x.bytes.map fun b=>⟨2,(b.toNat:Int),0⟩:=by unfold Y7;rw[if_neg e1,if_pos e2]
  have hl:=hrl _ e
  conv=>arg 3;rw[Xh,e]
  refine Nj (Be _ _ fun i y hy=>?_) ⟨Ql,trivial⟩
  have hi:=(Za5.1 hy).1
  obtain⟨b,hb⟩:=List.mem_map.1 (Zba hy)
  have hbl:=b.toNat_lt
  rw[←hb.2]
  exact Q3 (by simp only[Tv,InR];omega) (by simp) (fun _=>by rw[hl];omega)
 by_cases e3:x.kind=3
 ·have e:Y7 x s en=[⟨3,x.size,0⟩]:=by unfold Y7;rw[if_neg e1,if_neg e2,if_pos e3]
  have hl:=hrl _ e
  have hz:=hr.hsize.2.1 (by omega)
  conv=>arg 3;rw[Xh,e]
  exact⟨Q3 (by simp only[Tv,InR];omega) (by simp) (fun _=>by rw[hl];simp),Ql,trivial⟩
 by_cases e4:x.kind=4
 ·obtain⟨z,hz,hkk⟩:=hr.hkids.1 (by omega)
  have hz2:=hkd z (by rw[hkk];simp)
  have e:Y7 x s en=[Y4 en z,⟨4,0,0⟩]:=by unfold Y7;rw[if_neg e1,if_neg e2,if_neg e3,if_pos e4,hkk];rfl
  have hl:=hrl _ e
  conv=>arg 3;rw[Xh,e]
  exact⟨Q4 hz2 (by rw[hl];simp),Q3 (by simp only[Tv,InR];omega) (by simp) (fun _=>by rw[hl];simp),Ql,trivial⟩
 by_cases e5:x.kind=5
 ·obtain⟨z,z',hz,_,hkk⟩:=hr.hkids.2.1 (by omega)
  have hz2:=hkd z (by rw[hkk];simp)
  have hz3:=hkd z' (by rw[hkk];simp)
  have w1:w64 (s+6)=s+6:=Wh (by omega)
  have w2:w64 (s+3)=s+3:=Wh (by omega)
  have e:Y7 x s en=[Y4 en z,⟨5,40,0⟩,⟨6,0,0⟩,⟨7,s+6,0⟩,Y4 en z',⟨8,s+3,0⟩]:=by unfold Y7;rw[if_neg e1,if_neg e2,if_neg e3,if_neg e4,if_pos e5,hkk,w1,w2];rfl
  have hl:=hrl _ e
  have hL:Xh x s en=[Y4 en z,⟨5,40,0⟩,⟨6,0,0⟩,⟨7,s+6,0⟩,Y4 en z',⟨8,s+3,0⟩,⟨10,0,0⟩]:=by unfold Xh;rw[e];rfl
  rw[hL]
  refine⟨Q4 hz2 (by simp),Q3 (by simp only[Tv,InR];omega) (by simp) (fun _=>by simp),?_,?_,Q4 hz3 (by simp),?_,Ql,trivial⟩
  ·refine⟨by simp only[Tv,InR];omega,by simp,fun _=>by simp,fun e=>by simp at e,fun e=>by simp at e,fun _=>⟨_,rfl,rfl⟩,fun e=>by simp at e,fun e=>by simp at e,fun e=>by simp at e,fun e=>by simp at e,fun e=>by simp at e⟩
  ·refine⟨by simp only[Tv,InR];omega,by simp,fun _=>by simp,fun e=>by simp at e,fun _=>⟨2,_,_,_,rfl,rfl,rfl,rfl,rfl,rfl,rfl,?_,?_,by simp⟩,fun e=>by simp at e,fun e=>by simp at e,fun e=>by simp at e,fun e=>by simp at e,fun e=>by simp at e,fun e=>by simp at e⟩
   ·show s+3=s+((0+1+1+1:Nat):Int);omega
   ·show s+6=s+((0+1+1+1:Nat):Int)+3;omega
  ·exact⟨by simp only[Tv,InR];omega,by simp,fun h=>by simp[Goes]at h,fun e=>by simp at e,fun e=>by simp at e,fun e=>by simp at e,fun _=>⟨3,_,rfl,rfl,rfl⟩,fun e=>by simp at e,fun e=>by simp at e,fun e=>by simp at e,fun e=>by simp at e⟩
 by_cases e6:x.kind=6
 ·have e:Y7 x s en=x.kids.map (Y4 en):=by unfold Y7;rw[if_neg e1,if_neg e2,if_neg e3,if_neg e4,if_neg e5,if_pos e6]
  have hl:=hrl _ e
  conv=>arg 3;rw[Xh,e]
  refine Nj (Be _ _ fun i y hy=>?_) ⟨Ql,trivial⟩
  have hi:=(Za5.1 hy).1
  obtain⟨z,hz⟩:=List.mem_map.1 (Zba hy)
  rw[←hz.2]
  exact Q4 (hkd z hz.1) (by rw[hl];omega)
 by_cases e7:x.kind=7
 ·obtain⟨z,kl,hz,hkl,_,hkk⟩:=hr.hkids.2.2.2.1 (by omega)
  have htg:=hr.htags.1 (by omega)
  have hz2:=hkd z (by rw[hkk];simp)
  obtain⟨T,hT⟩:∃T,x.tags.length=T+1:=⟨x.tags.length-1,by omega⟩
  have e:Y7 x s en=Y4 en z::(V0 x.tags (s+(x.tags.length:Int)+2) x.tags.length++⟨12,3,0⟩::Xk x.kids en x.tags.length):=by
   unfold Y7
   rw[if_neg e1,if_neg e2,if_neg e3,if_neg e4,if_neg e5,if_neg e6,if_pos e7,show x.kids.headD 0=z by rw[hkk];rfl]
  have hl:=hrl _ e
  have hcl:(Xk x.kids en x.tags.length).length=2*T+1:=by rw[hT,Q7]
  simp only[Za8,Za7,Vg,hcl]at hl
  conv=>arg 3;rw[Xh,e]
  refine Nj ⟨Q4 hz2 (by rw[hl];omega),Nj (Be _ _ fun i y hy=>?_) ⟨Q3 (by simp only[Tv,InR];omega) (by simp) (fun h=>by simp[Goes]at h),Be _ _ fun i y hy=>?_⟩⟩ ⟨Ql,trivial⟩
  ·obtain⟨hi,rfl⟩:=O0 hy
   obtain⟨t,ht⟩:∃t,x.tags[i]?=some t:=⟨_,Za6 hi⟩
   have htb:=htg.2.2 i t ht
   have hw:w64 (s+(x.tags.length:Int)+2+2*(i:Int))=s+(x.tags.length:Int)+2+2*(i:Int):=Wh (by omega)
   rw[hw,ht]
   exact⟨by simp only[Tv,InR,Option.getD_some];omega,by simp,fun _=>by rw[hl];omega,fun e=>by simp at e,fun e=>by simp at e,fun e=>by simp at e,fun e=>by simp at e,fun e=>by simp at e,fun _=>by rw[hl];constructor<;>simp only<;>omega,fun e=>by simp at e,fun e=>by simp at e⟩
  ·have hi:=(Za5.1 hy).1
   rw[hcl]at hi
   rcases Ba hkd x.tags.length (by rw[hkk,Za8];omega) y (Zba hy) with rfl|⟨z3,h1,h2,rfl⟩
   ·exact Ql
   ·exact Q4 ⟨h1,h2⟩ (by rw[hl,Vg];omega)
 by_cases e8:x.kind=8
 ·obtain⟨z,hz,hkk⟩:=hr.hkids.2.2.2.2.1 (by omega)
  have hz2:=hkd z (by rw[hkk];simp)
  have w1:w64 (s+2)=s+2:=Wh (by omega)
  have hL:Xh x s en=[⟨13,s+2,0⟩,Y4 en z,⟨10,0,0⟩]:=by
   unfold Xh Y7
   rw[if_neg e1,if_neg e2,if_neg e3,if_neg e4,if_neg e5,if_neg e6,if_neg e7,if_pos e8,hkk,w1];rfl
  rw[hL]
  refine⟨⟨by simp only[Tv,InR];omega,by simp,fun _=>by simp,fun e=>by simp at e,fun e=>by simp at e,fun e=>by simp at e,fun e=>by simp at e,fun _=>⟨?_,?_⟩,fun e=>by simp at e,fun e=>by simp at e,fun e=>by simp at e⟩,Q4 hz2 (by simp),Ql,trivial⟩
  ·show s+((0:Nat):Int)<s+2;omega
  ·show s+2<s+((3:Nat):Int);omega
 by_cases e9:x.kind=9
 ·obtain⟨z,hz,hkk⟩:=hr.hkids.2.2.2.2.1 (by omega)
  have hz2:=hkd z (by rw[hkk];simp)
  have hL:Xh x s en=[⟨14,0,0⟩,Y4 en z,⟨15,0,0⟩,⟨10,0,0⟩]:=by
   unfold Xh Y7
   rw[if_neg e1,if_neg e2,if_neg e3,if_neg e4,if_neg e5,if_neg e6,if_neg e7,if_neg e8,if_pos e9,hkk];rfl
  rw[hL]
  refine⟨⟨by simp only[Tv,InR];omega,by simp,fun _=>by simp,fun e=>by simp at e,fun e=>by simp at e,fun e=>by simp at e,fun e=>by simp at e,fun e=>by simp at e,fun e=>by simp at e,fun _=>⟨_,_,rfl,rfl,rfl,rfl⟩,fun e=>by simp at e⟩,Q4 hz2 (by simp),⟨by simp only[Tv,InR];omega,by simp,fun _=>by simp,fun e=>by simp at e,fun e=>by simp at e,fun e=>by simp at e,fun e=>by simp at e,fun e=>by simp at e,fun e=>by simp at e,fun e=>by simp at e,fun _=>⟨0,_,rfl,rfl,rfl⟩⟩,Ql,trivial⟩
 ·have e:Y7 x s en=[⟨16,(((x.bytes[0]?).getD 0).toNat:Int),0⟩]:=by
   unfold Y7
   rw[if_neg e1,if_neg e2,if_neg e3,if_neg e4,if_neg e5,if_neg e6,if_neg e7,if_neg e8,if_neg e9]
  have hl:=hrl _ e
  have hbl:=((x.bytes[0]?).getD 0).toNat_lt
  conv=>arg 3;rw[Xh,e]
  exact⟨Q3 (by simp only[Tv,InR];omega) (by simp) (fun _=>by rw[hl];simp),Ql,trivial⟩
structure FrI (p:Prg):Prop where
 len:p.code.length≤700
 first:p.entries[0]?=some 2
 op0:opA p 0=9
 op1:opA p 1=17
 rise:∀(i:Nat) y z,p.entries[i]?=some y→p.entries[i+1]?=some z→y<z
 last:p.entries[p.entries.length-1]?=some (aA p 0)
noncomputable instance (p:Prg):Decidable (FrI p):=Classical.propDecidable _
theorem FrI.two{p:Prg}(h:FrI p):∀(b:Nat) (e:Int),p.entries[b]?=some e→2≤e
 |0,e,he=>by rw[h.first]at he;injection he with he;omega
 |b+1,e,he=>by
  have hb:b<p.entries.length:=by have:=(Za5.1 he).1;omega
  have hm:=Za6 hb
  have:=h.two b _ hm
  have:=h.rise b _ e hm he
  omega
theorem FrI.frame{p:Prg}(h:FrI p)(hi:∀i:Nat,i<p.code.length→Bg p i):FrameP p:=⟨h.len,h.first,h.op0,h.op1,h.last,hi,h.rise⟩
theorem FrameP.frI{p:Prg}(h:FrameP p):FrI p:=⟨h.len,h.first,h.op0,h.op1,h.rise,h.last⟩
theorem FrI.end_ge{p:Prg}(h:FrI p)(b:Nat):0≤endA p b:=by
 cases hz:p.entries[b+1]? with
 |some z=>rw[Kt hz];have:=h.two _ z hz;omega
 |none=>rw[Jz hz];omega
structure PrgB (p:Prg):Prop where
 code:p.code.length≤1048576
 ents:p.entries.length≤1048576
 vals:∀z∈p.entries,I64 z
theorem endA_i64{p:Prg}(hB:PrgB p)(b:Nat):I64 (endA p b):=by
 have h1:=hB.code
 cases hz:p.entries[b+1]? with
 |some z=>rw[Kt hz];exact hB.vals z (Zba hz)
 |none=>rw[Jz hz];unfold I64;omega
set_option maxHeartbeats 8000000 in
theorem If(p:Prg)(hB:PrgB p):ACv Tryz.prog 76 [Tm p] (.bool (decide (FrI p))):=by
 have hlm:(p.entries.map fun z=>[RV.int z]).length=p.entries.length:=lmT ..
 have hlc:(p.code.map Ul).length=p.code.length:=lmT ..
 have hb1:=hB.code
 have hb2:=hB.ents
 have o0:=N8 p 0
 have o1:=N8 p 1
 refine Zz Tryz.func76 rfl _ Tryz.ntmps76 (by simp) fun C hn hm=>?_
 by_cases h700:(p.code.length:Int)≤700
 ·by_cases hne:p.entries.length=0
  ·have hn0:¬FrI p:=fun h=>by have:=(Za5.1 h.first).1;omega
   repeat' (first
|refine Zbg Zk hn rfl ?_
|refine Zbh ?_
|refine Za 30 rfl ?_
|((first|refine Zc hn rfl rfl rfl ?_|refine Zl rfl rfl ?_);first
|refine⟨_,Zi o0 rfl,?_⟩
|refine⟨_,Zi o1 rfl,?_⟩)
|(refine Zbf 30 rfl ?_;first|refine Zg rfl ?_|((first|refine Zd rfl ?_ ?_|refine Zp rfl ?_ ?_);·first|omega|rfl|assumption|(simp only[lmT];omega))|((first|refine Ze rfl ?_ ?_|refine Zn rfl ?_ ?_);·first|omega|rfl|assumption|(simp only[lmT];omega))|refine Z1 rfl (fun h=>?_) (fun h=>?_)|refine Zbe (Zj hm rfl rfl ?_)|exact Zbe (Zf hm rfl rfl rfl (nbT rfl) rfl rfl))
|refine Zs rfl (tl hn rfl) ?_
|refine Zbi Zk hn rfl rfl ?_
|refine Zbj ?_
|refine Zo 30 Yc hn rfl (by kernel_rfl) rfl ?_
|((first|refine Zc hn rfl rfl rfl ?_|refine Zl rfl rfl ?_);first
|refine⟨_,Zq rfl rfl (by omega),?_⟩
|refine⟨_,Zb rfl rfl (by omega) (by assumption),?_⟩
|refine⟨_,Z7 rfl rfl (by omega),?_⟩)
|((first|refine Zh rfl rfl rfl ?_ ?_|refine Zy rfl rfl rfl ?_ ?_)<;>intro h<;>try(exfalso;first|omega|contradiction|(simp only[lmT]at h;omega))))
   all_goals exact Z3 (decide_eq_false hn0).symm
  ·obtain⟨z,hz⟩:∃z,p.entries[(0:Int).toNat]?=some z:=⟨_,Za6 (by simp;omega)⟩
   have hz':p.entries[0]?=some z:=hz
   by_cases hg:z=2∧opA p 0=9∧opA p 1=17
   ·obtain⟨g1,g2,g3⟩:=hg
    subst g1
    repeat' (first
|refine Zbg Zk hn rfl ?_
|refine Zbh ?_
|refine Za 30 rfl ?_
|((first|refine Zc hn rfl rfl rfl ?_|refine Zl rfl rfl ?_);first
|refine⟨_,Zi o0 rfl,?_⟩
|refine⟨_,Zi o1 rfl,?_⟩)
|(refine Zbf 30 rfl ?_;first|refine Zg rfl ?_|((first|refine Zd rfl ?_ ?_|refine Zp rfl ?_ ?_);·first|omega|rfl|assumption|(simp only[lmT];omega))|((first|refine Ze rfl ?_ ?_|refine Zn rfl ?_ ?_);·first|omega|rfl|assumption|(simp only[lmT];omega))|refine Z1 rfl (fun h=>?_) (fun h=>?_)|refine Zbe (Zj hm rfl rfl ?_)|exact Zbe (Zf hm rfl rfl rfl (nbT rfl) rfl rfl))
|refine Zs rfl (tl hn rfl) ?_
|refine Zbi Zk hn rfl rfl ?_
|refine Zbj ?_
|refine Zo 30 Yc hn rfl (by kernel_rfl) rfl ?_
|((first|refine Zc hn rfl rfl rfl ?_|refine Zl rfl rfl ?_);first
|refine⟨_,Zq rfl rfl (by omega),?_⟩
|refine⟨_,Zb rfl rfl (by omega) (by assumption),?_⟩
|refine⟨_,Z7 rfl rfl (by omega),?_⟩)
|((first|refine Zh rfl rfl rfl ?_ ?_|refine Zy rfl rfl rfl ?_ ?_)<;>intro h<;>try(exfalso;first|omega|contradiction|(simp only[lmT]at h;omega))))
    refine Yh 30 rfl (fun j=>[(1,.obj 0 0),(3,.int (j:Int))]) (fun _=>[⟨32,0,[.ro (Qp p.code),.ro (Xe p.entries)]⟩]) (fun j=>1≤j∧∀(i:Nat) y w,i+1<j→p.entries[i]?=some y→p.entries[i+1]?=some w→y<w) p.entries.length 1 (by omega) ⟨Nat.le_refl _,fun i y w h=>absurd h (by omega)⟩ ⟨rfl,rfl,trivial⟩ rfl fun j hj hQ next=>?_
    by_cases hlt:j<p.entries.length
    ·obtain⟨y,hy⟩:∃y,p.entries[((j:Int)-1).toNat]?=some y:=⟨_,Za6 (by omega)⟩
     obtain⟨w,hw⟩:∃w,p.entries[(j:Int).toNat]?=some w:=⟨_,Za6 hlt⟩
     have hw':p.entries[j]?=some w:=hw
     have hy':p.entries[j-1]?=some y:=by rw[←hy];congr 1;omega
     have hj1:=hQ.1
     repeat' (first
|refine Zbg Zk hn rfl ?_
|refine Zbh ?_
|refine Za 30 rfl ?_
|(refine Zbf 30 rfl ?_;first|refine Zg rfl ?_|((first|refine Zd rfl ?_ ?_|refine Zp rfl ?_ ?_);·first|omega|rfl|assumption|(simp only[lmT];omega))|((first|refine Ze rfl ?_ ?_|refine Zn rfl ?_ ?_);·first|omega|rfl|assumption|(simp only[lmT];omega))|refine Z1 rfl (fun h=>?_) (fun h=>?_)|refine Zbe (Zj hm rfl rfl ?_)|exact Zbe (Zf hm rfl rfl rfl (nbT rfl) rfl rfl))
|refine Zs rfl (tl hn rfl) ?_
|refine Zbi Zk hn rfl rfl ?_
|refine Zbj ?_
|refine Zo 30 Yc hn rfl (by kernel_rfl) rfl ?_
|((first|refine Zc hn rfl rfl rfl ?_|refine Zl rfl rfl ?_);first
|refine⟨_,Zq rfl rfl (by omega),?_⟩
|refine⟨_,Zb rfl rfl (by omega) (by assumption),?_⟩
|refine⟨_,Z7 rfl rfl (by omega),?_⟩)
|((first|refine Zh rfl rfl rfl ?_ ?_|refine Zy rfl rfl rfl ?_ ?_)<;>intro h<;>try(exfalso;first|omega|contradiction|(simp only[lmT]at h;omega))))
     ·exact Z3 (decide_eq_false (p:=FrI p) fun hN=>by have:=hN.rise (j-1) y w hy' (by rwa [show j-1+1=j by omega]);omega).symm
     ·refine next _ _ ⟨rfl,rfl,trivial⟩ hlt ⟨by omega,fun i a b hi ha hb=>?_⟩ rfl
      by_cases e:i=j-1
      ·subst e
       rw[hy']at ha;injection ha with ha
       rw[show j-1+1=j by omega,hw']at hb;injection hb with hb
       omega
      ·exact hQ.2 i a b (by omega) ha hb
    ·obtain⟨x,hx⟩:=D0 (Dc (p:=p) (i:=0) (by rw[g2];decide))
     obtain⟨l,hl⟩:∃l,p.entries[((p.entries.length:Int)-1).toNat]?=some l:=⟨_,Za6 (by omega)⟩
     have hl2:p.entries[(((p.entries.map fun z=>[RV.int z]).length:Int)-1).toNat]?=some l:=by rw[hlm];exact hl
     have hl':p.entries[p.entries.length-1]?=some l:=by rw[←hl];congr 1;omega
     have ha:=Rz (Int.le_refl 0) hx
     repeat' (first
|refine Zbg Zk hn rfl ?_
|refine Zbh ?_
|refine Za 30 rfl ?_
|(refine Zbf 30 rfl ?_;first|refine Zg rfl ?_|((first|refine Zd rfl ?_ ?_|refine Zp rfl ?_ ?_);·first|omega|rfl|assumption|(simp only[lmT];omega))|((first|refine Ze rfl ?_ ?_|refine Zn rfl ?_ ?_);·first|omega|rfl|assumption|(simp only[lmT];omega))|refine Z1 rfl (fun h=>?_) (fun h=>?_)|refine Zbe (Zj hm rfl rfl ?_)|exact Zbe (Zf hm rfl rfl rfl (nbT rfl) rfl rfl))
|refine Zs rfl (tl hn rfl) ?_
|refine Zbi Zk hn rfl rfl ?_
|refine Zbj ?_
|refine Zo 30 Yc hn rfl (by kernel_rfl) rfl ?_
|((first|refine Zc hn rfl rfl rfl ?_|refine Zl rfl rfl ?_);first
|refine⟨_,Zq rfl rfl (by omega),?_⟩
|refine⟨_,Zb rfl rfl (by omega) (by assumption),?_⟩
|refine⟨_,Z7 rfl rfl (by omega),?_⟩)
|((first|refine Zh rfl rfl rfl ?_ ?_|refine Zy rfl rfl rfl ?_ ?_)<;>intro h<;>try(exfalso;first|omega|contradiction|(simp only[lmT]at h;omega))))
     all_goals exact Z3 (decide_eq_decide.2 ⟨fun h=>⟨by omega,hz',g2,g3,fun i y w hy hw=>hQ.2 i y w (by have:=(Za5.1 hw).1;omega) hy hw,by rw[hl',ha,h]⟩,fun h=>by have:=h.last;rw[hl',ha]at this;injection this with this;omega⟩)
   ·have hn0:¬FrI p:=fun h=>hg ⟨by have:=h.first;rw[hz']at this;injection this,h.op0,h.op1⟩
    by_cases g1:z=2
    ·by_cases g2:opA p 0=9
     ·have g3:¬opA p 1=17:=fun h=>hg ⟨g1,g2,h⟩
      repeat' (first
|refine Zbg Zk hn rfl ?_
|refine Zbh ?_
|refine Za 30 rfl ?_
|((first|refine Zc hn rfl rfl rfl ?_|refine Zl rfl rfl ?_);first
|refine⟨_,Zi o0 rfl,?_⟩
|refine⟨_,Zi o1 rfl,?_⟩)
|(refine Zbf 30 rfl ?_;first|refine Zg rfl ?_|((first|refine Zd rfl ?_ ?_|refine Zp rfl ?_ ?_);·first|omega|rfl|assumption|(simp only[lmT];omega))|((first|refine Ze rfl ?_ ?_|refine Zn rfl ?_ ?_);·first|omega|rfl|assumption|(simp only[lmT];omega))|refine Z1 rfl (fun h=>?_) (fun h=>?_)|refine Zbe (Zj hm rfl rfl ?_)|exact Zbe (Zf hm rfl rfl rfl (nbT rfl) rfl rfl))
|refine Zs rfl (tl hn rfl) ?_
|refine Zbi Zk hn rfl rfl ?_
|refine Zbj ?_
|refine Zo 30 Yc hn rfl (by kernel_rfl) rfl ?_
|((first|refine Zc hn rfl rfl rfl ?_|refine Zl rfl rfl ?_);first
|refine⟨_,Zq rfl rfl (by omega),?_⟩
|refine⟨_,Zb rfl rfl (by omega) (by assumption),?_⟩
|refine⟨_,Z7 rfl rfl (by omega),?_⟩)
|((first|refine Zh rfl rfl rfl ?_ ?_|refine Zy rfl rfl rfl ?_ ?_)<;>intro h<;>try(exfalso;first|omega|contradiction|(simp only[lmT]at h;omega))))
      all_goals exact Z3 (decide_eq_false hn0).symm
     ·repeat' (first
|refine Zbg Zk hn rfl ?_
|refine Zbh ?_
|refine Za 30 rfl ?_
|((first|refine Zc hn rfl rfl rfl ?_|refine Zl rfl rfl ?_);first
|refine⟨_,Zi o0 rfl,?_⟩
|refine⟨_,Zi o1 rfl,?_⟩)
|(refine Zbf 30 rfl ?_;first|refine Zg rfl ?_|((first|refine Zd rfl ?_ ?_|refine Zp rfl ?_ ?_);·first|omega|rfl|assumption|(simp only[lmT];omega))|((first|refine Ze rfl ?_ ?_|refine Zn rfl ?_ ?_);·first|omega|rfl|assumption|(simp only[lmT];omega))|refine Z1 rfl (fun h=>?_) (fun h=>?_)|refine Zbe (Zj hm rfl rfl ?_)|exact Zbe (Zf hm rfl rfl rfl (nbT rfl) rfl rfl))
|refine Zs rfl (tl hn rfl) ?_
|refine Zbi Zk hn rfl rfl ?_
|refine Zbj ?_
|refine Zo 30 Yc hn rfl (by kernel_rfl) rfl ?_
|((first|refine Zc hn rfl rfl rfl ?_|refine Zl rfl rfl ?_);first
|refine⟨_,Zq rfl rfl (by omega),?_⟩
|refine⟨_,Zb rfl rfl (by omega) (by assumption),?_⟩
|refine⟨_,Z7 rfl rfl (by omega),?_⟩)
|((first|refine Zh rfl rfl rfl ?_ ?_|refine Zy rfl rfl rfl ?_ ?_)<;>intro h<;>try(exfalso;first|omega|contradiction|(simp only[lmT]at h;omega))))
      all_goals exact Z3 (decide_eq_false hn0).symm
    ·repeat' (first
|refine Zbg Zk hn rfl ?_
|refine Zbh ?_
|refine Za 30 rfl ?_
|((first|refine Zc hn rfl rfl rfl ?_|refine Zl rfl rfl ?_);first
|refine⟨_,Zi o0 rfl,?_⟩
|refine⟨_,Zi o1 rfl,?_⟩)
|(refine Zbf 30 rfl ?_;first|refine Zg rfl ?_|((first|refine Zd rfl ?_ ?_|refine Zp rfl ?_ ?_);·first|omega|rfl|assumption|(simp only[lmT];omega))|((first|refine Ze rfl ?_ ?_|refine Zn rfl ?_ ?_);·first|omega|rfl|assumption|(simp only[lmT];omega))|refine Z1 rfl (fun h=>?_) (fun h=>?_)|refine Zbe (Zj hm rfl rfl ?_)|exact Zbe (Zf hm rfl rfl rfl (nbT rfl) rfl rfl))
|refine Zs rfl (tl hn rfl) ?_
|refine Zbi Zk hn rfl rfl ?_
|refine Zbj ?_
|refine Zo 30 Yc hn rfl (by kernel_rfl) rfl ?_
|((first|refine Zc hn rfl rfl rfl ?_|refine Zl rfl rfl ?_);first
|refine⟨_,Zq rfl rfl (by omega),?_⟩
|refine⟨_,Zb rfl rfl (by omega) (by assumption),?_⟩
|refine⟨_,Z7 rfl rfl (by omega),?_⟩)
|((first|refine Zh rfl rfl rfl ?_ ?_|refine Zy rfl rfl rfl ?_ ?_)<;>intro h<;>try(exfalso;first|omega|contradiction|(simp only[lmT]at h;omega))))
     all_goals exact Z3 (decide_eq_false hn0).symm
 ·have hn0:¬FrI p:=fun h=>by have:=h.len;omega
  repeat' (first
|refine Zbg Zk hn rfl ?_
|refine Zbh ?_
|refine Za 30 rfl ?_
|((first|refine Zc hn rfl rfl rfl ?_|refine Zl rfl rfl ?_);first
|refine⟨_,Zi o0 rfl,?_⟩
|refine⟨_,Zi o1 rfl,?_⟩)
|(refine Zbf 30 rfl ?_;first|refine Zg rfl ?_|((first|refine Zd rfl ?_ ?_|refine Zp rfl ?_ ?_);·first|omega|rfl|assumption|(simp only[lmT];omega))|((first|refine Ze rfl ?_ ?_|refine Zn rfl ?_ ?_);·first|omega|rfl|assumption|(simp only[lmT];omega))|refine Z1 rfl (fun h=>?_) (fun h=>?_)|refine Zbe (Zj hm rfl rfl ?_)|exact Zbe (Zf hm rfl rfl rfl (nbT rfl) rfl rfl))
|refine Zs rfl (tl hn rfl) ?_
|refine Zbi Zk hn rfl rfl ?_
|refine Zbj ?_
|refine Zo 30 Yc hn rfl (by kernel_rfl) rfl ?_
|((first|refine Zc hn rfl rfl rfl ?_|refine Zl rfl rfl ?_);first
|refine⟨_,Zq rfl rfl (by omega),?_⟩
|refine⟨_,Zb rfl rfl (by omega) (by assumption),?_⟩
|refine⟨_,Z7 rfl rfl (by omega),?_⟩)
|((first|refine Zh rfl rfl rfl ?_ ?_|refine Zy rfl rfl rfl ?_ ?_)<;>intro h<;>try(exfalso;first|omega|contradiction|(simp only[lmT]at h;omega))))
  all_goals exact Z3 (decide_eq_false hn0).symm
set_option maxHeartbeats 16000000 in
theorem M9(p:Prg)(hB:PrgB p):ACv Tryz.prog 48 [Tm p] (.bool (decide (Mm p))):=by
 have hlm:(p.entries.map fun z=>[RV.int z]).length=p.entries.length:=lmT ..
 have hlc:(p.code.map Ul).length=p.code.length:=lmT ..
 have hb1:=hB.code
 have hb2:=hB.ents
 have hel:p.entries.length≤maxLen:=by unfold maxLen;omega
 have hcl:p.code.length≤maxLen:=by unfold maxLen;omega
 have hf:=If p hB
 refine Zz Tryz.func48 rfl _ Tryz.ntmps48 (by simp) fun C hn hm=>?_
 by_cases hF:FrI p
 ·have h700:=hF.len
  repeat' (first
|refine Zbg Zk hn rfl ?_
|refine Zbh ?_
|refine Za 30 rfl ?_
|(refine Zc hn rfl rfl rfl ?_;first
|refine⟨_,Zi hf rfl,?_⟩)
|(refine Zbf 30 rfl ?_;first|((first|refine Zd rfl ?_ ?_|refine Zp rfl ?_ ?_);·first|omega|rfl|assumption|(simp only[lmT];omega))|((first|refine Ze rfl ?_ ?_|refine Zn rfl ?_ ?_);·first|omega|rfl|assumption|(simp only[lmT];omega))|refine Zbe (Zj hm rfl rfl ?_)|exact Zbe (Zf hm rfl rfl rfl (nbT rfl) rfl rfl))
|refine Zs rfl (tl hn rfl) ?_
|(refine Zc hn rfl rfl rfl ?_;first
|refine⟨_,Zq rfl rfl (by omega),?_⟩
|refine⟨_,Zb rfl rfl (by omega) (by assumption),?_⟩
|refine⟨_,Z7 rfl rfl (by omega),?_⟩
    ))
  refine Yh 30 rfl (fun j=>[(1,.obj 0 0),(13,.int (p.code.length:Int)),(14,.int (j:Int))]) (fun _=>[⟨32,0,[.ro (Qp p.code),.ro (Xe p.entries)]⟩]) (fun j=>∀i:Nat,i<j→Bg p i) p.code.length 0 (Nat.zero_le _) (fun i h=>absurd h (by omega)) ⟨rfl,by simp only[look];exact congrArg (fun z:Nat=>AV.int (z:Int)) hlc,rfl,trivial⟩ rfl fun j hj hQ next=>?_
  by_cases hlt:j<p.code.length
  ·have hi:=Jj p j (by unfold I64;omega) hcl
   by_cases hs:Bg p (j:Int)
   ·repeat' (first
|refine Zbg Zk hn rfl ?_
|refine Zbh ?_
|refine Za 30 rfl ?_
|(refine Zc hn rfl rfl rfl ?_;first
|refine⟨_,Zi hi rfl,?_⟩)
|(refine Zbf 30 rfl ?_;first|((first|refine Zd rfl ?_ ?_|refine Zp rfl ?_ ?_);·first|omega|rfl|assumption|(simp only[lmT];omega))|((first|refine Ze rfl ?_ ?_|refine Zn rfl ?_ ?_);·first|omega|rfl|assumption|(simp only[lmT];omega))|refine Zbe (Zj hm rfl rfl ?_)|exact Zbe (Zf hm rfl rfl rfl (nbT rfl) rfl rfl))
|refine Zs rfl (tl hn rfl) ?_
|(refine Zc hn rfl rfl rfl ?_;first
|refine⟨_,Zq rfl rfl (by omega),?_⟩
|refine⟨_,Zb rfl rfl (by omega) (by assumption),?_⟩
|refine⟨_,Z7 rfl rfl (by omega),?_⟩
     ))
    refine next _ _ ⟨rfl,rfl,rfl,trivial⟩ hlt (fun i hi=>?_) rfl
    by_cases e:i=j
    ·subst e;exact hs
    ·exact hQ i (by omega)
   ·repeat' (first
|refine Zbg Zk hn rfl ?_
|refine Zbh ?_
|refine Za 30 rfl ?_
|(refine Zc hn rfl rfl rfl ?_;first
|refine⟨_,Zi hi rfl,?_⟩)
|(refine Zbf 30 rfl ?_;first|((first|refine Zd rfl ?_ ?_|refine Zp rfl ?_ ?_);·first|omega|rfl|assumption|(simp only[lmT];omega))|((first|refine Ze rfl ?_ ?_|refine Zn rfl ?_ ?_);·first|omega|rfl|assumption|(simp only[lmT];omega))|refine Zbe (Zj hm rfl rfl ?_)|exact Zbe (Zf hm rfl rfl rfl (nbT rfl) rfl rfl))
|refine Zs rfl (tl hn rfl) ?_
|(refine Zc hn rfl rfl rfl ?_;first
|refine⟨_,Zq rfl rfl (by omega),?_⟩
|refine⟨_,Zb rfl rfl (by omega) (by assumption),?_⟩
|refine⟨_,Z7 rfl rfl (by omega),?_⟩
     ))
    all_goals exact Z3 (decide_eq_false (p:=Mm p) fun hN=>hs (hN.1.ins j hlt)).symm
  ·obtain rfl:j=p.code.length:=by omega
   have hFr:=hF.frame hQ
   repeat' (first
|refine Zbg Zk hn rfl ?_
|refine Zbh ?_
|refine Za 30 rfl ?_
|(refine Zbf 30 rfl ?_;first|((first|refine Zd rfl ?_ ?_|refine Zp rfl ?_ ?_);·first|omega|rfl|assumption|(simp only[lmT];omega))|((first|refine Ze rfl ?_ ?_|refine Zn rfl ?_ ?_);·first|omega|rfl|assumption|(simp only[lmT];omega))|refine Zbe (Zj hm rfl rfl ?_)|exact Zbe (Zf hm rfl rfl rfl (nbT rfl) rfl rfl))
|refine Zs rfl (tl hn rfl) ?_
|(refine Zc hn rfl rfl rfl ?_;first
|refine⟨_,Zq rfl rfl (by omega),?_⟩
|refine⟨_,Zb rfl rfl (by omega) (by assumption),?_⟩
|refine⟨_,Z7 rfl rfl (by omega),?_⟩
     ))
   refine Yh 30 rfl (fun b=>[(1,.obj 0 0),(4,.bool true),(24,.int (p.entries.length:Int)),(25,.int (b:Int))]) (fun _=>[⟨32,0,[.ro (Qp p.code),.ro (Xe p.entries)]⟩]) (fun b=>∀(c:Nat) e,c<b→p.entries[c]?=some e→opA p (endA p c-1)=10∧∀(k:Int) x,e≤k→k<endA p c→p.code[k.toNat]?=some x→Uy p c k x) p.entries.length 0 (Nat.zero_le _) (fun c e h=>absurd h (by omega)) ⟨rfl,rfl,by simp only[look];exact congrArg (fun z:Nat=>AV.int (z:Int)) hlm,rfl,trivial⟩ rfl fun b hb hR next2=>?_
   by_cases hlt2:b<p.entries.length
   ·obtain⟨e,he⟩:∃e,p.entries[(b:Int).toNat]?=some e:=⟨_,Za6 hlt2⟩
    have he':p.entries[b]?=some e:=he
    have hend:=Mk p b (by omega) (by omega) hel
    have hge:=hF.end_ge b
    have hi64:=endA_i64 hB b
    unfold I64 at hi64
    have h2:=hF.two b e he'
    have hop:=N8 p (endA p b-1)
    by_cases hret:opA p (endA p b-1)=10
    ·have hidx:=Dc (p:=p) (by rw[hret];decide:opA p (endA p b-1)≠0)
     unfold Idx at hidx
     repeat' (first
|refine Zbg Zk hn rfl ?_
|refine Zbh ?_
|refine Za 30 rfl ?_
|(refine Zc hn rfl rfl rfl ?_;first
|refine⟨_,Zi hend rfl,?_⟩
|refine⟨_,Zi hop rfl,?_⟩)
|(refine Zbf 30 rfl ?_;first|((first|refine Zd rfl ?_ ?_|refine Zp rfl ?_ ?_);·first|omega|rfl|assumption|(simp only[lmT];omega))|((first|refine Ze rfl ?_ ?_|refine Zn rfl ?_ ?_);·first|omega|rfl|assumption|(simp only[lmT];omega))|refine Zbe (Zj hm rfl rfl ?_)|exact Zbe (Zf hm rfl rfl rfl (nbT rfl) rfl rfl))
|refine Zs rfl (tl hn rfl) ?_
|(refine Zc hn rfl rfl rfl ?_;first
|refine⟨_,Zq rfl rfl (by omega),?_⟩
|refine⟨_,Zb rfl rfl (by omega) (by assumption),?_⟩
|refine⟨_,Z7 rfl rfl (by omega),?_⟩
       ))
     refine Yh 30 rfl (fun m=>[(1,.obj 0 0),(4,.bool true),(24,.int (p.entries.length:Int)),(25,.int (b:Int)),(5,.int (b:Int)),(6,.int (endA p b)),(7,.int (e+m))]) (fun _=>[⟨32,0,[.ro (Qp p.code),.ro (Xe p.entries)]⟩]) (fun m=>∀(k:Int) x,e≤k→k<e+m→p.code[k.toNat]?=some x→Uy p b k x) (endA p b-e).toNat 0 (Nat.zero_le _) (fun k x h1 h2=>absurd h2 (by omega)) ⟨rfl,rfl,rfl,rfl,rfl,rfl,by simp only[look];exact Vh (by omega),trivial⟩ rfl fun m hm' hP next3=>?_
     by_cases hlt3:m<(endA p b-e).toNat
     ·obtain⟨x,hx⟩:∃x,p.code[(e+m).toNat]?=some x:=⟨_,Za6 (by omega)⟩
      have hpl:=Ie p b (e+m) x hlt2 ⟨by omega,by omega⟩ hx hel
      by_cases hpx:Uy p b (e+m) x
      ·repeat' (first
|refine Zbg Zk hn rfl ?_
|refine Zbh ?_
|refine Za 30 rfl ?_
|(refine Zc hn rfl rfl rfl ?_;first
|refine⟨_,Zi hpl rfl,?_⟩)
|(refine Zbf 30 rfl ?_;first|((first|refine Zd rfl ?_ ?_|refine Zp rfl ?_ ?_);·first|omega|rfl|assumption|(simp only[lmT];omega))|((first|refine Ze rfl ?_ ?_|refine Zn rfl ?_ ?_);·first|omega|rfl|assumption|(simp only[lmT];omega))|refine Zbe (Zj hm rfl rfl ?_)|exact Zbe (Zf hm rfl rfl rfl (nbT rfl) rfl rfl))
|refine Zs rfl (tl hn rfl) ?_
|(refine Zc hn rfl rfl rfl ?_;first
|refine⟨_,Zq rfl rfl (by omega),?_⟩
|refine⟨_,Zb rfl rfl (by omega) (by assumption),?_⟩
|refine⟨_,Z7 rfl rfl (by omega),?_⟩
        ))
       refine next3 _ _ ⟨rfl,rfl,rfl,rfl,rfl,rfl,by simp only[look];exact Vh (by omega),trivial⟩ hlt3 (fun k w hk1 hk2 hw=>?_) rfl
       by_cases ek:k=e+m
       ·subst ek;rw[hx]at hw;injection hw with hw;subst hw;exact hpx
       ·exact hP k w hk1 (by omega) hw
      ·repeat' (first
|refine Zbg Zk hn rfl ?_
|refine Zbh ?_
|refine Za 30 rfl ?_
|(refine Zc hn rfl rfl rfl ?_;first
|refine⟨_,Zi hpl rfl,?_⟩)
|(refine Zbf 30 rfl ?_;first|((first|refine Zd rfl ?_ ?_|refine Zp rfl ?_ ?_);·first|omega|rfl|assumption|(simp only[lmT];omega))|((first|refine Ze rfl ?_ ?_|refine Zn rfl ?_ ?_);·first|omega|rfl|assumption|(simp only[lmT];omega))|refine Zbe (Zj hm rfl rfl ?_)|exact Zbe (Zf hm rfl rfl rfl (nbT rfl) rfl rfl))
|refine Zs rfl (tl hn rfl) ?_
|(refine Zc hn rfl rfl rfl ?_;first
|refine⟨_,Zq rfl rfl (by omega),?_⟩
|refine⟨_,Zb rfl rfl (by omega) (by assumption),?_⟩
|refine⟨_,Z7 rfl rfl (by omega),?_⟩
        ))
       all_goals exact Z3 (decide_eq_false (p:=Mm p) fun hN=>hpx ((hN.2 b e he').2 (e+m) x (by omega) (by omega) hx)).symm
     ·repeat' (first
|refine Zbg Zk hn rfl ?_
|refine Zbh ?_
|refine Za 30 rfl ?_
|(refine Zbf 30 rfl ?_;first|((first|refine Zd rfl ?_ ?_|refine Zp rfl ?_ ?_);·first|omega|rfl|assumption|(simp only[lmT];omega))|((first|refine Ze rfl ?_ ?_|refine Zn rfl ?_ ?_);·first|omega|rfl|assumption|(simp only[lmT];omega))|refine Zbe (Zj hm rfl rfl ?_)|exact Zbe (Zf hm rfl rfl rfl (nbT rfl) rfl rfl))
|refine Zs rfl (tl hn rfl) ?_
|(refine Zc hn rfl rfl rfl ?_;first
|refine⟨_,Zq rfl rfl (by omega),?_⟩
|refine⟨_,Zb rfl rfl (by omega) (by assumption),?_⟩
|refine⟨_,Z7 rfl rfl (by omega),?_⟩
       ))
      refine next2 _ _ ⟨rfl,rfl,rfl,rfl,trivial⟩ hlt2 (fun c d hc hd=>?_) rfl
      by_cases ec:c=b
      ·subst ec;rw[he']at hd;injection hd with hd;subst hd
       exact⟨hret,fun k x h1 h2 hx=>hP k x h1 (by omega) hx⟩
      ·exact hR c d (by omega) hd
    ·repeat' (first
|refine Zbg Zk hn rfl ?_
|refine Zbh ?_
|refine Za 30 rfl ?_
|(refine Zc hn rfl rfl rfl ?_;first
|refine⟨_,Zi hend rfl,?_⟩
|refine⟨_,Zi hop rfl,?_⟩)
|(refine Zbf 30 rfl ?_;first|((first|refine Zd rfl ?_ ?_|refine Zp rfl ?_ ?_);·first|omega|rfl|assumption|(simp only[lmT];omega))|((first|refine Ze rfl ?_ ?_|refine Zn rfl ?_ ?_);·first|omega|rfl|assumption|(simp only[lmT];omega))|refine Zbe (Zj hm rfl rfl ?_)|exact Zbe (Zf hm rfl rfl rfl (nbT rfl) rfl rfl))
|refine Zs rfl (tl hn rfl) ?_
|(refine Zc hn rfl rfl rfl ?_;first
|refine⟨_,Zq rfl rfl (by omega),?_⟩
|refine⟨_,Zb rfl rfl (by omega) (by assumption),?_⟩
|refine⟨_,Z7 rfl rfl (by omega),?_⟩
      ))
     all_goals exact Z3 (decide_eq_false (p:=Mm p) fun hN=>hret (hN.2 b e he').1).symm
   ·repeat' (first
|refine Zbg Zk hn rfl ?_
|refine Zbh ?_
|refine Za 30 rfl ?_
|(refine Zbf 30 rfl ?_;first|((first|refine Zd rfl ?_ ?_|refine Zp rfl ?_ ?_);·first|omega|rfl|assumption|(simp only[lmT];omega))|((first|refine Ze rfl ?_ ?_|refine Zn rfl ?_ ?_);·first|omega|rfl|assumption|(simp only[lmT];omega))|refine Zbe (Zj hm rfl rfl ?_)|exact Zbe (Zf hm rfl rfl rfl (nbT rfl) rfl rfl))
|refine Zs rfl (tl hn rfl) ?_
|(refine Zc hn rfl rfl rfl ?_;first
|refine⟨_,Zq rfl rfl (by omega),?_⟩
|refine⟨_,Zb rfl rfl (by omega) (by assumption),?_⟩
|refine⟨_,Z7 rfl rfl (by omega),?_⟩
     ))
    exact Z3 (decide_eq_true (p:=Mm p) ⟨hFr,fun c e he=>hR c e (by have:=(Za5.1 he).1;omega) he⟩).symm
 ·repeat' (first
|refine Zbg Zk hn rfl ?_
|refine Zbh ?_
|refine Za 30 rfl ?_
|(refine Zc hn rfl rfl rfl ?_;first
|refine⟨_,Zi hf rfl,?_⟩)
|(refine Zbf 30 rfl ?_;first|((first|refine Zd rfl ?_ ?_|refine Zp rfl ?_ ?_);·first|omega|rfl|assumption|(simp only[lmT];omega))|((first|refine Ze rfl ?_ ?_|refine Zn rfl ?_ ?_);·first|omega|rfl|assumption|(simp only[lmT];omega))|refine Zbe (Zj hm rfl rfl ?_)|exact Zbe (Zf hm rfl rfl rfl (nbT rfl) rfl rfl))
|refine Zs rfl (tl hn rfl) ?_
|(refine Zc hn rfl rfl rfl ?_;first
|refine⟨_,Zq rfl rfl (by omega),?_⟩
|refine⟨_,Zb rfl rfl (by omega) (by assumption),?_⟩
|refine⟨_,Z7 rfl rfl (by omega),?_⟩
   ))
  all_goals exact Z3 (decide_eq_false (p:=Mm p) fun hN=>hF hN.1.frI).symm
def BlocksS(p:Prg):Prop:=∀(b:Nat) e,p.entries[b]?=some e→e<endA p b∧opA p (endA p b-1)=10∧∀(k:Int) x,e≤k→k<endA p b→p.code[k.toNat]?=some x→PlaceS p k e (endA p b) x
noncomputable instance (p:Prg):Decidable (BlocksS p):=Classical.propDecidable _
open AV (Mem Wn)
def Ji(n:Nat)(u:Nat→Int):List AV:=(List.range n).map fun j=>.int (u j)
def Pu(u:Nat→Int)(k:Nat)(b:Int):Nat→Int:=fun j=>if j=k then b else u j
theorem Ko(n:Nat)(u:Nat→Int):(Ji n u).length=n:=by simp[Ji]
theorem Lo(n:Nat)(u:Nat→Int):(Ji n u).length=n*1:=by simp[Ji]
theorem M7{n:Nat}{u:Nat→Int}{k:Nat}(h:k<n):(Ji n u)[k]?=some (.int (u k)):=by simp[Ji,h]
theorem intsA_set{n:Nat}{u:Nat→Int}{k:Nat}(b:Int):(Ji n u).set k (.int b)=Ji n (Pu u k b):=by
 apply List.ext_getElem?
 intro j
 rw[List.getElem?_set]
 by_cases hj:j<n
 ·rw[M7 hj,Ko]
  by_cases e:k=j
  ·subst e;rw[if_pos rfl,if_pos hj,M7 hj];simp[Pu]
  ·rw[if_neg e,M7 hj]
   have:¬j=k:=fun h=>e h.symm
   simp[Pu,this]
 ·have h1:(Ji n (Pu u k b))[j]?=none:=by rw[List.getElem?_eq_none];rw[Ko];omega
  have h2:(Ji n u)[j]?=none:=by rw[List.getElem?_eq_none];rw[Ko];omega
  rw[h1,h2]
  split
  ·split
   ·rename_i h;rw[Ko]at h;omega
   ·rfl
  ·rfl
theorem Zak(n:Nat):((List.replicate n (RV.c (Value.int .i64 0))).map AV.ro)=Ji n fun _=>0:=by
 apply List.ext_getElem?
 intro j
 by_cases hj:j<n
 ·rw[M7 hj];simp[hj]
 ·have h1:(Ji n fun _=>0)[j]?=none:=by rw[List.getElem?_eq_none];rw[Ko];omega
  rw[h1,List.getElem?_eq_none];simp;omega
attribute [irreducible] Ji
section
variable{P:Program}{C:Ctx}{ops:Array Oper}{rest:List Oper}{k:List Item}{R:Act→World→Prop}{env:Env}{σ:List Ob}{t:Nat}{ty:TypeId}{pos:String}{after:Array Edge}{gd:Option (Nat×Bool)}
theorem L9{tt:TypeId}{x:Operand}{i off n:Nat}{o:Ob}{u:Nat→Int}[T1 P tt](hx:ev env x = .obj i off)(ho:σ[i]?=some o)(hc:o.cs=Ji n u)(hlt:off<n):Pur P C ⟨some t,.load tt x,ty,pos,after,gd⟩ env σ (.int (u off)):=
 Yn hx ho (by rw[hc];exact M7 hlt)
theorem Ao{tt:TypeId}{x y:Operand}{i off n:Nat}{o:Ob}{u:Nat→Int}{b:Int}[T1 P tt](hx:ev env x = .obj i off)(hy:ev env y = .int b)(ho:σ[i]?=some o)(hc:o.cs=Ji n u)(hlt:off<n)
  (hk:RunsL P C ops rest k R ⟨env,σ.set i ⟨o.t,o.sz,Ji n (Pu u off b)⟩⟩):RunsL P C ops (⟨none,.store tt x y,ty,pos,after,none⟩::rest) k R ⟨env,σ⟩:=
 Sq hx hy rfl ho (by rw[hc,Ko];exact hlt) (by rw[hc,intsA_set];exact hk)
end
def Vz(l:List Int)(i:Int):Nat→Int
 |0 => -1
 |n+1=>match l[n]? with
  |some e=>if e≤i then(n:Int) else Vz l i n
  |none=>Vz l i n
def bo(p:Prg)(i:Int):Int:=Vz p.entries i p.entries.length
theorem K3{l:List Int}{i:Int}{n:Nat}{e:Int}(h:l[n]?=some e):Vz l i (n+1)=if e≤i then(n:Int) else Vz l i n:=by
 rw[Vz,h]
theorem Do(l:List Int)(i:Int):∀n, -1≤Vz l i n∧Vz l i n<n
 |0=>⟨Int.le_refl _,by simp[Vz]⟩
 |n+1=>by
  have:=Do l i n
  rw[Vz]
  split
  ·split<;>omega
  ·omega
theorem Dn{l:List Int}{i:Int}{j:Nat}{e:Int}(hj:l[j]?=some e)(he:e≤i):∀n,j<n→n≤l.length→(j:Int)≤Vz l i n
 |0,h,_=>by omega
 |n+1,h,hn=>by
  have hm:=Za6 (show n<l.length by omega)
  rw[K3 hm]
  split
  ·omega
  ·by_cases e':j=n
   ·subst e';rw[hj]at hm;injection hm with hm;omega
   ·exact Dn hj he n (by omega) (by omega)
theorem Oc{l:List Int}{i:Int}:∀(n:Nat) (m:Nat),n≤l.length→Vz l i n=m→∃e,l[m]?=some e∧e≤i∧m<n∧∀(m':Nat) e',m<m'→m'<n→l[m']?=some e'→i<e'
 |0,m,_,h=>by simp only[Vz]at h;omega
 |n+1,m,hn,h=>by
  have hm:=Za6 (show n<l.length by omega)
  rw[K3 hm]at h
  split at h
  ·obtain rfl:m=n:=by omega
   exact⟨_,hm,by assumption,by omega,fun m' e' h1 h2 _=>by omega⟩
  ·rename_i hgt
   obtain⟨e,h1,h2,h3,h4⟩:=Oc n m (by omega) h
   refine⟨e,h1,h2,by omega,fun m' e' k1 k2 k3=>?_⟩
   by_cases e'':m'=n
   ·subst e'';rw[k3]at hm;injection hm with hm;omega
   ·exact h4 m' e' k1 (by omega) k3
theorem Hb(p:Prg)(i:Int)(hl:p.entries.length≤maxLen):ACv Tryz.prog 81 [Tm p,.int i] (.int (bo p i)):=by
 have hlm:(p.entries.map fun z=>[RV.int z]).length=p.entries.length:=lmT ..
 unfold maxLen at hl
 refine Zz Tryz.func81 rfl _ Tryz.ntmps81 (by simp) fun C hn hm=>?_
 repeat' (first
|refine Zbg Zk hn rfl ?_
|refine Zbh ?_
|refine Za 30 rfl ?_
|(refine Zbf 30 rfl ?_;first|refine Zm rfl ?_|(refine Zd rfl ?_ ?_;·first|omega|rfl|assumption|(simp only[lmT];omega))|(refine Ze rfl ?_ ?_;·first|omega|rfl|assumption|(simp only[lmT];omega))|refine Zbe (Zj hm rfl rfl ?_)|exact Zbe (Zf hm rfl rfl rfl (nbT rfl) rfl rfl))
|refine Zs rfl (tl hn rfl) ?_
|(refine Zc hn rfl rfl rfl ?_;first
|refine⟨_,Zb rfl rfl (by omega) (by assumption),?_⟩
|refine⟨_,Z7 rfl rfl (by omega),?_⟩
   ))
 refine W5 30 rfl (fun n E s=>∃m:Nat,m=n∧m≤p.entries.length∧Vz p.entries i m=bo p i∧E=[(2,.obj 0 0),(1,.int i),(5,.int ((m:Int)-1))]∧s=[⟨32,0,[.ro (Qp p.code),.ro (Xe p.entries)]⟩]) p.entries.length [(2,.obj 0 0),(1,.int i),(5,.int ((p.entries.length:Int)-1))] ⟨rfl,rfl,by simp only[look];exact Vh (by rw[hlm]),trivial⟩ ⟨_,rfl,Nat.le_refl _,rfl,rfl,rfl⟩ ?_
 rintro n E s ⟨m,rfl,hm',hv,rfl,rfl⟩ ih
 by_cases h0:m=0
 ·subst h0
  repeat' (first
|refine Zbg Zk hn rfl ?_
|refine Zbh ?_
|refine Za 30 rfl ?_
|(refine Zbf 30 rfl ?_;first|refine Zm rfl ?_|(refine Zd rfl ?_ ?_;·first|omega|rfl|assumption|(simp only[lmT];omega))|(refine Ze rfl ?_ ?_;·first|omega|rfl|assumption|(simp only[lmT];omega))|refine Zbe (Zj hm rfl rfl ?_)|exact Zbe (Zf hm rfl rfl rfl (nbT rfl) rfl rfl))
|refine Zs rfl (tl hn rfl) ?_
|(refine Zc hn rfl rfl rfl ?_;first
|refine⟨_,Zb rfl rfl (by omega) (by assumption),?_⟩
|refine⟨_,Z7 rfl rfl (by omega),?_⟩
    ))
  exact Xu hv
 ·obtain⟨q,rfl⟩:∃q,m=q+1:=⟨m-1,by omega⟩
  obtain⟨e,he⟩:∃e,p.entries[(((q+1:Nat):Int)-1).toNat]?=some e:=⟨_,Za6 (by omega)⟩
  have he':p.entries[q]?=some e:=by rw[←he];congr 1;omega
  rw[K3 he']at hv
  by_cases hle:e≤i
  ·rw[if_pos hle]at hv
   repeat' (first
|refine Zbg Zk hn rfl ?_
|refine Zbh ?_
|refine Za 30 rfl ?_
|(refine Zbf 30 rfl ?_;first|refine Zm rfl ?_|(refine Zd rfl ?_ ?_;·first|omega|rfl|assumption|(simp only[lmT];omega))|(refine Ze rfl ?_ ?_;·first|omega|rfl|assumption|(simp only[lmT];omega))|refine Zbe (Zj hm rfl rfl ?_)|exact Zbe (Zf hm rfl rfl rfl (nbT rfl) rfl rfl))
|refine Zs rfl (tl hn rfl) ?_
|(refine Zc hn rfl rfl rfl ?_;first
|refine⟨_,Zb rfl rfl (by omega) (by assumption),?_⟩
|refine⟨_,Z7 rfl rfl (by omega),?_⟩
     ))
   exact Xu (by omega)
  ·rw[if_neg hle]at hv
   repeat' (first
|refine Zbg Zk hn rfl ?_
|refine Zbh ?_
|refine Za 30 rfl ?_
|(refine Zbf 30 rfl ?_;first|refine Zm rfl ?_|(refine Zd rfl ?_ ?_;·first|omega|rfl|assumption|(simp only[lmT];omega))|(refine Ze rfl ?_ ?_;·first|omega|rfl|assumption|(simp only[lmT];omega))|refine Zbe (Zj hm rfl rfl ?_)|exact Zbe (Zf hm rfl rfl rfl (nbT rfl) rfl rfl))
|refine Zs rfl (tl hn rfl) ?_
|(refine Zc hn rfl rfl rfl ?_;first
|refine⟨_,Zb rfl rfl (by omega) (by assumption),?_⟩
|refine⟨_,Z7 rfl rfl (by omega),?_⟩
     ))
   exact ih q [(2,.obj 0 0),(1,.int i),(5,.int ((q:Int)-1))] _ _ (by omega) ⟨q,rfl,by omega,hv,rfl,rfl⟩ ⟨rfl,rfl,by simp only[look];exact Vh (by omega),trivial⟩
def mx(a b:Int):Int:=if a<b then b else a
theorem max1_ac(a b:Int):ACv Tryz.prog 114 [.int a,.int b] (.bool (decide (b<a))):=by
 refine Zz Tryz.func114 rfl _ Tryz.ntmps114 (by simp) fun C hn hm=>?_
 repeat' (first
|refine Zbg Zk hn rfl ?_
|refine Zbh ?_
|refine Za 30 rfl ?_
|(refine Zbf 30 rfl ?_;first|refine Zbe (Zj hm rfl rfl ?_)|exact Zbe (Zf hm rfl rfl rfl (nbT rfl) rfl rfl))
  )
 exact Z3 rfl
theorem F4(a b:Int):ACA Tryz.prog 113 [.fn (.func 114) [] [],.ro (.int a),.ro (Xe [b])] (fun rr=>rr = .ro (.int (mx a b))):=by
 unfold mx
 have h1:=max1_ac b a
 refine O6 Tryz.func113 rfl _ Tryz.ntmps113 (by simp) fun C hn hm=>?_
 repeat' (first
|refine Zbg Zk hn rfl ?_
|refine Zbh ?_
|refine Za 30 rfl ?_
|(refine Zbf 30 rfl ?_;first|refine Zg rfl ?_|refine Zm rfl ?_|(refine Zd rfl ?_ ?_;·first|omega|rfl|assumption)|(refine Ze rfl ?_ ?_;·first|omega|rfl|assumption)|refine Zbe (Zj hm rfl rfl ?_)|exact Zbe (Zf hm rfl rfl rfl (nbT rfl) rfl rfl))
|(refine Zc hn rfl rfl rfl ?_;first
|refine⟨_,Zq rfl rfl (by omega),?_⟩
|refine⟨_,Zb rfl rfl (by omega) (by assumption),?_⟩
   ))
 refine Yh 30 rfl (fun j=>[(9,.ro (Xe [b])),(10,.int 1),(0,.fn (.func 114) [] []),(1,.int (if j=0 then a else if a<b then b else a)),(11,.int (j:Int))]) (fun _=>[]) (fun _=>True) 1 0 (Nat.zero_le _) trivial ⟨rfl,rfl,rfl,rfl,rfl,trivial⟩ rfl fun j hj _ next=>?_
 by_cases hlt:j<1
 ·obtain rfl:j=0:=by omega
  have hz:[b][((0:Nat):Int).toNat]?=some b:=rfl
  by_cases h:a<b
  ·repeat' (first
|refine Zbg Zk hn rfl ?_
|refine Zbh ?_
|refine Za 30 rfl ?_
|(refine Zc hn rfl rfl rfl ?_;first
|refine⟨_,Li rfl h1 (.cons .ro (.cons .ro .nil)),?_⟩)
|(refine Zbf 30 rfl ?_;first|refine Zg rfl ?_|refine Zm rfl ?_|(refine Zd rfl ?_ ?_;·first|omega|rfl|assumption)|(refine Ze rfl ?_ ?_;·first|omega|rfl|assumption)|refine Zbe (Zj hm rfl rfl ?_)|exact Zbe (Zf hm rfl rfl rfl (nbT rfl) rfl rfl))
|(refine Zc hn rfl rfl rfl ?_;first
|refine⟨_,Zq rfl rfl (by omega),?_⟩
|refine⟨_,Zb rfl rfl (by omega) (by assumption),?_⟩
    ))
   exact next _ _ ⟨rfl,rfl,rfl,by simp only[look];exact Vh (by simp[h]),rfl,trivial⟩ hlt trivial rfl
  ·repeat' (first
|refine Zbg Zk hn rfl ?_
|refine Zbh ?_
|refine Za 30 rfl ?_
|(refine Zc hn rfl rfl rfl ?_;first
|refine⟨_,Li rfl h1 (.cons .ro (.cons .ro .nil)),?_⟩)
|(refine Zbf 30 rfl ?_;first|refine Zg rfl ?_|refine Zm rfl ?_|(refine Zd rfl ?_ ?_;·first|omega|rfl|assumption)|(refine Ze rfl ?_ ?_;·first|omega|rfl|assumption)|refine Zbe (Zj hm rfl rfl ?_)|exact Zbe (Zf hm rfl rfl rfl (nbT rfl) rfl rfl))
|(refine Zc hn rfl rfl rfl ?_;first
|refine⟨_,Zq rfl rfl (by omega),?_⟩
|refine⟨_,Zb rfl rfl (by omega) (by assumption),?_⟩
    ))
   exact next _ _ ⟨rfl,rfl,rfl,by simp only[look];exact Vh (by simp[h]),rfl,trivial⟩ hlt trivial rfl
 ·obtain rfl:j=1:=by omega
  repeat' (first
|refine Zbg Zk hn rfl ?_
|refine Zbh ?_
|refine Za 30 rfl ?_
|(refine Zbf 30 rfl ?_;first|refine Zg rfl ?_|refine Zm rfl ?_|(refine Zd rfl ?_ ?_;·first|omega|rfl|assumption)|(refine Ze rfl ?_ ?_;·first|omega|rfl|assumption)|refine Zbe (Zj hm rfl rfl ?_)|exact Zbe (Zf hm rfl rfl rfl (nbT rfl) rfl rfl))
|(refine Zc hn rfl rfl rfl ?_;first
|refine⟨_,Zq rfl rfl (by omega),?_⟩
|refine⟨_,Zb rfl rfl (by omega) (by assumption),?_⟩
    ))
  exact Xu rfl
theorem Ha(a b:Int):ACv Tryz.prog 82 [.int a,.int b] (.int (mx a b)):=by
 have hp:=F4 a b
 refine Zz Tryz.func82 rfl _ Tryz.ntmps82 (by simp) fun C hn hm=>?_
 repeat' (first
|refine Zbg Zk hn rfl ?_
|refine Zbh ?_
|refine Za 30 rfl ?_
|(refine Zc hn rfl rfl rfl ?_;first
|refine⟨_,Sp hp (.cons (LendsA.fn .nil .nil) (.cons (Nm Lends.ro) (.cons (Nm Lends.ro) .nil))),?_⟩)
|(refine Zbf 30 rfl ?_;first|refine Zbe (Zj hm rfl rfl ?_)|exact Zbe (Zf hm rfl rfl rfl (nbT rfl) rfl rfl))
|(refine Zc hn rfl rfl rfl ?_;first
|refine⟨_,Zw rfl rfl rfl rfl rfl rfl,?_⟩))
 exact Xu rfl
def Wf(p:Prg):Nat→Nat→Int
 |0,_=>0
 |k+1,j=>if 2≤k∧opA p k=9∧bo p k=j then mx (Wf p k j) ((if opA p ((k:Int)-1)=7 then 2 else 1)+Wf p k (bo p (aA p k)).toNat) else Wf p k j
theorem U0(p:Prg):∀k j,0≤Wf p k j∧Wf p k j≤2*k
 |0,j=>⟨Int.le_refl _,by simp[Wf]⟩
 |k+1,j=>by
  have h1:=U0 p k j
  have h2:=U0 p k (bo p (aA p k)).toNat
  rw[Wf]
  unfold mx
  split
  ·split<;>split<;>omega
  ·omega
theorem needF_two(p:Prg):Wf p 2=fun _=>0:=by
 funext j
 simp[Wf]
theorem F8{p:Prg}{k:Nat}(h:opA p k≠9):Wf p (k+1)=Wf p k:=by
 funext j
 rw[Wf,if_neg fun h'=>h h'.2.1]
theorem F9{p:Prg}{k b:Nat}(h2:2≤k)(h:opA p k=9)(hb:bo p k=b):Wf p (k+1)=Pu (Wf p k) b (mx (Wf p k b) ((if opA p ((k:Int)-1)=7 then 2 else 1)+Wf p k (bo p (aA p k)).toNat)):=by
 funext j
 rw[Wf]
 unfold Pu
 by_cases e:j=b
 ·subst e;rw[if_pos ⟨h2,h,hb⟩,if_pos rfl]
 ·rw[if_neg fun h'=>e (by have:=h'.2.2;omega),if_neg e]
section
variable{p:Prg}
theorem bo_block(hF:FrameP p){b:Nat}{e k:Int}(he:p.entries[b]?=some e)(h1:e≤k)(h2:k<endA p b):bo p k=b:=by
 have hb:=(Za5.1 he).1
 have hge:=Dn he h1 p.entries.length hb (Nat.le_refl _)
 have hbd:=Do p.entries k p.entries.length
 obtain⟨m,hm⟩:∃m:Nat,Vz p.entries k p.entries.length=m:=⟨(Vz p.entries k p.entries.length).toNat,by omega⟩
 obtain⟨e',g1,g2,g3,_⟩:=Oc _ m (Nat.le_refl _) hm
 show Vz p.entries k p.entries.length=b
 rw[hm]
 refine Classical.byContradiction fun hne=>?_
 have hbm:b<m:=by omega
 have hn:b+1<p.entries.length:=by omega
 have hz:=Za6 hn
 rw[Kt hz]at h2
 by_cases e2:b+1=m
 ·subst e2;rw[hz]at g1;injection g1 with g1;omega
 ·have:=hF.mono m (b+1) _ e' (by omega) hz g1;omega
theorem call_bo(hS:Mm p){b:Nat}{e k:Int}{x:Ins}(he:p.entries[b]?=some e)(h1:e≤k)(h2:k<endA p b)(hx:p.code[k.toNat]?=some x)(ho:x.op=9):0≤bo p x.a∧bo p x.a<p.entries.length:=by
 have hP:=((hS.2 b e he).2 k x h1 h2 hx).2.1 ho
 obtain⟨j,hj⟩:=List.getElem?_of_mem hP
 rw[List.getElem?_take]at hj
 split at hj
 ·have hb:=(Za5.1 hj).1
  have:=Dn hj (Int.le_refl x.a) p.entries.length hb (Nat.le_refl _)
  exact⟨by unfold bo;omega,(Do _ _ _).2⟩
 ·simp at hj
end
def need(p:Prg):Int:=1+Wf p p.code.length (p.entries.length-1)
set_option maxHeartbeats 16000000 in
theorem Bo(p:Prg)(hB:PrgB p)(hS:Mm p):ACv Tryz.prog 49 [Tm p] (.int (need p)):=by
 have hlm:(p.entries.map fun z=>[RV.int z]).length=p.entries.length:=lmT ..
 have hlc:(p.code.map Ul).length=p.code.length:=lmT ..
 have hF:=hS.1
 have h700:=hF.len
 have hb2:=hB.ents
 have hel:p.entries.length≤maxLen:=by unfold maxLen;omega
 have hne:0<p.entries.length:=(Za5.1 hF.first).1
 refine Zz Tryz.func49 rfl _ Tryz.ntmps49 (by simp) fun C hn hm=>?_
 repeat' (first
|refine Zbg Zk hn rfl ?_
|refine Zbh ?_
|refine Za 30 rfl ?_
|refine M2 rfl rfl rfl rfl (by simp only[lmT];omega) (by unfold maxLen;simp only[lmT];omega) (tl hn rfl) ?_
|(refine Zbf 30 rfl ?_;first|((first|refine Zd rfl ?_ ?_|refine Zp rfl ?_ ?_);·first|omega|rfl|assumption|(simp only[lmT];omega))|((first|refine Ze rfl ?_ ?_|refine Zn rfl ?_ ?_);·first|omega|rfl|assumption|(simp only[lmT];omega))|refine Zbe (Zj hm rfl rfl ?_)|exact Zbe (Zf hm rfl rfl rfl (nbT rfl) rfl rfl))
|refine Zs rfl (tl hn rfl) ?_
|refine Zbi Zk hn rfl rfl ?_
|refine Zbj ?_
|refine Zo 30 Yc hn rfl (by kernel_rfl) rfl ?_
|((first|refine Zc hn rfl rfl rfl ?_|refine Zl rfl rfl ?_);first
|refine⟨_,Zq rfl rfl (by omega),?_⟩
|refine⟨_,Zb rfl rfl (by omega) (by assumption),?_⟩
|refine⟨_,Z7 rfl rfl (by omega),?_⟩))
 refine Yh 30 rfl (fun b=>[(1,.obj 0 0),(3,.own 1),(13,.int (p.entries.length:Int)),(14,.int (b:Int))]) (fun b=>[⟨32,0,[.ro (Qp p.code),.ro (Xe p.entries)]⟩,⟨3,1,Ji p.entries.length (Wf p (endA p ((b:Int)-1)).toNat)⟩]) (fun _=>True) p.entries.length 0 (Nat.zero_le _) trivial ⟨rfl,rfl,by simp only[look];exact congrArg (fun z:Nat=>AV.int (z:Int)) hlm,rfl,trivial⟩ (by
  have e0:endA p (((0:Nat):Int)-1)=2:=by
   unfold endA
   rw[show(((0:Nat):Int)-1+1).toNat=0 by rfl,hF.first]
  rw[e0,show(2:Int).toNat=2 by rfl,needF_two,←Zak]
  simp only[lmT]
  rfl) fun b hb _ next2=>?_
 by_cases hlt2:b<p.entries.length
 ·obtain⟨e,he⟩:∃e,p.entries[(b:Int).toNat]?=some e:=⟨_,Za6 hlt2⟩
  have he':p.entries[b]?=some e:=he
  have hend:=Mk p b (by omega) (by omega) hel
  have hlt:=hF.lt_end he'
  have hle:=hF.end_le b
  have h2:=hF.two he'
  have est:endA p ((b:Int)-1)=e:=by
   unfold endA
   rw[show((b:Int)-1+1).toNat=b by omega,he']
  rw[est]
  repeat' (first
|refine Zbg Zk hn rfl ?_
|refine Zbh ?_
|refine Za 30 rfl ?_
|(refine Zbf 30 rfl ?_;first|((first|refine Zd rfl ?_ ?_|refine Zp rfl ?_ ?_);·first|omega|rfl|assumption|(simp only[lmT];omega))|((first|refine Ze rfl ?_ ?_|refine Zn rfl ?_ ?_);·first|omega|rfl|assumption|(simp only[lmT];omega))|refine Zbe (Zj hm rfl rfl ?_)|exact Zbe (Zf hm rfl rfl rfl (nbT rfl) rfl rfl))
|refine Zs rfl (tl hn rfl) ?_
|refine Zbi Zk hn rfl rfl ?_
|refine Zbj ?_
|refine Zo 30 Yc hn rfl (by kernel_rfl) rfl ?_
|((first|refine Zc hn rfl rfl rfl ?_|refine Zl rfl rfl ?_);first
|refine⟨_,Zq rfl rfl (by omega),?_⟩
|refine⟨_,Zb rfl rfl (by omega) (by assumption),?_⟩
|refine⟨_,Z7 rfl rfl (by omega),?_⟩))
  refine Yh 30 rfl (fun m=>[(1,.obj 0 0),(3,.own 1),(13,.int (p.entries.length:Int)),(14,.int (b:Int)),(4,.int (b:Int)),(5,.int (e+m))]) (fun m=>[⟨32,0,[.ro (Qp p.code),.ro (Xe p.entries)]⟩,⟨3,1,Ji p.entries.length (Wf p (e+m).toNat)⟩]) (fun _=>True) (endA p b-e).toNat 0 (Nat.zero_le _) trivial ⟨rfl,rfl,rfl,rfl,rfl,by simp only[look];exact Vh (by omega),trivial⟩ (by rw[show e+((0:Nat):Int)=e by omega]) fun m hm' _ next3=>?_
  by_cases hlt3:m<(endA p b-e).toNat
  ·obtain⟨x,hx⟩:∃x,p.code[(e+m).toNat]?=some x:=⟨_,Za6 (by omega)⟩
   obtain⟨y,hy⟩:∃y,p.code[(e+m-1).toNat]?=some y:=⟨_,Za6 (by omega)⟩
   have ho:opA p (e+m)=x.op:=Dd (by omega) hx
   have hoy:opA p (e+m-1)=y.op:=Dd (by omega) hy
   have ha:aA p (e+m)=x.a:=Rz (by omega) hx
   have hnx:e+((m+1:Nat):Int)=e+m+1:=by omega
   have hnt:(e+((m+1:Nat):Int)).toNat=(e+m).toNat+1:=by omega
   have hkk:(((e+m).toNat:Nat):Int)=e+m:=by omega
   by_cases h9:x.op=9
   ·have hbo:=bo_block hF he' (show e≤e+m by omega) (by omega)
    have hcb:=call_bo hS he' (show e≤e+m by omega) (by omega) hx h9
    have hbl:=Hb p x.a hel
    have hbd:=U0 p (e+m).toNat (bo p x.a).toNat
    have hmx:=fun v=>Ha (Wf p (e+m).toNat b) v
    have hcall:=F9 (p:=p) (k:=(e+m).toNat) (b:=b) (by omega) (by rw[hkk,ho,h9]) (by rw[hkk];exact hbo)
    rw[hkk,hoy,ha]at hcall
    have ib:(b:Int).toNat*1=b:=by omega
    by_cases h7:y.op=7
    ·rw[if_pos h7]at hcall
     have e1:1+Wf p (e+m).toNat (bo p x.a).toNat+1=2+Wf p (e+m).toNat (bo p x.a).toNat:=by omega
     repeat' (first
|((first|refine Zc hn rfl rfl rfl ?_|refine Zl rfl rfl ?_);first
|refine⟨_,L9 (tt:=3) (n:=p.entries.length) rfl rfl rfl (by omega),?_⟩)
|refine Zbg Zk hn rfl ?_
|refine Zbh ?_
|refine Za 30 rfl ?_
|refine Ao (n:=p.entries.length) rfl rfl rfl rfl (by omega) ?_
|((first|refine Zc hn rfl rfl rfl ?_|refine Zl rfl rfl ?_);first
|refine⟨_,Zi hend rfl,?_⟩
|refine⟨_,Zi hbl rfl,?_⟩
|refine⟨_,Zi (Ha _ _) rfl,?_⟩
|refine⟨_,Yk (sz:=1) (n:=p.entries.length) rfl rfl rfl rfl (Lo _ _) (by omega) (by omega),?_⟩
|refine⟨_,Zq rfl rfl (by have:=U0 p (e+m).toNat ((bo p x.a).toNat*1);omega),?_⟩)
|(refine Zbf 30 rfl ?_;first|((first|refine Zd rfl ?_ ?_|refine Zp rfl ?_ ?_);·first|omega|rfl|assumption|(simp only[lmT];omega))|((first|refine Ze rfl ?_ ?_|refine Zn rfl ?_ ?_);·first|omega|rfl|assumption|(simp only[lmT];omega))|refine Zbe (Zj hm rfl rfl ?_)|exact Zbe (Zf hm rfl rfl rfl (nbT rfl) rfl rfl))
|refine Zs rfl (tl hn rfl) ?_
|refine Zbi Zk hn rfl rfl ?_
|refine Zbj ?_
|refine Zo 30 Yc hn rfl (by kernel_rfl) rfl ?_
|((first|refine Zc hn rfl rfl rfl ?_|refine Zl rfl rfl ?_);first
|refine⟨_,Zq rfl rfl (by omega),?_⟩
|refine⟨_,Zb rfl rfl (by omega) (by assumption),?_⟩
|refine⟨_,Z7 rfl rfl (by omega),?_⟩))
     refine next3 _ _ ⟨rfl,rfl,rfl,rfl,rfl,by simp only[look];exact Vh (by omega),trivial⟩ hlt3 trivial ?_
     rw[hnt,hcall]
     simp only[ib,Nat.mul_one,e1]
     rfl
    ·rw[if_neg h7]at hcall
     repeat' (first
|((first|refine Zc hn rfl rfl rfl ?_|refine Zl rfl rfl ?_);first
|refine⟨_,L9 (tt:=3) (n:=p.entries.length) rfl rfl rfl (by omega),?_⟩)
|refine Zbg Zk hn rfl ?_
|refine Zbh ?_
|refine Za 30 rfl ?_
|refine Ao (n:=p.entries.length) rfl rfl rfl rfl (by omega) ?_
|((first|refine Zc hn rfl rfl rfl ?_|refine Zl rfl rfl ?_);first
|refine⟨_,Zi hend rfl,?_⟩
|refine⟨_,Zi hbl rfl,?_⟩
|refine⟨_,Zi (Ha _ _) rfl,?_⟩
|refine⟨_,Yk (sz:=1) (n:=p.entries.length) rfl rfl rfl rfl (Lo _ _) (by omega) (by omega),?_⟩
|refine⟨_,Zq rfl rfl (by have:=U0 p (e+m).toNat ((bo p x.a).toNat*1);omega),?_⟩)
|(refine Zbf 30 rfl ?_;first|((first|refine Zd rfl ?_ ?_|refine Zp rfl ?_ ?_);·first|omega|rfl|assumption|(simp only[lmT];omega))|((first|refine Ze rfl ?_ ?_|refine Zn rfl ?_ ?_);·first|omega|rfl|assumption|(simp only[lmT];omega))|refine Zbe (Zj hm rfl rfl ?_)|exact Zbe (Zf hm rfl rfl rfl (nbT rfl) rfl rfl))
|refine Zs rfl (tl hn rfl) ?_
|refine Zbi Zk hn rfl rfl ?_
|refine Zbj ?_
|refine Zo 30 Yc hn rfl (by kernel_rfl) rfl ?_
|((first|refine Zc hn rfl rfl rfl ?_|refine Zl rfl rfl ?_);first
|refine⟨_,Zq rfl rfl (by omega),?_⟩
|refine⟨_,Zb rfl rfl (by omega) (by assumption),?_⟩
|refine⟨_,Z7 rfl rfl (by omega),?_⟩))
     refine next3 _ _ ⟨rfl,rfl,rfl,rfl,rfl,by simp only[look];exact Vh (by omega),trivial⟩ hlt3 trivial ?_
     rw[hnt,hcall]
     simp only[ib,Nat.mul_one]
     rfl
   ·have hsk:=F8 (p:=p) (k:=(e+m).toNat) (by rw[hkk,ho];exact h9)
    repeat' (first
|refine Zbg Zk hn rfl ?_
|refine Zbh ?_
|refine Za 30 rfl ?_
|((first|refine Zc hn rfl rfl rfl ?_|refine Zl rfl rfl ?_);first
|refine⟨_,Zi hend rfl,?_⟩)
|(refine Zbf 30 rfl ?_;first|((first|refine Zd rfl ?_ ?_|refine Zp rfl ?_ ?_);·first|omega|rfl|assumption|(simp only[lmT];omega))|((first|refine Ze rfl ?_ ?_|refine Zn rfl ?_ ?_);·first|omega|rfl|assumption|(simp only[lmT];omega))|refine Zbe (Zj hm rfl rfl ?_)|exact Zbe (Zf hm rfl rfl rfl (nbT rfl) rfl rfl))
|refine Zs rfl (tl hn rfl) ?_
|refine Zbi Zk hn rfl rfl ?_
|refine Zbj ?_
|refine Zo 30 Yc hn rfl (by kernel_rfl) rfl ?_
|((first|refine Zc hn rfl rfl rfl ?_|refine Zl rfl rfl ?_);first
|refine⟨_,Zq rfl rfl (by omega),?_⟩
|refine⟨_,Zb rfl rfl (by omega) (by assumption),?_⟩
|refine⟨_,Z7 rfl rfl (by omega),?_⟩))
    refine next3 _ _ ⟨rfl,rfl,rfl,rfl,rfl,by simp only[look];exact Vh (by omega),trivial⟩ hlt3 trivial ?_
    rw[hnt,hsk]
  ·repeat' (first
|refine Zbg Zk hn rfl ?_
|refine Zbh ?_
|refine Za 30 rfl ?_
|((first|refine Zc hn rfl rfl rfl ?_|refine Zl rfl rfl ?_);first
|refine⟨_,Zi hend rfl,?_⟩)
|(refine Zbf 30 rfl ?_;first|((first|refine Zd rfl ?_ ?_|refine Zp rfl ?_ ?_);·first|omega|rfl|assumption|(simp only[lmT];omega))|((first|refine Ze rfl ?_ ?_|refine Zn rfl ?_ ?_);·first|omega|rfl|assumption|(simp only[lmT];omega))|refine Zbe (Zj hm rfl rfl ?_)|exact Zbe (Zf hm rfl rfl rfl (nbT rfl) rfl rfl))
|refine Zs rfl (tl hn rfl) ?_
|refine Zbi Zk hn rfl rfl ?_
|refine Zbj ?_
|refine Zo 30 Yc hn rfl (by kernel_rfl) rfl ?_
|((first|refine Zc hn rfl rfl rfl ?_|refine Zl rfl rfl ?_);first
|refine⟨_,Zq rfl rfl (by omega),?_⟩
|refine⟨_,Zb rfl rfl (by omega) (by assumption),?_⟩
|refine⟨_,Z7 rfl rfl (by omega),?_⟩))
   refine next2 _ _ ⟨rfl,rfl,rfl,rfl,trivial⟩ hlt2 trivial ?_
   rw[show(((b+1:Nat):Int)-1)=b by omega,show endA p b=e+m by omega]
 ·obtain rfl:b=p.entries.length:=by omega
  have est:endA p ((p.entries.length:Int)-1)=p.code.length:=by
   unfold endA
   rw[show((p.entries.length:Int)-1+1).toNat=p.entries.length by omega,List.getElem?_eq_none (Nat.le_refl _)]
  rw[est,Int.toNat_natCast]
  have hbd:=U0 p p.code.length (p.entries.length-1)
  have il:((p.entries.length:Int)-1).toNat*1=p.entries.length-1:=by omega
  have hix:∀i,((p.entries.length:Int)-1).toNat*1=i→Wf p p.code.length i=Wf p p.code.length (p.entries.length-1):=fun i hi=>by rw[←hi,il]
  have hbd2:=hix _ rfl
  repeat' (first
|((first|refine Zc hn rfl rfl rfl ?_|refine Zl rfl rfl ?_);first
|refine⟨_,L9 (tt:=3) (n:=p.entries.length) rfl rfl rfl (by omega),?_⟩)
|refine Zbg Zk hn rfl ?_
|refine Zbh ?_
|refine Za 30 rfl ?_
|((first|refine Zc hn rfl rfl rfl ?_|refine Zl rfl rfl ?_);first
|refine⟨_,Yo (n:=p.entries.length) rfl rfl (Lo _ _),?_⟩
|refine⟨_,Yk (sz:=1) (n:=p.entries.length) rfl rfl rfl rfl (Lo _ _) (by omega) (by omega),?_⟩)
|(refine Zbf 30 rfl ?_;first|((first|refine Zd rfl ?_ ?_|refine Zp rfl ?_ ?_);·first|omega|rfl|assumption|(simp only[lmT];omega))|((first|refine Ze rfl ?_ ?_|refine Zn rfl ?_ ?_);·first|omega|rfl|assumption|(simp only[lmT];omega))|refine Zbe (Zj hm rfl rfl ?_)|exact Zbe (Zf hm rfl rfl rfl (nbT rfl) rfl rfl))
|refine Zs rfl (tl hn rfl) ?_
|refine Zbi Zk hn rfl rfl ?_
|refine Zbj ?_
|refine Zo 30 Yc hn rfl (by kernel_rfl) rfl ?_
|((first|refine Zc hn rfl rfl rfl ?_|refine Zl rfl rfl ?_);first
|refine⟨_,Zq rfl rfl (by omega),?_⟩
|refine⟨_,Zb rfl rfl (by omega) (by assumption),?_⟩
|refine⟨_,Z7 rfl rfl (by omega),?_⟩))
  exact Xu (by rw[hbd2];rfl)
theorem Je(p:Prg)(hB:PrgB p):ACv Tryz.prog 21 [Tm p] (.bool (decide (Mm p∧need p≤60))):=by
 have h1:=M9 p hB
 refine Zz Tryz.func21 rfl _ Tryz.ntmps21 (by simp) fun C hn hm=>?_
 by_cases hS:Mm p
 ·have h2:=Bo p hB hS
  repeat' (first
|refine Zbg Zk hn rfl ?_
|refine Zbh ?_
|refine Za 30 rfl ?_
|(refine Zc hn rfl rfl rfl ?_;first
|refine⟨_,Zi h1 rfl,?_⟩
|refine⟨_,Zi h2 rfl,?_⟩)
|(refine Zbf 30 rfl ?_;first|refine Zbe (Zj hm rfl rfl ?_)|exact Zbe (Zf hm rfl rfl rfl (nbT rfl) rfl rfl))
|refine Zs rfl (tl hn rfl) ?_
|(refine Zh rfl rfl rfl ?_ ?_<;>intro h<;>try(exfalso;first|omega|contradiction)))
  all_goals exact Z3 (by rw[Bool.eq_iff_iff];simp[*])
 ·repeat' (first
|refine Zbg Zk hn rfl ?_
|refine Zbh ?_
|refine Za 30 rfl ?_
|(refine Zc hn rfl rfl rfl ?_;first
|refine⟨_,Zi h1 rfl,?_⟩)
|(refine Zbf 30 rfl ?_;first|refine Zbe (Zj hm rfl rfl ?_)|exact Zbe (Zf hm rfl rfl rfl (nbT rfl) rfl rfl))
|refine Zs rfl (tl hn rfl) ?_
|(refine Zh rfl rfl rfl ?_ ?_<;>intro h<;>try(exfalso;first|omega|contradiction)))
  all_goals exact Z3 (decide_eq_false (p:=Mm p∧need p≤60) fun h=>hS h.1).symm
theorem Fy{d:Des}(hD:DrawD d){j:Nat}{x:Rul}(hx:d[j]?=some x)(s:Int)(en:List Int):1≤(Xh x s en).length∧(Xh x s en).length≤12:=by
 have hlen:=hD.lens hx
 have hc:=Qr x.kids en x.tags.length
 unfold Xh Y7
 rw[Za7,Zbb]
 repeat' split
 all_goals simp only[Za8,Za9,lmT,Za7,Vg]
 all_goals omega
theorem Fl(d:Des):∀n b:Nat,b≤n→(cdE d n).take b=cdE d b
 |0,b,h=>by
  obtain rfl:b=0:=by omega
  simp[cdE]
 |n+1,b,h=>by
  by_cases e:b=n+1
  ·subst e;rw[List.take_of_length_le (by rw[Ur];exact Nat.le_refl _)]
  ·rw[cdE,List.take_append_of_le_length (by rw[Ur];omega)]
   exact Fl d n b (by omega)
theorem Bc{d:Des}{n:Nat}{a:Int}(h:a∈cdE d n):∃j,j<n∧a=(stA d j:Int):=by
 obtain⟨j,hj⟩:=List.getElem?_of_mem h
 have hl:=(Za5.1 hj).1
 rw[Ur]at hl
 rw[O3 d n j hl]at hj
 injection hj with hj
 exact⟨j,hl,hj.symm⟩
theorem Ua(d:Des):∀m j:Nat,j≤m→stA d j≤stA d m
 |0,j,h=>by
  obtain rfl:j=0:=by omega
  exact Nat.le_refl _
 |m+1,j,h=>by
  by_cases e:j=m+1
  ·subst e;exact Nat.le_refl _
  ·have:=Ua d m j (by omega)
   rw[Vl];omega
theorem Eg(d:Des):∀(n i:Nat),2≤i→i<stA d n→∃j,j<n∧stA d j≤i∧i<stA d (j+1)
 |0,i,h,hi=>by simp[stA,cdT]at hi;omega
 |n+1,i,h,hi=>by
  by_cases e:i<stA d n
  ·obtain⟨j,h1,h2,h3⟩:=Eg d n i h e
   exact⟨j,by omega,h2,h3⟩
  ·exact⟨n,by omega,by omega,hi⟩
section
variable{d:Des}(hD:DrawD d)
include hD
theorem J3{j:Nat}(hj:j<d.length):1≤(blk d j).length∧(blk d j).length≤12:=by
 have hx:d[j]?=some _:=Za6 hj
 rw[Wr hD hx]
 exact Fy hD hx _ _
theorem Ex:∀j:Nat,j≤d.length→stA d j≤2+12*j
 |0,_=>by simp[stA,cdT]
 |j+1,h=>by
  have h1:=Ex j (by omega)
  have h2:=J3 hD (j:=j) (by omega)
  rw[Vl];omega
theorem Ti:(cdF d).code.length≤74:=by
 have h1:=Ex hD d.length (Nat.le_refl _)
 have h2:=hD.most
 rw[Qs hD];omega
theorem Vs{j i:Nat}{y:Ins}(hj:j<d.length)(hy:(blk d j)[i]?=some y):Loc (stA d j:Int) (cdE d j) (blk d j) i y:=by
 have hx:d[j]?=some _:=Za6 hj
 have hs:=Ex hD j (by omega)
 have hm:=hD.most
 rw[Wr hD hx]at hy ⊢
 exact rule_loc hD hx _ (by omega) _ (Ur d j) i y hy
theorem Qh{j i:Nat}{y:Ins}(hj:j<d.length)(hy:(blk d j)[i]?=some y)(k:Int)(hk:k=(stA d j:Int)+(i:Int)):(cdF d).code[k.toNat]?=some y∧opA (cdF d) k=y.op∧aA (cdF d) k=y.a:=by
 have hi:=(Za5.1 hy).1
 have h1:(cdF d).code[k.toNat]?=some y:=by
  rw[show k.toNat=stA d j+i by omega,cdF_at hD hj hi];exact hy
 exact⟨h1,Dd (by omega) h1,Rz (by omega) h1⟩
theorem Dk{j i:Nat}{y:Ins}(hj:j<d.length)(hy:(blk d j)[i]?=some y)(h7:y.op=7):Jh (cdF d) ((stA d j:Int)+(i:Int))∧(∃w,(blk d j)[i+2]?=some w∧w.op=8∧w.a=(stA d j:Int)+(i:Int)):=by
 obtain⟨m,y6,z,w,rfl,h6,h6o,hz,hzo,hw,hwo,hwa,hya,_⟩:=(Vs hD hj hy).loop h7
 obtain⟨_,b1,b2⟩:=Qh hD hj hy ((stA d j:Int)+((m+1:Nat):Int)) rfl
 obtain⟨_,b3,_⟩:=Qh hD hj h6 ((stA d j:Int)+((m+1:Nat):Int)-1) (by omega)
 obtain⟨_,b4,_⟩:=Qh hD hj hz ((stA d j:Int)+((m+1:Nat):Int)+1) (by omega)
 obtain⟨_,b5,b6⟩:=Qh hD hj hw ((stA d j:Int)+((m+1:Nat):Int)+2) (by omega)
 exact⟨⟨by omega,by omega,by omega,by omega,by omega,by omega⟩,w,hw,hwo,hwa⟩
theorem mark_at{j i:Nat}{y:Ins}(hj:j<d.length)(hy:(blk d j)[i]?=some y)(h14:y.op=14):Gf (cdF d) ((stA d j:Int)+(i:Int)):=by
 obtain⟨z,w,hz,hzo,hw,hwo⟩:=(Vs hD hj hy).mark h14
 obtain⟨_,b1,_⟩:=Qh hD hj hy ((stA d j:Int)+(i:Int)) rfl
 obtain⟨_,b2,_⟩:=Qh hD hj hz ((stA d j:Int)+(i:Int)+1) (by omega)
 obtain⟨_,b3,_⟩:=Qh hD hj hw ((stA d j:Int)+(i:Int)+2) (by omega)
 exact⟨by omega,by omega,by omega⟩
theorem last_ret{j:Nat}(hj:j<d.length):opA (cdF d) (endA (cdF d) j-1)=10:=by
 have hx:d[j]?=some _:=Za6 hj
 have hb:=J3 hD hj
 have hlast:(blk d j)[(blk d j).length-1]?=some ⟨10,0,0⟩:=by
  rw[Wr hD hx]
  unfold Xh
  rw[Za7,Zbb,Nat.add_sub_cancel,Zbd (Nat.le_refl _),Nat.sub_self];rfl
 have he:=end_at hD hj
 exact(Qh hD hj hlast (endA (cdF d) j-1) (by omega)).2.1
theorem Ab:FrameP (cdF d) where
 len:=by have:=Ti hD;omega
 first:=by rw[Mj hD hD.pos];simp[stA,cdT]
 op0:=by refine Dd (x:=⟨9,(stA d (d.length-1):Int),0⟩) (Int.le_refl _) ?_;rw[Uf hD];rfl
 op1:=by refine Dd (x:=⟨17,0,0⟩) (by omega) ?_;rw[Uf hD];rfl
 last:=by
  have hp:=hD.pos
  rw[K7 hD,Mj hD (by omega)]
  congr 1
  refine(Rz (x:=⟨9,(stA d (d.length-1):Int),0⟩) (Int.le_refl _) ?_).symm
  rw[Uf hD];rfl
 ins:=fun i hi=>by
  have hp:=hD.pos
  have hcl:=Qs hD
  have hb0:=J3 hD (j:=d.length-1) (by omega)
  have hn:=Vl d (d.length-1)
  rw[show d.length-1+1=d.length by omega]at hn
  have h2:=Ua d (d.length-1) 0 (by omega)
  have h20:stA d 0=2:=by simp[stA,cdT]
  match i,hi with
  |0,hi=>
   refine(U8 (x:=⟨9,(stA d (d.length-1):Int),0⟩) (by rw[Uf hD];rfl)).2 ⟨Int.le_refl _,?_⟩
   refine⟨by simp[Tv,InR],fun _=>⟨by simp only;omega,by simp only;omega⟩,fun e=>by simp at e,fun _=>?_⟩
   show(0:Int)+1<_;omega
  |1,hi=>
   refine(U8 (x:=⟨17,0,0⟩) (by rw[Uf hD];rfl)).2 ⟨by omega,?_⟩
   exact⟨by simp[Tv,InR],fun e=>by simp at e,fun e=>by simp at e,fun e=>by simp[Goes]at e⟩
  |i+2,hi=>
   obtain⟨j,hj,h3,h4⟩:=Eg d d.length (i+2) (by omega) (by omega)
   obtain⟨t,ht⟩:∃t,i+2=stA d j+t:=⟨i+2-stA d j,by omega⟩
   have hnx:=Vl d j
   obtain⟨y,hy⟩:∃y,(blk d j)[t]?=some y:=⟨_,Za6 (by omega)⟩
   have hL:=Vs hD hj hy
   have hc:=(Qh hD hj hy ((i+2:Nat):Int) (by omega)).1
   have hjn:=Ua d d.length (j+1) (by omega)
   refine(U8 hc).2 ⟨by omega,hL.ok,fun h=>?_,fun h=>?_,fun h=>?_⟩
   ·rcases h with h|h|h|h
    ·obtain⟨m,y6,z,w,rfl,h6,h6o,hz,hzo,hw,hwo,hwa,hya,hlt⟩:=hL.loop h
     omega
    ·obtain⟨m,y7,rfl,h7,h7o⟩:=hL.jump h
     obtain⟨_,w,hw,_,hwa⟩:=Dk hD hj h7 h7o
     rw[hy]at hw;injection hw with hw;subst hw
     omega
    ·obtain⟨j',hj',e⟩:=Bc (hL.call h)
     have:=Ua d j j' (by omega)
     omega
    ·have:=hL.flag h;omega
   ·have:=hL.tag h;omega
   ·have:=hL.goes h;omega
 rise:=fun i y z hy hz=>by
  have hi:=(Za5.1 hz).1
  rw[K7 hD]at hi
  rw[Mj hD (by omega)]at hy
  rw[Mj hD hi]at hz
  injection hy with hy;injection hz with hz
  have h1:=Vl d i
  have h2:=J3 hD (j:=i) (by omega)
  omega
theorem safe_cdF:Mm (cdF d):=by
 refine⟨Ab hD,fun b e he=>?_⟩
 have hb:=(Za5.1 he).1
 rw[K7 hD]at hb
 rw[Mj hD hb]at he
 injection he with he
 refine⟨last_ret hD hb,fun k x h1 h2 hx=>?_⟩
 have hend:=end_at hD hb
 obtain⟨t,ht⟩:∃t:Nat,k=(stA d b:Int)+(t:Int):=⟨(k-stA d b).toNat,by omega⟩
 obtain⟨y,hy⟩:∃y,(blk d b)[t]?=some y:=⟨_,Za6 (by omega)⟩
 obtain⟨hc,ho,ha⟩:=Qh hD hb hy k ht
 rw[hc]at hx;injection hx with hx;subst hx
 have hL:=Vs hD hb hy
 refine⟨hL.no17,fun h=>?_,fun h=>?_,fun h=>?_,fun h=>?_,fun h=>?_,fun h=>?_,fun h=>?_,fun h=>?_⟩
 ·rw[Nh hD,Fl d _ _ (by omega)];exact hL.call h
 ·obtain⟨m,y6,z,w,rfl,h6,h6o,hz,hzo,hw,hwo,hwa,hya,hlt⟩:=hL.loop h
  rw[ht]
  exact⟨(Dk hD hb hy h).1,by omega,by omega⟩
 ·obtain⟨m,y7,rfl,h7,h7o⟩:=hL.jump h
  have:=(Dk hD hb h7 h7o).1
  rwa [show k-2=(stA d b:Int)+(m:Int) by omega]
 ·obtain⟨y7,h7,h7o⟩:=hL.push h
  have:=(Dk hD hb h7 h7o).1
  rwa [show k+1=(stA d b:Int)+((t+1:Nat):Int) by omega]
 ·have:=hL.flag h;omega
 ·have:=hL.tag h;omega
 ·rw[ht];exact mark_at hD hb hy h
 ·obtain⟨m,y14,rfl,h14,h14o⟩:=hL.sum h
  have:=mark_at hD hb h14 h14o
  rwa [show k-2=(stA d b:Int)+(m:Int) by omega]
theorem bo_at{j:Nat}(hj:j<d.length){i:Int}(h1:(stA d j:Int)≤i)(h2:i<(stA d (j+1):Int)):bo (cdF d) i=j:=by
 unfold bo
 rw[K7 hD]
 suffices h:∀m,j<m→m≤d.length→Vz (cdF d).entries i m=j from h _ hj (Nat.le_refl _)
 intro m
 induction m with
 |zero=>omega
 |succ m ih=>
  intro hm hmd
  rw[K3 (Mj hD (by omega))]
  by_cases e:j=m
  ·subst e;rw[if_pos h1]
  ·have:=Ua d m (j+1) (by omega)
   rw[if_neg (by omega)]
   exact ih (by omega) (by omega)
theorem need_le:∀k j:Nat,Wf (cdF d) k j≤2*(j:Int)
 |0,j=>by simp only[Wf];omega
 |k+1,j=>by
  have ih:=need_le k
  rw[Wf]
  split
  ·rename_i h
   obtain⟨h2,h9,hb⟩:=h
   have hin:=Dc (p:=cdF d) (i:=(k:Int)) (by rw[h9];decide)
   have hcl:=Qs hD
   obtain⟨b,hbn,h3,h4⟩:=Eg d d.length k h2 (by have:=hin.2;omega)
   have hbo:=bo_at hD hbn (i:=(k:Int)) (by omega) (by omega)
   obtain rfl:b=j:=by omega
   obtain⟨t,ht⟩:∃t:Nat,k=stA d b+t:=⟨k-stA d b,by omega⟩
   have hnx:=Vl d b
   obtain⟨y,hy⟩:∃y,(blk d b)[t]?=some y:=⟨_,Za6 (by omega)⟩
   obtain⟨_,ho,ha⟩:=Qh hD hbn hy (k:Int) (by omega)
   obtain⟨j',hj',e⟩:=Bc ((Vs hD hbn hy).call (by omega))
   have hnx':=Vl d j'
   have hb':=J3 hD (j:=j') (by omega)
   have hbo':=bo_at hD (j:=j') (by omega) (i:=aA (cdF d) k) (by omega) (by omega)
   rw[hbo',Int.toNat_natCast]
   have i1:=ih b
   have i2:=ih j'
   unfold mx
   split<;>split<;>omega
  ·exact ih j
theorem Ea:1≤need (cdF d)∧need (cdF d)≤1+2*(d.length:Int):=by
 have h1:=need_le hD (cdF d).code.length (d.length-1)
 have h2:=U0 (cdF d) (cdF d).code.length (d.length-1)
 unfold need
 rw[K7 hD]
 omega
end
section
variable{d:Des}(hD:DrawD d)
include hD
theorem safe_big:PrgB (cdF d) where
 code:=by have:=Ti hD;omega
 ents:=by have:=K7 hD;have:=hD.most;omega
 vals:=fun z hz=>by
  rw[Nh hD]at hz
  obtain⟨j,hj,rfl⟩:=Bc hz
  have:=Ex hD j (by omega)
  have:=hD.most
  unfold I64;omega
end
structure Mch where
 pc:Int
 register:Int
 stack:List Int
 sums:List Int
 left:Int
 started:Bool
 escaped:Bool
 state:Int
 code:Int
 read:Int
deriving DecidableEq
def Pe(m:Mch):RV:=.agg [.int m.pc,.int m.register,Xe m.stack,Xe m.sums,.int m.left,.bool m.started,.bool m.escaped,.int m.state,.int m.code,.int m.read]
structure MchOk (m:Mch):Prop where
 ats:I64 m.pc
 register:I64 m.register
 stack:∀z∈m.stack,I64 z
 sums:∀z∈m.sums,I64 z
 left:I64 m.left
 state:I64 m.state
 code:I64 m.code
 read:I64 m.read
 slen:m.stack.length≤maxLen
 tlen:m.sums.length≤maxLen
def X6(m:Mch)(c:Int):Mch:={m with state:=2,code:=c}
def K2(m:Mch):Mch:={m with pc:=w64 (m.pc+1)}
def X7(m:Mch)(l:Int):Mch:=if l=0 then K2 m else {m with started:=true,left:=l}
def Q9(m:Mch)(n nx:Int):Mch:=if 60≤m.stack.length then X6 m 8 else {m with stack:=m.stack++[n],pc:=nx}
def H1(m:Mch):Int:=(m.stack[m.stack.length-1]?).getD 0
def Jt(m:Mch):Mch:={m with stack:=m.stack.take (m.stack.length-1)}
def Js(m:Mch)(a:Int):Mch:=
 if m.stack.length=0 then X6 m 8
 else if H1 m=0 then {Jt m with pc:=a}
 else {m with stack:=m.stack.set (m.stack.length-1) (w64 (H1 m-1)),pc:=w64 (m.pc+1)}
def Mb(m:Mch):Mch:=if m.stack.length=0 then X6 m 8 else {Jt m with pc:=H1 m}
def Yq(m:Mch)(i:Ins):Mch:=
 if i.op=1 then X7 {m with register:=0} i.a
 else if i.op=3 then X7 m i.a
 else if i.op=4 then X7 m m.register
 else if i.op=2∨i.op=13∨i.op=16 then X7 m 1
 else if i.op=5 then(if i.a<m.register then X6 m 6 else K2 m)
 else if i.op=6 then Q9 m m.register (w64 (m.pc+1))
 else if i.op=7 then Js m i.a
 else if i.op=8 then {m with pc:=i.a}
 else if i.op=9 then Q9 m (w64 (m.pc+1)) i.a
 else if i.op=10 then Mb m
 else if i.op=11 then(if m.register=i.a then {m with pc:=i.b} else K2 m)
 else if i.op=12 then X6 m i.a
 else if i.op=14 then(if 30≤m.sums.length then X6 m 8 else {K2 m with sums:=m.sums++[0]})
 else if i.op=15 then(if m.sums.length=0 then X6 m 8 else X7 m 1)
 else if i.op=17 then {m with state:=1}
 else m
abbrev Pa(m:Mch):Prop:=m.state=0∧m.started=false
def mAt(p:Prg)(m:Mch):Ins:=(p.code[m.pc.toNat]?).getD ⟨0,0,0⟩
def U1(p:Prg):Nat→Mch→Mch
 |0,m=>if Pa m then X6 m 8 else m
 |n+1,m=>if Pa m then(if Idx p m.pc then U1 p n (Yq m (mAt p m)) else X6 m 8) else m
def mIt(p:Prg)(m:Mch):Nat→Mch
 |0=>m
 |j+1=>Yq (mIt p m j) (mAt p (mIt p m j))
def Uq(p:Prg)(fits:Bool)(m:Mch):Mch:=
 if m.state≠0 then m else if fits=false∨(m.started=true∧¬Idx p m.pc) then X6 m 8 else U1 p 100001 m
def Ws(m:Mch):Mch:=if m.left=0 then {m with started:=false,pc:=w64 (m.pc+1)} else m
def Yi(m:Mch)(b:Int):Mch:={m with sums:=m.sums.map fun z=>(w64 (z+b)).tmod 256,read:=w64 (m.read+1),left:=w64 (m.left-1)}
def Vi(m:Mch)(i:Ins)(b:Int):Mch:=
 if i.op=1 then Ws {m with register:=if i.b=1 then w64 (m.register+b*2 ^ (8*(i.a-m.left-1)).toNat) else w64 (w64 (256*m.register)+b)}
 else if i.op=13 then(if 1<b then X6 m 4 else if m.left≠0 then m else {m with started:=false,pc:=if b=0 then i.a else w64 (m.pc+1)})
 else if i.op=16 then(if m.escaped=false∧b=i.a then Ws m else {m with escaped := !m.escaped&&decide (b=92),left:=1})
 else if i.op=2 then(if b≠i.a then X6 m 2 else Ws m)
 else Ws m
def Uo(m:Mch)(i:Ins)(b:Int):Mch:=
 if i.op=15 then(if(m.sums[m.sums.length-1]?).getD 0≠b then X6 m 5 else Vi (Yi {m with sums:=m.sums.take (m.sums.length-1)} b) i b)
 else Vi (Yi m b) i b
def Bt(p:Prg)(m:Mch)(b:Int):Mch:=
 if((mAt p m).op=1∧¬InR m.left 1 (mAt p m).a)∨((mAt p m).op=15∧m.sums.length=0) then X6 m 8 else Uo m (mAt p m) b
def Qj(p:Prg)(fits:Bool)(m:Mch)(b:Int):Mch:=
 if(Uq p fits m).state=1 then X6 (Uq p fits m) 7 else if(Uq p fits m).state≠0 then Uq p fits m else Bt p (Uq p fits m) b
def I6(m:Mch):Int:=if m.state=1 then 0 else if m.state=0 then 1 else m.code
def m0:Mch:=⟨0,0,[],[],0,false,false,0,0,0⟩
theorem mRes_it{p:Prg}{m:Mch}{n j:Nat}(hj:j<n)(h:U1 p n m=U1 p (n-j) (mIt p m j))(hr:Pa (mIt p m j))(hi:Idx p (mIt p m j).pc):U1 p n m=U1 p (n-(j+1)) (mIt p m (j+1)):=by
 rw[h,show n-j=n-(j+1)+1 by omega,U1,if_pos hr,if_pos hi]
 rfl
theorem mRes_stop{p:Prg}{m:Mch}{n j:Nat}(h:U1 p n m=U1 p (n-j) (mIt p m j))(hr:¬Pa (mIt p m j)):U1 p n m=mIt p m j:=by
 rw[h]
 cases n-j with
 |zero=>rw[U1,if_neg hr]
 |succ k=>rw[U1,if_neg hr]
theorem mRes_out{p:Prg}{m:Mch}{n j:Nat}(h:U1 p n m=U1 p (n-j) (mIt p m j))(hr:Pa (mIt p m j))(hi:¬Idx p (mIt p m j).pc∨j=n):U1 p n m=X6 (mIt p m j) 8:=by
 rw[h]
 rcases hi with hi|rfl
 ·cases n-j with
  |zero=>rw[U1,if_pos hr]
  |succ k=>rw[U1,if_pos hr,if_neg hi]
 ·rw[Nat.sub_self,U1,if_pos hr]
theorem Ye{α:Type}{P:α→Prop}{c:Prop}[Decidable c]{a b:α}(ha:c→P a)(hb:¬c→P b):P (if c then a else b):=by
 by_cases h:c
 ·rw[if_pos h];exact ha h
 ·rw[if_neg h];exact hb h
def Uu(m:Mch):Prop:=m.stack.length≤1048576∧m.sums.length≤1048576
theorem mFail_len{m:Mch}{c:Int}(h:Uu m):Uu (X6 m c):=h
theorem Kj{m:Mch}{c:Int}(h:Uu m):Uu (X7 m c):=by unfold X7;split<;>exact h
theorem I3{m:Mch}{c d:Int}(h:Uu m):Uu (Q9 m c d):=by
 unfold Q9;split
 ·exact h
 ·exact⟨by simp only[Za7,Zbb];omega,h.2⟩
theorem I7{m:Mch}{a:Int}(h:Uu m):Uu {Jt m with pc:=a}:=⟨by have:=h.1;simp only[Jt,List.length_take];omega,h.2⟩
theorem mLoop_len{m:Mch}{a:Int}(h:Uu m):Uu (Js m a):=by
 unfold Js;split
 ·exact h
 split
 ·exact I7 h
 ·exact⟨by simp only[List.length_set];exact h.1,h.2⟩
theorem mBack_len{m:Mch}(h:Uu m):Uu (Mb m):=by
 unfold Mb;split
 ·exact h
 ·exact I7 h
theorem I4{m:Mch}{i:Ins}(h:Uu m):Uu (Yq m i):=by
 unfold Yq
 refine Ye (fun _=>Kj (m:={m with register:=0}) h) fun _=>?_
 refine Ye (fun _=>Kj h) fun _=>?_
 refine Ye (fun _=>Kj h) fun _=>?_
 refine Ye (fun _=>Kj h) fun _=>?_
 refine Ye (fun _=>Ye (fun _=>h) fun _=>h) fun _=>?_
 refine Ye (fun _=>I3 h) fun _=>?_
 refine Ye (fun _=>mLoop_len h) fun _=>?_
 refine Ye (fun _=>h) fun _=>?_
 refine Ye (fun _=>I3 h) fun _=>?_
 refine Ye (fun _=>mBack_len h) fun _=>?_
 refine Ye (fun _=>Ye (fun _=>h) fun _=>h) fun _=>?_
 refine Ye (fun _=>h) fun _=>?_
 refine Ye (fun _=>Ye (fun _=>h) fun _=>⟨h.1,by simp only[K2,Za7,Zbb];omega⟩) fun _=>?_
 refine Ye (fun _=>Ye (fun _=>h) fun _=>Kj h) fun _=>?_
 exact Ye (fun _=>h) fun _=>h
theorem Sx{p:Prg}:∀(n:Nat) {m:Mch},Uu m→Uu (U1 p n m)
 |0,m,h=>by unfold U1;split<;>exact h
 |n+1,m,h=>by
  unfold U1
  split
  ·split
   ·exact Sx n (I4 h)
   ·exact h
  ·exact h
theorem mIt_len{p:Prg}{m:Mch}(h:Uu m):∀j,Uu (mIt p m j)
 |0=>h
 |j+1=>I4 (mIt_len h j)
theorem Ed{p:Prg}{f:Bool}{m:Mch}(h:Uu m):Uu (Uq p f m):=by
 unfold Uq
 split
 ·exact h
 split
 ·exact h
 ·exact Sx _ h
theorem M4{m:Mch}(h:Uu m):Uu (Ws m):=by unfold Ws;split<;>exact h
theorem Ta{m:Mch}{b:Int}(h:Uu m):Uu (Yi m b):=⟨h.1,by simp only[Yi,lmT];exact h.2⟩
theorem I2{m:Mch}{i:Ins}{b:Int}(h:Uu m):Uu (Vi m i b):=by
 unfold Vi
 split
 ·exact M4 (m:={m with register:=_}) h
 split
 ·split
  ·exact h
  split<;>exact h
 split
 ·split
  ·exact M4 h
  ·exact h
 split
 ·split
  ·exact h
  ·exact M4 h
 ·exact M4 h
theorem mTake_len{m:Mch}{i:Ins}{b:Int}(h:Uu m):Uu (Uo m i b):=by
 unfold Uo
 split
 ·split
  ·exact h
  ·exact I2 (Ta (m:={m with sums:=_}) ⟨h.1,by have:=h.2;simp only[List.length_take];omega⟩)
 ·exact I2 (Ta h)
theorem mByte_len{p:Prg}{m:Mch}{b:Int}(h:Uu m):Uu (Bt p m b):=by
 unfold Bt
 split
 ·exact h
 ·exact mTake_len h
theorem mFeed_len{p:Prg}{f:Bool}{m:Mch}{b:Int}(h:Uu m):Uu (Qj p f m b):=by
 unfold Qj
 split
 ·exact mFail_len (Ed h)
 split
 ·exact Ed h
 ·exact mByte_len (Ed h)
def MIdx(p:Prg)(m:Mch):Prop:=m.started=true→Idx p m.pc
theorem Kk{p:Prg}{m:Mch}{l:Int}(h:m.started=false)(hi:Idx p m.pc):MIdx p (X7 m l):=by
 unfold X7
 split
 ·intro h';simp only[K2]at h';rw[h]at h';cases h'
 ·exact fun _=>hi
theorem Vd{p:Prg}{m:Mch}(h:m.started=false):MIdx p m:=fun h'=>by rw[h]at h';cases h'
theorem mPush_started{m:Mch}{n nx:Int}:(Q9 m n nx).started=m.started:=by unfold Q9;split<;>rfl
theorem mLoop_started{m:Mch}{n:Int}:(Js m n).started=m.started:=by unfold Js;split;rfl;split<;>rfl
theorem mBack_started{m:Mch}:(Mb m).started=m.started:=by unfold Mb;split<;>rfl
theorem I5{p:Prg}{m:Mch}{i:Ins}(h:m.started=false)(hi:Idx p m.pc):MIdx p (Yq m i):=by
 unfold Yq
 refine Ye (fun _=>Kk (m:={m with register:=0}) h hi) fun _=>?_
 refine Ye (fun _=>Kk h hi) fun _=>?_
 refine Ye (fun _=>Kk h hi) fun _=>?_
 refine Ye (fun _=>Kk h hi) fun _=>?_
 refine Ye (fun _=>Ye (fun _=>Vd h) fun _=>Vd h) fun _=>?_
 refine Ye (fun _=>Vd (mPush_started.trans h)) fun _=>?_
 refine Ye (fun _=>Vd (mLoop_started.trans h)) fun _=>?_
 refine Ye (fun _=>Vd h) fun _=>?_
 refine Ye (fun _=>Vd (mPush_started.trans h)) fun _=>?_
 refine Ye (fun _=>Vd (mBack_started.trans h)) fun _=>?_
 refine Ye (fun _=>Ye (fun _=>Vd h) fun _=>Vd h) fun _=>?_
 refine Ye (fun _=>Vd h) fun _=>?_
 refine Ye (fun _=>Ye (fun _=>Vd h) fun _=>Vd h) fun _=>?_
 refine Ye (fun _=>Ye (fun _=>Vd h) fun _=>Kk h hi) fun _=>?_
 exact Ye (fun _=>Vd h) fun _=>Vd h
theorem Sy{p:Prg}:∀(n:Nat) {m:Mch},MIdx p m→(U1 p n m).state=0→(U1 p n m).started=true∧Idx p (U1 p n m).pc
 |0,m,h,h0=>by
  unfold U1 at h0 ⊢
  split at h0
  ·cases h0
  ·rename_i hr
   rw[if_neg hr]
   have hs:m.started=true:=by
    cases hb:m.started with
    |true=>rfl
    |false=>exact absurd ⟨h0,hb⟩ hr
   exact⟨hs,h hs⟩
 |n+1,m,h,h0=>by
  unfold U1 at h0 ⊢
  by_cases hr:Pa m
  ·rw[if_pos hr]at h0 ⊢
   by_cases hi:Idx p m.pc
   ·rw[if_pos hi]at h0 ⊢
    exact Sy n (I5 hr.2 hi) h0
   ·rw[if_neg hi]at h0;cases h0
  ·rw[if_neg hr]at h0 ⊢
   have hs:m.started=true:=by
    cases hb:m.started with
    |true=>rfl
    |false=>exact absurd ⟨h0,hb⟩ hr
   exact⟨hs,h hs⟩
theorem mAdv_idx{p:Prg}{f:Bool}{m:Mch}(h0:(Uq p f m).state=0):f=true∧(Uq p f m).started=true∧Idx p (Uq p f m).pc:=by
 unfold Uq at h0 ⊢
 by_cases hs:m.state≠0
 ·rw[if_pos hs]at h0;exact absurd h0 hs
 ·rw[if_neg hs]at h0 ⊢
  by_cases hf:f=false∨(m.started=true∧¬Idx p m.pc)
  ·rw[if_pos hf]at h0;cases h0
  ·rw[if_neg hf]at h0 ⊢
   refine⟨?_,Sy _ (fun hs=>?_) h0⟩
   ·cases f with
    |true=>rfl
    |false=>exact absurd (.inl rfl) hf
   ·exact Classical.byContradiction fun hi=>hf (.inr ⟨hs,hi⟩)
def opL(L:List Ins)(i:Nat):Int:=((L[i]?).getD ⟨0,0,0⟩).op
theorem Uw{L:List Ins}{i:Nat}{y:Ins}(h:L[i]?=some y):opL L i=y.op:=by unfold opL;rw[h];rfl
def lpL(L:List Ins)(i:Nat):Nat:=if opL L i=7∨opL L i=8∨(1≤i∧opL L (i-1)=7) then 1 else 0
def smL(L:List Ins)(i:Nat):Nat:=if opL L i=15∨(1≤i∧opL L (i-1)=14) then 1 else 0
structure Shp (L:List Ins):Prop where
 l7:∀i,opL L i=7→1≤i∧opL L (i-1)=6∧opL L (i+1)=9∧opL L (i+2)=8
 l6:∀i,opL L i=6→opL L (i+1)=7
 l8:∀i,opL L i=8→2≤i∧opL L (i-2)=7
 l14:∀i,opL L i=14→opL L (i+1)=9∧opL L (i+2)=15
 l15:∀i,opL L i=15→2≤i∧opL L (i-2)=14
section
variable{L:List Ins}(h:Shp L)
include h
theorem Shp.after7{i:Nat}(hi:1≤i)(h7:opL L (i-1)=7):opL L i=9:=by
 have:=(h.l7 _ h7).2.2.1
 rwa [show i-1+1=i by omega]at this
theorem Shp.after14{i:Nat}(hi:1≤i)(h14:opL L (i-1)=14):opL L i=9:=by
 have:=(h.l14 _ h14).1
 rwa [show i-1+1=i by omega]at this
theorem Shp.plain{i:Nat}(ho:opL L i≠6∧opL L i≠7∧opL L i≠8∧opL L i≠9∧opL L i≠14∧opL L i≠15):lpL L i=0∧smL L i=0∧lpL L (i+1)=0∧smL L (i+1)=0:=by
 obtain⟨o6,o7,o8,o9,o14,o15⟩:=ho
 refine⟨if_neg ?_,if_neg ?_,if_neg ?_,if_neg ?_⟩
 ·rintro(e|e|⟨e1,e2⟩)
  ·exact o7 e
  ·exact o8 e
  ·exact o9 (h.after7 e1 e2)
 ·rintro(e|⟨e1,e2⟩)
  ·exact o15 e
  ·exact o9 (h.after14 e1 e2)
 ·rintro(e|e|⟨_,e⟩)
  ·have:=(h.l7 _ e).2.1
   rw[Nat.add_sub_cancel]at this;exact o6 this
  ·obtain⟨e1,e2⟩:=h.l8 _ e
   have:=h.after7 (i:=i) (by omega) (by rwa [show i+1-2=i-1 by omega]at e2)
   exact o9 this
  ·rw[Nat.add_sub_cancel]at e;exact o7 e
 ·rintro(e|⟨_,e⟩)
  ·obtain⟨e1,e2⟩:=h.l15 _ e
   have:=h.after14 (i:=i) (by omega) (by rwa [show i+1-2=i-1 by omega]at e2)
   exact o9 this
  ·rw[Nat.add_sub_cancel]at e;exact o14 e
theorem Shp.ret{i:Nat}(ho:opL L i=10):lpL L i=0∧smL L i=0:=by
 have:=h.plain (i:=i) (by omega)
 exact⟨this.1,this.2.1⟩
theorem Shp.push{i:Nat}(ho:opL L i=6):lpL L i=0∧smL L i=0∧lpL L (i+1)=1∧smL L (i+1)=0:=by
 have h7:=h.l6 _ ho
 refine⟨if_neg ?_,if_neg ?_,if_pos (.inl h7),if_neg ?_⟩
 ·rintro(e|e|⟨e1,e2⟩)
  ·omega
  ·omega
  ·have:=h.after7 e1 e2;omega
 ·rintro(e|⟨e1,e2⟩)
  ·omega
  ·have:=h.after14 e1 e2;omega
 ·rintro(e|⟨_,e⟩)
  ·omega
  ·rw[Nat.add_sub_cancel]at e;omega
theorem Shp.loop{i:Nat}(ho:opL L i=7):lpL L i=1∧smL L i=0∧lpL L (i+1)=1∧smL L (i+1)=0∧lpL L (i+3)=0∧smL L (i+3)=0∧opL L (i+3)≠8:=by
 obtain⟨h0,h6,h9,h8⟩:=h.l7 _ ho
 have n8:opL L (i+3)≠8:=fun e=>by
  have:=(h.l8 _ e).2
  rw[show i+3-2=i+1 by omega]at this;omega
 refine⟨if_pos (.inl ho),if_neg ?_,if_pos (.inr (.inr ⟨by omega,by rw[Nat.add_sub_cancel];exact ho⟩)),if_neg ?_,if_neg ?_,if_neg ?_,n8⟩
 ·rintro(e|⟨e1,e2⟩)<;>omega
 ·rintro(e|⟨_,e⟩)
  ·omega
  ·rw[Nat.add_sub_cancel]at e;omega
 ·rintro(e|e|⟨_,e⟩)
  ·have:=(h.l7 _ e).2.1
   rw[show i+3-1=i+2 by omega]at this;omega
  ·exact n8 e
  ·rw[show i+3-1=i+2 by omega]at e;omega
 ·rintro(e|⟨_,e⟩)
  ·have:=(h.l15 _ e).2
   rw[show i+3-2=i+1 by omega]at this;omega
  ·rw[show i+3-1=i+2 by omega]at e;omega
theorem Shp.jump{i:Nat}(ho:opL L i=8):lpL L i=1∧smL L i=0∧lpL L (i-2)=1∧smL L (i-2)=0:=by
 obtain⟨h2,h7⟩:=h.l8 _ ho
 have hl:=h.loop h7
 refine⟨if_pos (.inr (.inl ho)),if_neg ?_,hl.1,hl.2.1⟩
 rintro(e|⟨e1,e2⟩)
 ·omega
 ·have:=h.after14 e1 e2;omega
theorem Shp.call{i:Nat}(ho:opL L i=9):lpL L (i+1)=lpL L i∧smL L (i+1)=smL L i:=by
 constructor
 ·unfold lpL
  rw[Nat.add_sub_cancel]
  by_cases e:1≤i∧opL L (i-1)=7
  ·have:=(h.l7 _ e.2).2.2.2
   rw[show i-1+2=i+1 by omega]at this
   rw[if_pos (.inr (.inl this)),if_pos (.inr (.inr e))]
  ·rw[if_neg,if_neg]
   ·rintro(e1|e1|e1)
    ·omega
    ·omega
    ·exact e e1
   ·rintro(e1|e1|e1)
    ·have:=(h.l7 _ e1).2.1
     rw[Nat.add_sub_cancel]at this;omega
    ·obtain⟨e2,e3⟩:=h.l8 _ e1
     exact e ⟨by omega,by rwa [show i+1-2=i-1 by omega]at e3⟩
    ·omega
 ·unfold smL
  rw[Nat.add_sub_cancel]
  by_cases e:1≤i∧opL L (i-1)=14
  ·have:=(h.l14 _ e.2).2
   rw[show i-1+2=i+1 by omega]at this
   rw[if_pos (.inl this),if_pos (.inr e)]
  ·rw[if_neg,if_neg]
   ·rintro(e1|e1)
    ·omega
    ·exact e e1
   ·rintro(e1|e1)
    ·obtain⟨e2,e3⟩:=h.l15 _ e1
     exact e ⟨by omega,by rwa [show i+1-2=i-1 by omega]at e3⟩
    ·omega
theorem Shp.mark{i:Nat}(ho:opL L i=14):lpL L i=0∧smL L i=0∧lpL L (i+1)=0∧smL L (i+1)=1:=by
 obtain⟨h9,h15⟩:=h.l14 _ ho
 refine⟨if_neg ?_,if_neg ?_,if_neg ?_,if_pos (.inr ⟨by omega,by rw[Nat.add_sub_cancel];exact ho⟩)⟩
 ·rintro(e|e|⟨e1,e2⟩)
  ·omega
  ·omega
  ·have:=h.after7 e1 e2;omega
 ·rintro(e|⟨e1,e2⟩)
  ·omega
  ·have:=h.after14 e1 e2;omega
 ·rintro(e|e|⟨_,e⟩)
  ·omega
  ·omega
  ·rw[Nat.add_sub_cancel]at e;omega
theorem Shp.sum{i:Nat}(ho:opL L i=15):lpL L i=0∧smL L i=1∧lpL L (i+1)=0∧smL L (i+1)=0∧opL L (i+1)≠8:=by
 obtain⟨h2,h14⟩:=h.l15 _ ho
 have h9:=(h.l14 _ h14).1
 rw[show i-2+1=i-1 by omega]at h9
 have n8:opL L (i+1)≠8:=fun e=>by
  have:=(h.l8 _ e).2
  rw[show i+1-2=i-1 by omega]at this;omega
 refine⟨if_neg ?_,if_pos (.inl ho),if_neg ?_,if_neg ?_,n8⟩
 ·rintro(e|e|⟨e1,e2⟩)<;>omega
 ·rintro(e|e|⟨_,e⟩)
  ·have:=(h.l7 _ e).2.1
   rw[Nat.add_sub_cancel]at this;omega
  ·exact n8 e
  ·rw[Nat.add_sub_cancel]at e;omega
 ·rintro(e|⟨_,e⟩)
  ·have:=(h.l15 _ e).2
   rw[show i+1-2=i-1 by omega]at this;omega
  ·rw[Nat.add_sub_cancel]at e;omega
theorem Shp.start:lpL L 0=0∧smL L 0=0:=by
 refine⟨if_neg ?_,if_neg ?_⟩
 ·rintro(e|e|⟨e1,_⟩)
  ·have:=(h.l7 _ e).1;omega
  ·have:=(h.l8 _ e).1;omega
  ·omega
 ·rintro(e|⟨e1,_⟩)
  ·have:=(h.l15 _ e).1;omega
  ·omega
theorem Shp.no8{i:Nat}(ho:opL L i≠9):opL L (i+1)≠8:=fun e=>by
 obtain⟨e1,e2⟩:=h.l8 _ e
 exact ho (h.after7 (i:=i) (by omega) (by rwa [show i+1-2=i-1 by omega]at e2))
end
theorem Ml{d:Des}(hD:DrawD d){j:Nat}(hj:j<d.length):Shp (blk d j):=by
 have key:∀i o,opL (blk d j) i=o→o≠0→∃y,(blk d j)[i]?=some y∧y.op=o:=fun i o h ho=>by
  unfold opL at h
  cases hy:(blk d j)[i]? with
  |none=>rw[hy]at h;exact absurd h.symm ho
  |some y=>rw[hy]at h;exact⟨y,rfl,h⟩
 refine⟨fun i h=>?_,fun i h=>?_,fun i h=>?_,fun i h=>?_,fun i h=>?_⟩
 ·obtain⟨y,hy,ho⟩:=key i 7 h (by decide)
  obtain⟨m,y6,z,w,rfl,h6,h6o,hz,hzo,hw,hwo,_⟩:=(Vs hD hj hy).loop ho
  exact⟨by omega,by rw[Nat.add_sub_cancel,Uw h6];exact h6o,by rw[show m+1+1=m+2 by omega,Uw hz];exact hzo,by rw[show m+1+2=m+3 by omega,Uw hw];exact hwo⟩
 ·obtain⟨y,hy,ho⟩:=key i 6 h (by decide)
  obtain⟨z,hz,hzo⟩:=(Vs hD hj hy).push ho
  rw[Uw hz];exact hzo
 ·obtain⟨y,hy,ho⟩:=key i 8 h (by decide)
  obtain⟨m,z,rfl,hz,hzo⟩:=(Vs hD hj hy).jump ho
  exact⟨by omega,by rw[Nat.add_sub_cancel,Uw hz];exact hzo⟩
 ·obtain⟨y,hy,ho⟩:=key i 14 h (by decide)
  obtain⟨z,w,hz,hzo,hw,hwo⟩:=(Vs hD hj hy).mark ho
  exact⟨by rw[Uw hz];exact hzo,by rw[Uw hw];exact hwo⟩
 ·obtain⟨y,hy,ho⟩:=key i 15 h (by decide)
  obtain⟨m,z,rfl,hz,hzo⟩:=(Vs hD hj hy).sum ho
  exact⟨by omega,by rw[Nat.add_sub_cancel,Uw hz];exact hzo⟩
structure RuX (L:List Ins):Prop where
 skip:∀y∈L,y.op=3→1≤y.a
 fail:∀y∈L,y.op=12→y.a=3
 first:opL L 0=1∨opL L 0=2∨opL L 0=3∨opL L 0=9∨opL L 0=13∨opL L 0=14∨opL L 0=16
 jumps:(∃y∈L,y.op=11∨y.op=13)→∀y∈L,y.op≠7∧y.op≠8∧y.op≠14∧y.op≠15
theorem rule_x{d:Des}(hD:DrawD d){j:Nat}{x:Rul}(hx:d[j]?=some x)(s:Int)(en:List Int):RuX (Xh x s en):=by
 obtain⟨k',k1,k2,hr,hk',_,_⟩:=hD.kinds hx
 have hc:∀r,(Y4 en r).op=9:=fun r=>rfl
 have hch:∀y∈Xk x.kids en x.tags.length,y.op=10∨y.op=9:=fun y hy=>by
  unfold Xk at hy
  obtain⟨i,_,hi⟩:=List.mem_flatMap.1 hy
  rcases List.mem_append.1 hi with h|h
  ·split at h
   ·simp at h
   ·simp at h;subst h;exact .inl rfl
  ·simp at h;subst h;exact .inr rfl
 have hct:∀y∈V0 x.tags (s+(x.tags.length:Int)+2) x.tags.length,y.op=11:=fun y hy=>by
  obtain⟨i,hi⟩:=List.getElem?_of_mem hy
  obtain⟨_,rfl⟩:=O0 hi
  rfl
 by_cases e1:x.kind=1
 ·have hL:Xh x s en=[⟨1,x.size,if x.little=true then 1 else 0⟩,⟨10,0,0⟩]:=by unfold Xh Y7;rw[if_pos e1];rfl
  rw[hL]
  exact⟨by simp,by simp,.inl rfl,by simp⟩
 by_cases e2:x.kind=2
 ·have hL:Xh x s en=(x.bytes.map fun b=>(⟨2,(b.toNat:Int),0⟩:Ins))++[⟨10,0,0⟩]:=by unfold Xh Y7;rw[if_neg e1,if_pos e2]
  have hb:=hr.hbytes.1 (by omega)
  rw[hL]
  have hm:∀y∈(x.bytes.map fun b=>(⟨2,(b.toNat:Int),0⟩:Ins))++[⟨10,0,0⟩],y.op=2∨y.op=10:=fun y hy=>by
   rcases List.mem_append.1 hy with h|h
   ·obtain⟨b,_,rfl⟩:=List.mem_map.1 h;exact .inl rfl
   ·simp at h;subst h;exact .inr rfl
  refine⟨fun y hy e=>by have:=hm y hy;omega,fun y hy e=>by have:=hm y hy;omega,?_,fun⟨y,hy,e⟩=>by have:=hm y hy;omega⟩
  cases hbs:x.bytes with
  |nil=>rw[hbs]at hb;simp at hb
  |cons c l=>exact .inr (.inl rfl)
 by_cases e3:x.kind=3
 ·have hL:Xh x s en=[⟨3,x.size,0⟩,⟨10,0,0⟩]:=by unfold Xh Y7;rw[if_neg e1,if_neg e2,if_pos e3];rfl
  have hz:=hr.hsize.2.1 (by omega)
  rw[hL]
  exact⟨by simp;omega,by simp,.inr (.inr (.inl rfl)),by simp⟩
 by_cases e4:x.kind=4
 ·have hL:Xh x s en=[Y4 en (x.kids.headD 0),⟨4,0,0⟩,⟨10,0,0⟩]:=by unfold Xh Y7;rw[if_neg e1,if_neg e2,if_neg e3,if_pos e4];rfl
  rw[hL]
  exact⟨by simp[Y4],by simp[Y4],.inr (.inr (.inr (.inl rfl))),by simp[Y4]⟩
 by_cases e5:x.kind=5
 ·have hL:Xh x s en=[Y4 en (x.kids.headD 0),⟨5,40,0⟩,⟨6,0,0⟩,⟨7,w64 (s+6),0⟩,Y4 en ((x.kids[1]?).getD 0),⟨8,w64 (s+3),0⟩,⟨10,0,0⟩]:=by unfold Xh Y7;rw[if_neg e1,if_neg e2,if_neg e3,if_neg e4,if_pos e5];rfl
  rw[hL]
  exact⟨by simp[Y4],by simp[Y4],.inr (.inr (.inr (.inl rfl))),by simp[Y4]⟩
 by_cases e6:x.kind=6
 ·have hL:Xh x s en=x.kids.map (Y4 en)++[⟨10,0,0⟩]:=by unfold Xh Y7;rw[if_neg e1,if_neg e2,if_neg e3,if_neg e4,if_neg e5,if_pos e6]
  have hkk:=(hr.hkids.2.2.1 (by omega)).1
  have hnn:=hr.hnames.1 (by omega)
  rw[hL]
  have hm:∀y∈x.kids.map (Y4 en)++[⟨10,0,0⟩],y.op=9∨y.op=10:=fun y hy=>by
   rcases List.mem_append.1 hy with h|h
   ·obtain⟨b,_,rfl⟩:=List.mem_map.1 h;exact .inl rfl
   ·simp at h;subst h;exact .inr rfl
  refine⟨fun y hy e=>by have:=hm y hy;omega,fun y hy e=>by have:=hm y hy;omega,?_,fun⟨y,hy,e⟩=>by have:=hm y hy;omega⟩
  cases hks:x.kids with
  |nil=>rw[hks]at hkk;simp at hkk;omega
  |cons c l=>exact .inr (.inr (.inr (.inl rfl)))
 by_cases e7:x.kind=7
 ·have hL:Xh x s en=Y4 en (x.kids.headD 0)::(V0 x.tags (s+(x.tags.length:Int)+2) x.tags.length++⟨12,3,0⟩::Xk x.kids en x.tags.length)++[⟨10,0,0⟩]:=by unfold Xh Y7;rw[if_neg e1,if_neg e2,if_neg e3,if_neg e4,if_neg e5,if_neg e6,if_pos e7]
  rw[hL]
  have hm:∀y∈Y4 en (x.kids.headD 0)::(V0 x.tags (s+(x.tags.length:Int)+2) x.tags.length++⟨12,3,0⟩::Xk x.kids en x.tags.length)++[⟨10,0,0⟩],y.op=9∨y.op=10∨y.op=11∨(y.op=12∧y.a=3):=fun y hy=>by
   rcases List.mem_append.1 hy with h|h
   ·rcases List.mem_cons.1 h with rfl|h
    ·exact .inl rfl
    rcases List.mem_append.1 h with h|h
    ·exact .inr (.inr (.inl (hct y h)))
    ·rcases List.mem_cons.1 h with rfl|h
     ·exact .inr (.inr (.inr ⟨rfl,rfl⟩))
     ·rcases hch y h with h|h
      ·exact .inr (.inl h)
      ·exact .inl h
   ·simp at h;subst h;exact .inr (.inl rfl)
  exact⟨fun y hy e=>by have:=hm y hy;omega,fun y hy e=>by have:=hm y hy;omega,.inr (.inr (.inr (.inl rfl))),fun _ y hy=>by have:=hm y hy;omega⟩
 by_cases e8:x.kind=8
 ·have hL:Xh x s en=[⟨13,w64 (s+2),0⟩,Y4 en (x.kids.headD 0),⟨10,0,0⟩]:=by unfold Xh Y7;rw[if_neg e1,if_neg e2,if_neg e3,if_neg e4,if_neg e5,if_neg e6,if_neg e7,if_pos e8];rfl
  rw[hL]
  exact⟨by simp[Y4],by simp[Y4],.inr (.inr (.inr (.inr (.inl rfl)))),by simp[Y4]⟩
 by_cases e9:x.kind=9
 ·have hL:Xh x s en=[⟨14,0,0⟩,Y4 en (x.kids.headD 0),⟨15,0,0⟩,⟨10,0,0⟩]:=by unfold Xh Y7;rw[if_neg e1,if_neg e2,if_neg e3,if_neg e4,if_neg e5,if_neg e6,if_neg e7,if_neg e8,if_pos e9];rfl
  rw[hL]
  exact⟨by simp[Y4],by simp[Y4],.inr (.inr (.inr (.inr (.inr (.inl rfl))))),by simp[Y4]⟩
 ·have hL:Xh x s en=[⟨16,(((x.bytes[0]?).getD 0).toNat:Int),0⟩,⟨10,0,0⟩]:=by unfold Xh Y7;rw[if_neg e1,if_neg e2,if_neg e3,if_neg e4,if_neg e5,if_neg e6,if_neg e7,if_neg e8,if_neg e9];rfl
  rw[hL]
  exact⟨by simp,by simp,.inr (.inr (.inr (.inr (.inr (.inr rfl))))),by simp⟩
inductive RS (d:Des):Nat→List Int→Nat→Nat→Prop
 |base:RS d (d.length-1) [1] 0 1
 |call {b i b' s κ:Nat} {R cs:List Int} {y:Ins} (h:RS d b R s κ) (hy:(blk d b)[i]?=some y) (ho:y.op=9) (ha:y.a=(stA d b':Int)) (hb:b'<b) (hc:cs.length=lpL (blk d b) i):RS d b' (R++cs++[(stA d b:Int)+(i:Int)+1]) (s+smL (blk d b) i) (κ+30)
section
variable{d:Des}(hD:DrawD d)
include hD
theorem blk_x{j:Nat}(hj:j<d.length):RuX (blk d j):=by
 have hx:d[j]?=some _:=Za6 hj
 rw[Wr hD hx]
 exact rule_x hD hx _ _
theorem Au(p:Prg)(j:Nat):∀k' k:Nat,k≤k'→Wf p k j≤Wf p k' j
 |0,k,h=>by
  obtain rfl:k=0:=by omega
  exact Int.le_refl _
 |k'+1,k,h=>by
  by_cases e:k=k'+1
  ·subst e;exact Int.le_refl _
  ·have ih:=Au p j k' k (by omega)
   rw[Wf]
   unfold mx
   split
   ·split<;>omega
   ·exact ih
theorem As{j:Nat}:∀k' k:Nat,k≤k'→stA d (j+1)≤k→k'≤(cdF d).code.length→Wf (cdF d) k' j=Wf (cdF d) k j
 |0,k,h,h1,_=>by
  obtain rfl:k=0:=by omega
  rfl
 |k'+1,k,h,h1,h2=>by
  by_cases e:k=k'+1
  ·subst e;rfl
  ·have ih:=As k' k (by omega) h1 (by omega)
   rw[Wf,if_neg,ih]
   rintro⟨q1,_,q3⟩
   have hcl:=Qs hD
   obtain⟨b,hb,h3,h4⟩:=Eg d d.length k' q1 (by omega)
   rw[bo_at hD hb (by omega) (by omega)]at q3
   have:=Ua d (j+1) (b+1) (by omega)
   omega
theorem Iy{b i b':Nat}{y:Ins}(hb:b<d.length)(hy:(blk d b)[i]?=some y)(ho:y.op=9)(ha:y.a=(stA d b':Int))(hb':b'<b):Wf (cdF d) (cdF d).code.length b'+1+(lpL (blk d b) i:Int)≤Wf (cdF d) (cdF d).code.length b:=by
 have hi:=(Za5.1 hy).1
 have hcl:=Qs hD
 have hnx:=Vl d b
 have hnx':=Vl d b'
 have hbd':=J3 hD (j:=b') (by omega)
 have hmn:=Ua d d.length (b+1) (by omega)
 have hmn':=Ua d b (b'+1) (by omega)
 have h20:stA d 0=2:=by simp[stA,cdT]
 have h2:=Ua d b 0 (by omega)
 obtain⟨_,o1,o2⟩:=Qh hD hb hy ((stA d b+i:Nat):Int) (by omega)
 have hbo:=bo_at hD hb (i:=((stA d b+i:Nat):Int)) (by omega) (by omega)
 have hbo':=bo_at hD (j:=b') (by omega) (i:=(stA d b':Int)) (by omega) (by omega)
 have m1:=Au hD (cdF d) b (cdF d).code.length (stA d b+i+1) (by omega)
 have m2:=As hD (j:=b') (cdF d).code.length (stA d b+i) (by omega) (by omega) (Nat.le_refl _)
 have e:Wf (cdF d) (stA d b+i+1) b=mx (Wf (cdF d) (stA d b+i) b) ((if opA (cdF d) (((stA d b+i:Nat):Int)-1)=7 then 2 else 1)+Wf (cdF d) (stA d b+i) b'):=by
  rw[Wf,if_pos ⟨by omega,by omega,hbo⟩,o2,ha,hbo',Int.toNat_natCast]
 have hlp:lpL (blk d b) i=1→opA (cdF d) (((stA d b+i:Nat):Int)-1)=7:=fun h=>by
  unfold lpL at h
  split at h
  ·rename_i h7
   have o9:=Uw hy
   rcases h7 with h7|h7|⟨h7a,h7b⟩
   ·omega
   ·omega
   ·obtain⟨z,hz⟩:∃z,(blk d b)[i-1]?=some z:=⟨_,Za6 (by omega)⟩
    rw[Uw hz]at h7b
    rw[(Qh hD hb hz (((stA d b+i:Nat):Int)-1) (by omega)).2.1];exact h7b
  ·omega
 have hl1:lpL (blk d b) i=0∨lpL (blk d b) i=1:=by unfold lpL;split<;>omega
 rw[e]at m1
 unfold mx at m1
 rcases hl1 with h|h
 ·rw[h];split at m1<;>split at m1<;>omega
 ·rw[if_pos (hlp h)]at m1
  rw[h];split at m1<;>omega
theorem rs_bd{b s κ:Nat}{R:List Int}(h:RS d b R s κ):b<d.length∧(R.length:Int)+Wf (cdF d) (cdF d).code.length b≤need (cdF d)∧s+b≤d.length-1∧κ+30*b≤1+30*(d.length-1)∧1≤κ:=by
 have hp:=hD.pos
 induction h with
 |base=>refine⟨by omega,?_,by omega,by omega,by omega⟩;unfold need;rw[K7 hD];simp
 | @call b i b' s κ R cs y h hy ho ha hb hc ih=>
  obtain⟨i1,i2,i3,i4,i5⟩:=ih
  have hn:=Iy hD i1 hy ho ha hb
  have hs1:smL (blk d b) i≤1:=by unfold smL;split<;>omega
  refine⟨by omega,?_,by omega,by omega,by omega⟩
  rw[Za7,Za7,Zbb,hc]
  omega
end
structure At (d:Des) (m:Mch) (b i s κ:Nat) (R cs:List Int):Prop where
 hb:b<d.length
 hi:i<(blk d b).length
 pos:m.pc=(stA d b:Int)+(i:Int)
 rs:RS d b R s κ
 stack:m.stack=R++cs
 lp:cs.length=lpL (blk d b) i
 sums:m.sums.length=s+smL (blk d b) i
def Za4(L:List Ins)(i:Nat):Prop:=i=0∨(i=1∧opL L 0=14)
instance (L:List Ins) (i:Nat):Decidable (Za4 L i):=by unfold Za4;infer_instance
def wL(L:List Ins)(i:Nat):Nat:=if opL L i=8 then L.length-i+3 else L.length-i
noncomputable def rk(d:Des)(b i κ:Nat):Nat:=if Za4 (blk d b) i then 2*b+2-i else wL (blk d b) i+κ+15
def Cfg(d:Des)(m:Mch)(ρ:Nat):Prop:=m.state=0∧m.started=false∧((m.pc=0∧m.stack=[]∧m.sums=[]∧ρ=20)∨(m.pc=1∧m.stack=[]∧m.sums.length=0∧ρ=1)∨∃b i s κ R cs,At d m b i s κ R cs∧ρ=rk d b i κ)
def Stt(d:Des)(m:Mch):Prop:=m.state=0∧m.started=true∧∃b i s κ R cs y,At d m b i s κ R cs∧(blk d b)[i]?=some y∧(y.op=1∨y.op=2∨y.op=3∨y.op=4∨y.op=13∨y.op=15∨y.op=16)∧((y.op=1→1≤m.left∧m.left≤y.a)∧(y.op=15→m.left=1))
def MBd(d:Des)(m:Mch):Prop:=(m.stack.length:Int)≤need (cdF d)∧m.sums.length≤d.length
def MGd(d:Des)(m:Mch):Prop:=MBd d m∧((∃ρ,ρ≤100000∧Cfg d m ρ)∨Stt d m∨m.state=1∨(m.state=2∧m.code≠8))
section
variable{d:Des}(hD:DrawD d)
include hD
theorem Zax{m:Mch}{b i s κ:Nat}{R cs:List Int}(h:At d m b i s κ R cs):MBd d m:=by
 obtain⟨r1,r2,r3,r4,r5⟩:=rs_bd hD h.rs
 have hS:=Ml hD h.hb
 have hn:=U0 (cdF d) (cdF d).code.length b
 have hs1:smL (blk d b) i≤1:=by unfold smL;split<;>omega
 have hsl:=h.sums
 have hst:=congrArg List.length h.stack
 rw[Za7,h.lp]at hst
 refine⟨?_,by omega⟩
 by_cases h0:lpL (blk d b) i=0
 ·omega
 have hl1:lpL (blk d b) i=1:=by unfold lpL at h0 ⊢;split at h0<;>simp_all
 have hc:∃c,opL (blk d b) c=9:=by
  unfold lpL at hl1
  split at hl1
  ·rename_i h7
   rcases h7 with h7|h7|⟨h7a,h7⟩
   ·exact⟨_,(hS.l7 _ h7).2.2.1⟩
   ·exact⟨_,(hS.l7 _ (hS.l8 _ h7).2).2.2.1⟩
   ·exact⟨_,(hS.l7 _ h7).2.2.1⟩
  ·omega
 obtain⟨c,hc⟩:=hc
 obtain⟨y,hy⟩:∃y,(blk d b)[c]?=some y:=by
  cases hy:(blk d b)[c]? with
  |none=>unfold opL at hc;rw[hy]at hc;simp at hc
  |some y=>exact⟨y,rfl⟩
 rw[Uw hy]at hc
 obtain⟨b',hb',ha⟩:=Bc ((Vs hD h.hb hy).call hc)
 have h1:=Iy hD h.hb hy hc ha hb'
 have h2:=U0 (cdF d) (cdF d).code.length b'
 omega
theorem wL_le{b i:Nat}(hb:b<d.length)(hi:i<(blk d b).length):1≤wL (blk d b) i∧wL (blk d b) i≤15:=by
 have:=J3 hD hb
 unfold wL
 split<;>omega
theorem rk_pos{b i κ:Nat}(hb:b<d.length):1≤rk d b i κ:=by
 unfold rk
 split
 ·rename_i h
  rcases h with h|⟨h,_⟩<;>omega
 ·omega
theorem Ts{b i:Nat}(hb:b<d.length)(ho:opL (blk d b) i≠1∧opL (blk d b) i≠2∧opL (blk d b) i≠3∧opL (blk d b) i≠9∧opL (blk d b) i≠13∧opL (blk d b) i≠14∧opL (blk d b) i≠16):¬Za4 (blk d b) i:=by
 rintro(rfl|⟨rfl,h⟩)
 ·have:=(blk_x hD hb).first;omega
 ·have:=((Ml hD hb).l14 _ h).1;simp at this;omega
theorem Ag{b i κ:Nat}(h:¬Za4 (blk d b) i):rk d b i κ=wL (blk d b) i+κ+15:=if_neg h
theorem Af{b i κ t:Nat}(h:¬Za4 (blk d b) i)(h8:opL (blk d b) i≠8)(hi:i<(blk d b).length)(ht:i<t)(ht8:opL (blk d b) t≠8)(h14:¬Za4 (blk d b) t):rk d b t κ<rk d b i κ:=by
 rw[Ag hD h,Ag hD h14]
 unfold wL
 rw[if_neg h8,if_neg ht8]
 omega
theorem Df{b t:Nat}(ht:2≤t):¬Za4 (blk d b) t:=by rintro(h|⟨h,_⟩)<;>omega
theorem Jg{m:Mch}{b i s κ:Nat}{R cs:List Int}(h0:m.state=0)(h1:m.started=false)(h:At d m b i s κ R cs):Cfg d m (rk d b i κ):=⟨h0,h1,.inr (.inr ⟨b,i,s,κ,R,cs,h,rfl⟩)⟩
theorem at_ins{m:Mch}{b i s κ:Nat}{R cs:List Int}(h:At d m b i s κ R cs):∃y,(blk d b)[i]?=some y∧mAt (cdF d) m=y∧Idx (cdF d) m.pc:=by
 obtain⟨y,hy⟩:∃y,(blk d b)[i]?=some y:=⟨_,Za6 h.hi⟩
 have hc:=(Qh hD h.hb hy m.pc h.pos).1
 refine⟨y,hy,by unfold mAt;rw[hc];rfl,?_⟩
 have:=(Za5.1 hc).1
 have hp:=h.pos
 unfold Idx
 omega
theorem Fo{m:Mch}{b i s κ:Nat}{R cs:List Int}(h:At d m b i s κ R cs):w64 (m.pc+1)=(stA d b:Int)+((i+1:Nat):Int):=by
 have h1:=Ex hD b (by have:=h.hb;omega)
 have h2:=hD.most
 have h3:=J3 hD h.hb
 have h4:=h.hi
 have h5:=h.hb
 rw[h.pos,Wh (by omega)];omega
theorem F7:need (cdF d)≤13:=by have:=Ea hD;have:=hD.most;omega
theorem step_at{m:Mch}{b i s κ:Nat}{R cs:List Int}(h:At d m b i s κ R cs)(h0:m.state=0)(h1:m.started=false){y:Ins}(hy:(blk d b)[i]?=some y):(∃ρ',ρ'<rk d b i κ∧Cfg d (Yq m y) ρ')∨(MGd d (Yq m y)∧¬Pa (Yq m y)):=by
 have hS:=Ml hD h.hb
 have hX:=blk_x hD h.hb
 have hL:=Vs hD h.hb hy
 have hop:=Uw hy
 have hmb:=Zax hD h
 have hat:=Fo hD h
 have hns:=F7 hD
 have hr:=rs_bd hD h.rs
 have hmost:=hD.most
 have hmem:=Zba hy
 have h17:=hL.no17
 have hok:=hL.ok
 have hstt:∀m':Mch,m'.state=0→m'.started=true→m'.pc=m.pc→m'.stack=m.stack→m'.sums=m.sums→(y.op=1∨y.op=2∨y.op=3∨y.op=4∨y.op=13∨y.op=15∨y.op=16)→((y.op=1→1≤m'.left∧m'.left≤y.a)∧(y.op=15→m'.left=1))→MGd d m'∧¬Pa m':=fun m' a1 a2 a3 a4 a5 a6 a7=>by
  have hA:At d m' b i s κ R cs:=⟨h.hb,h.hi,a3.trans h.pos,h.rs,a4.trans h.stack,h.lp,(congrArg List.length a5).trans h.sums⟩
  exact⟨⟨Zax hD hA,.inr (.inl ⟨a1,a2,b,i,s,κ,R,cs,y,hA,hy,a6,a7⟩)⟩,fun hm=>by have:=hm.2;rw[a2]at this;cases this⟩
 have hfail:∀c:Int,c≠8→MGd d (X6 m c)∧¬Pa (X6 m c):=fun c hc=>⟨⟨hmb,.inr (.inr (.inr ⟨rfl,hc⟩))⟩,fun hm=>by have:=hm.1;simp[X6]at this⟩
 have hplain:∀m':Mch,m'.state=0→m'.started=false→m'.pc=w64 (m.pc+1)→m'.stack=m.stack→m'.sums=m.sums→(opL (blk d b) i≠6∧opL (blk d b) i≠7∧opL (blk d b) i≠8∧opL (blk d b) i≠9∧opL (blk d b) i≠14∧opL (blk d b) i≠15)→i+1<(blk d b).length→¬Za4 (blk d b) i→∃ρ',ρ'<rk d b i κ∧Cfg d m' ρ':=fun m' a1 a2 a3 a4 a5 a6 a7 a8=>by
  obtain⟨p1,p2,p3,p4⟩:=hS.plain a6
  have hi1:1≤i:=by rcases Nat.eq_zero_or_pos i with e|e;exact absurd (.inl e) a8;exact e
  have hA:At d m' b (i+1) s κ R cs:=⟨h.hb,a7,by rw[a3,hat],h.rs,a4.trans h.stack,by rw[p3,h.lp,p1],by rw[a5,h.sums,p4,p2]⟩
  exact⟨_,Af hD a8 a6.2.2.1 h.hi (by omega) (hS.no8 a6.2.2.2.1) (Df hD (by omega)),Jg hD a1 a2 hA⟩
 rcases(show y.op=1∨y.op=2∨y.op=3∨y.op=4∨y.op=5∨y.op=6∨y.op=7∨y.op=8∨y.op=9∨y.op=10∨y.op=11∨y.op=12∨y.op=13∨y.op=14∨y.op=15∨y.op=16 by have:=hok.2.2.2.2.2;unfold InR at this;omega) with o|o|o|o|o|o|o|o|o|o|o|o|o|o|o|o
 ·have ha:=(hok.1 o).1
  unfold InR at ha
  have e:Yq m y={m with register:=0,started:=true,left:=y.a}:=by simp only[Yq,o,if_pos,X7];rw[if_neg (by omega)]
  rw[e]
  exact .inr (hstt _ h0 rfl rfl rfl rfl (.inl o) ⟨fun _=>⟨ha.1,Int.le_refl _⟩,fun e=>by omega⟩)
 ·have e:Yq m y={m with started:=true,left:=1}:=by simp[Yq,o,X7]
  rw[e]
  exact .inr (hstt _ h0 rfl rfl rfl rfl (.inr (.inl o)) ⟨fun e=>by omega,fun e=>by first|rfl|omega⟩)
 ·have ha:=hX.skip y hmem o
  have e:Yq m y={m with started:=true,left:=y.a}:=by simp[Yq,o,X7];omega
  rw[e]
  exact .inr (hstt _ h0 rfl rfl rfl rfl (.inr (.inr (.inl o))) ⟨fun e=>by omega,fun e=>by first|rfl|omega⟩)
 ·have e:Yq m y=X7 m m.register:=by simp[Yq,o]
  rw[e]
  unfold X7
  split
  ·exact .inl (hplain _ h0 h1 rfl rfl rfl (by omega) (hL.goes (by omega)) (Ts hD h.hb (by omega)))
  ·exact .inr (hstt _ h0 rfl rfl rfl rfl (.inr (.inr (.inr (.inl o)))) ⟨fun e=>by omega,fun e=>by first|rfl|omega⟩)
 ·have e:Yq m y=if y.a<m.register then X6 m 6 else K2 m:=by simp[Yq,o]
  rw[e]
  split
  ·exact .inr (hfail 6 (by decide))
  ·exact .inl (hplain _ h0 h1 rfl rfl rfl (by omega) (hL.goes (by omega)) (Ts hD h.hb (by omega)))
 ·have e:Yq m y=Q9 m m.register (w64 (m.pc+1)):=by simp[Yq,o]
  rw[e]
  unfold Q9
  rw[if_neg (by have:=hmb.1;omega)]
  obtain⟨p1,p2,p3,p4⟩:=hS.push (hop.trans o)
  have hg:=hL.goes (by omega)
  have hA:At d {m with stack:=m.stack++[m.register],pc:=w64 (m.pc+1)} b (i+1) s κ R (cs++[m.register]):=⟨h.hb,hg,hat,h.rs,by simp only;rw[h.stack,List.append_assoc],by rw[Za7,Zbb,h.lp,p1,p3],by simp only;rw[h.sums,p2,p4]⟩
  have hasc:=Ts hD h.hb (i:=i) (by omega)
  have hi1:1≤i:=by rcases Nat.eq_zero_or_pos i with e|e;exact absurd (.inl e) hasc;exact e
  exact .inl ⟨_,Af hD hasc (by omega) h.hi (by omega) (hS.no8 (by omega)) (Df hD (by omega)),Jg hD h0 h1 hA⟩
 ·obtain⟨p1,p2,p3,p4,p5,p6,p7⟩:=hS.loop (hop.trans o)
  obtain⟨m0,_,_,_,hm0,_,_,_,_,_,_,_,hya,hlt⟩:=hL.loop o
  have hcs:=h.lp
  rw[p1]at hcs
  obtain⟨c,rfl⟩:∃c,cs=[c]:=by
   cases cs with
   |nil=>simp at hcs
   |cons c l=>cases l with
    |nil=>exact⟨c,rfl⟩
    |cons _ _=>simp at hcs
  have hlen:m.stack.length-1=R.length:=by rw[h.stack];simp
  have htop:H1 m=c:=by unfold H1;rw[hlen,h.stack];simp
  have hdrop:(Jt m).stack=R:=by unfold Jt;simp only;rw[hlen,h.stack];simp
  have hne:¬m.stack.length=0:=by rw[h.stack];simp
  have e:Yq m y=Js m y.a:=by simp[Yq,o]
  have hasc:=Ts hD h.hb (i:=i) (by omega)
  rw[e]
  unfold Js
  rw[if_neg hne,htop]
  split
  ·have hA:At d {Jt m with pc:=y.a} b (i+3) s κ R []:=⟨h.hb,hlt,by simp only;rw[hya];omega,h.rs,by simp only;rw[hdrop,List.append_nil],by rw[p5];rfl,by show m.sums.length=_;rw[h.sums,p2,p6]⟩
   exact .inl ⟨_,Af hD hasc (by omega) h.hi (by omega) p7 (Df hD (by omega)),Jg hD h0 h1 hA⟩
  ·have hA:At d {m with stack:=m.stack.set (m.stack.length-1) (w64 (c-1)),pc:=w64 (m.pc+1)} b (i+1) s κ R [w64 (c-1)]:=⟨h.hb,by omega,hat,h.rs,by simp only;rw[hlen,h.stack];simp,by rw[p3];rfl,by simp only;rw[h.sums,p2,p4]⟩
   exact .inl ⟨_,Af hD hasc (by omega) h.hi (by omega) (hS.no8 (by omega)) (Df hD (by omega)),Jg hD h0 h1 hA⟩
 ·obtain⟨p1,p2,p3,p4⟩:=hS.jump (hop.trans o)
  obtain⟨k,z,hk,hz,hzo⟩:=hL.jump o
  obtain⟨_,w,hw,_,hwa⟩:=Dk hD h.hb hz hzo
  rw[←hk,hy]at hw;injection hw with hw;subst hw
  have e:Yq m y={m with pc:=y.a}:=by simp[Yq,o]
  have hi2:i-2=k:=by omega
  rw[hi2]at p3 p4
  have hA:At d {m with pc:=y.a} b k s κ R cs:=⟨h.hb,by have:=h.hi;omega,hwa,h.rs,h.stack,by rw[h.lp,p1,p3],by show m.sums.length=_;rw[h.sums,p2,p4]⟩
  have hasc:=Ts hD h.hb (i:=i) (by omega)
  have hzk:=Uw hz
  have hasc':=Ts hD h.hb (i:=k) (by omega)
  rw[e]
  refine .inl ⟨_,?_,Jg hD h0 h1 hA⟩
  rw[Ag hD hasc,Ag hD hasc']
  unfold wL
  have:=h.hi
  rw[if_pos (hop.trans o),if_neg (by omega)]
  omega
 ·have hc:=hL.call o
  obtain⟨b',hb',ha⟩:=Bc hc
  have e:Yq m y=Q9 m (w64 (m.pc+1)) y.a:=by simp[Yq,o]
  rw[e]
  unfold Q9
  rw[if_neg (by have:=hmb.1;omega)]
  have hR:=RS.call h.rs hy o ha hb' h.lp
  have hst:=(Ml hD (j:=b') (by have:=h.hb;omega)).start
  have hbb:=J3 hD (j:=b') (by have:=h.hb;omega)
  have hA:At d {m with stack:=m.stack++[w64 (m.pc+1)],pc:=y.a} b' 0 (s+smL (blk d b) i) (κ+30) (R++cs++[(stA d b:Int)+(i:Int)+1]) []:=⟨by have:=h.hb;omega,by omega,by simp only;rw[ha];omega,hR,by simp only;rw[hat,h.stack,List.append_nil,show(stA d b:Int)+((i+1:Nat):Int)=(stA d b:Int)+(i:Int)+1 by omega],by rw[hst.1];rfl,by simp only;rw[h.sums,hst.2,Nat.add_zero]⟩
  refine .inl ⟨_,?_,Jg hD h0 h1 hA⟩
  have e1:rk d b' 0 (κ+30)=2*b'+2:=by unfold rk;rw[if_pos (.inl rfl)];omega
  rw[e1]
  unfold rk
  have:=h.hb
  split
  ·rename_i hd
   rcases hd with hd|⟨hd,_⟩<;>omega
  ·omega
 ·obtain⟨p1,p2⟩:=hS.ret (hop.trans o)
  have hcs:cs=[]:=List.eq_nil_of_length_eq_zero (by rw[h.lp,p1])
  have hstk:=h.stack
  rw[hcs,List.append_nil]at hstk
  have hsm:=h.sums
  rw[p2,Nat.add_zero]at hsm
  have hasc:=Ts hD h.hb (i:=i) (by omega)
  have hwl:=wL_le hD h.hb h.hi
  have e:Yq m y=Mb m:=by simp[Yq,o]
  rw[e,Ag hD hasc]
  unfold Mb
  have hrs:=h.rs
  clear hr hplain hstt hfail hmb hat h
  cases hrs with
  |base=>
   rw[if_neg (by rw[hstk];simp)]
   refine .inl ⟨1,by omega,h0,h1,.inr (.inl ⟨?_,?_,hsm,rfl⟩)⟩
   ·simp only[H1,hstk];rfl
   ·simp only[Jt,hstk];rfl
  | @call b0 i0 _ s0 κ0 R0 cs0 y0 hrs hy0 ho0 ha0 hb0 hc0=>
   have hr0:=rs_bd hD hrs
   have hS0:=Ml hD hr0.1
   obtain⟨q1,q2⟩:=hS0.call ((Uw hy0).trans ho0)
   have hg0:=(Vs hD hr0.1 hy0).goes (by omega)
   have hlen:m.stack.length-1=(R0++cs0).length:=by rw[hstk];simp
   have htop:H1 m=(stA d b0:Int)+(i0:Int)+1:=by unfold H1;rw[hlen,hstk];simp
   have hdrop:(Jt m).stack=R0++cs0:=by unfold Jt;simp only;rw[hlen,hstk,List.take_left]
   rw[if_neg (by rw[hstk];simp),htop]
   have hA:At d {Jt m with pc:=(stA d b0:Int)+(i0:Int)+1} b0 (i0+1) s0 κ0 R0 cs0:=⟨hr0.1,hg0,by simp only;omega,hrs,hdrop,by rw[hc0,q1],by show m.sums.length=_;rw[hsm,q2]⟩
   have hnd:¬Za4 (blk d b0) (i0+1):=by
    rintro(e|⟨e,e14⟩)
    ·omega
    ·obtain rfl:i0=0:=by omega
     rw[Uw hy0]at e14;omega
   have hw0:=wL_le hD hr0.1 hg0
   refine .inl ⟨_,?_,Jg hD h0 h1 hA⟩
   rw[Ag hD hnd]
   omega
 ·have hj:=hX.jumps ⟨y,hmem,.inl o⟩
  have hz:∀t,opL (blk d b) t≠7∧opL (blk d b) t≠8∧opL (blk d b) t≠14∧opL (blk d b) t≠15:=fun t=>by
   unfold opL
   cases ht:(blk d b)[t]? with
   |none=>simp
   |some z=>exact hj z (Zba ht)
  have hz0:∀t,lpL (blk d b) t=0∧smL (blk d b) t=0:=fun t=>⟨if_neg (by have:=hz t;have:=hz (t-1);rintro(e|e|e)<;>omega),if_neg (by have:=hz t;have:=hz (t-1);rintro(e|e)<;>omega)⟩
  have hasc:=Ts hD h.hb (i:=i) (by omega)
  have e:Yq m y=if m.register=y.a then {m with pc:=y.b} else K2 m:=by simp[Yq,o]
  rw[e]
  split
  ·have ht:=hL.tag o
   obtain⟨t,htt⟩:∃t:Nat,y.b=(stA d b:Int)+(t:Int):=⟨(y.b-stA d b).toNat,by omega⟩
   have hA:At d {m with pc:=y.b} b t s κ R cs:=⟨h.hb,by omega,htt,h.rs,h.stack,by rw[h.lp,(hz0 i).1,(hz0 t).1],by show m.sums.length=_;rw[h.sums,(hz0 i).2,(hz0 t).2]⟩
   have hnd:¬Za4 (blk d b) t:=by
    rintro(e|⟨_,e14⟩)
    ·omega
    ·exact(hz 0).2.2.1 e14
   exact .inl ⟨_,Af hD hasc (by omega) h.hi (by omega) (hz t).2.1 hnd,Jg hD h0 h1 hA⟩
  ·exact .inl (hplain _ h0 h1 rfl rfl rfl (by omega) (hL.goes (by omega)) hasc)
 ·have ha:=hX.fail y hmem o
  have e:Yq m y=X6 m y.a:=by simp[Yq,o]
  rw[e,ha]
  exact .inr (hfail 3 (by decide))
 ·have e:Yq m y={m with started:=true,left:=1}:=by simp[Yq,o,X7]
  rw[e]
  exact .inr (hstt _ h0 rfl rfl rfl rfl (.inr (.inr (.inr (.inr (.inl o))))) ⟨fun e=>by omega,fun e=>by first|rfl|omega⟩)
 ·obtain⟨p1,p2,p3,p4⟩:=hS.mark (hop.trans o)
  have e:Yq m y=if 30≤m.sums.length then X6 m 8 else {K2 m with sums:=m.sums++[0]}:=by simp[Yq,o]
  rw[e,if_neg (by have:=hmb.2;omega)]
  have hA:At d {K2 m with sums:=m.sums++[0]} b (i+1) s κ R cs:=⟨h.hb,hL.goes (by omega),hat,h.rs,h.stack,by rw[h.lp,p1,p3],by simp only[Za7,Zbb];rw[h.sums,p2,p4]⟩
  have h9:=(hS.l14 _ (hop.trans o)).1
  refine .inl ⟨_,?_,Jg hD h0 h1 hA⟩
  by_cases hi0:i=0
  ·subst hi0
   have e1:rk d b 0 κ=2*b+2:=by unfold rk;rw[if_pos (.inl rfl)];omega
   have e2:rk d b (0+1) κ=2*b+1:=by unfold rk;rw[if_pos (.inr ⟨rfl,hop.trans o⟩)];omega
   omega
  ·have hasc:¬Za4 (blk d b) i:=by
    rintro(e|⟨e,e14⟩)
    ·exact hi0 e
    ·subst e
     have:=(hS.l14 _ e14).1;simp at this;omega
   exact Af hD hasc (by omega) h.hi (by omega) (by omega) (Df hD (by omega))
 ·obtain⟨p1,p2,p3,p4,p5⟩:=hS.sum (hop.trans o)
  have e:Yq m y=if m.sums.length=0 then X6 m 8 else X7 m 1:=by simp[Yq,o]
  have e2:X7 m 1={m with started:=true,left:=1}:=by simp[X7]
  rw[e,if_neg (by rw[h.sums,p2];omega),e2]
  exact .inr (hstt _ h0 rfl rfl rfl rfl (.inr (.inr (.inr (.inr (.inr (.inl o)))))) ⟨fun e=>by omega,fun e=>by first|rfl|omega⟩)
 ·have e:Yq m y={m with started:=true,left:=1}:=by simp[Yq,o,X7]
  rw[e]
  exact .inr (hstt _ h0 rfl rfl rfl rfl (.inr (.inr (.inr (.inr (.inr (.inr o)))))) ⟨fun e=>by omega,fun e=>by first|rfl|omega⟩)
end
theorem Vn{p:Prg}{n:Nat}{m:Mch}(h:¬Pa m):U1 p n m=m:=by cases n<;>(unfold U1;rw[if_neg h])
section
variable{d:Des}(hD:DrawD d)
include hD
theorem rk_le{b i κ s:Nat}{R:List Int}(hb:b<d.length)(hi:i<(blk d b).length)(h:RS d b R s κ):rk d b i κ≤100000:=by
 have h1:=wL_le hD hb hi
 have h2:=rs_bd hD h
 have h3:=hD.most
 unfold rk
 split<;>omega
theorem Rs:∀(n:Nat) (m:Mch) (ρ:Nat),Cfg d m ρ→ρ≤n→MGd d (U1 (cdF d) n m)∧¬Pa (U1 (cdF d) n m)
 |0,m,ρ,h,hρ=>by
  obtain⟨_,_,h|h|⟨b,i,s,κ,R,cs,hA,e⟩⟩:=h
  ·omega
  ·omega
  ·have:=rk_pos hD (i:=i) (κ:=κ) hA.hb;omega
 |n+1,m,ρ,h,hρ=>by
  obtain⟨h0,h1,h⟩:=h
  have hnd:=Ea hD
  have hp:=hD.pos
  rw[U1,if_pos ⟨h0,h1⟩]
  have hcl:=Ti hD
  have hfr:=Ab hD
  rcases h with⟨ha,hs,hm,e⟩|⟨ha,hs,hm,e⟩|⟨b,i,s,κ,R,cs,hA,e⟩
  ·have hc0:(cdF d).code[m.pc.toNat]?=some ⟨9,(stA d (d.length-1):Int),0⟩:=by rw[ha,Uf hD];rfl
   have hmA:mAt (cdF d) m=⟨9,(stA d (d.length-1):Int),0⟩:=by unfold mAt;rw[hc0];rfl
   have hl:=(Za5.1 hc0).1
   have hst:=(Ml hD (j:=d.length-1) (by omega)).start
   have hbb:=J3 hD (j:=d.length-1) (by omega)
   rw[if_pos (by unfold Idx;omega),hmA]
   have ep:Yq m ⟨9,(stA d (d.length-1):Int),0⟩={m with stack:=[1],pc:=(stA d (d.length-1):Int)}:=by
    simp only[Yq]
    simp only[Q9,hs,ha]
    rfl
   rw[ep]
   have hA:At d {m with stack:=[1],pc:=(stA d (d.length-1):Int)} (d.length-1) 0 0 1 [1] []:=⟨by omega,by omega,by simp only;omega,RS.base,rfl,by rw[hst.1];rfl,by simp only[hm];rw[hst.2];rfl⟩
   have e1:rk d (d.length-1) 0 1=2*(d.length-1)+2:=by unfold rk;rw[if_pos (.inl rfl)];omega
   have:=hD.most
   exact Rs n _ _ (Jg hD h0 h1 hA) (by omega)
  ·have hc0:(cdF d).code[m.pc.toNat]?=some ⟨17,0,0⟩:=by rw[ha,Uf hD];rfl
   have hmA:mAt (cdF d) m=⟨17,0,0⟩:=by unfold mAt;rw[hc0];rfl
   have hl:=(Za5.1 hc0).1
   rw[if_pos (by unfold Idx;rw[ha]at hl ⊢;simp at hl;omega),hmA]
   have ep:Yq m ⟨17,0,0⟩={m with state:=1}:=by simp[Yq]
   have hnr:¬Pa {m with state:=1}:=fun hh=>by have:=hh.1;simp at this
   rw[ep,Vn hnr]
   refine⟨⟨⟨by simp only[hs,Za9];omega,by simp only[hm];omega⟩,.inr (.inr (.inl rfl))⟩,hnr⟩
  ·obtain⟨y,hy,hmA,hidx⟩:=at_ins hD hA
   rw[if_pos hidx,hmA]
   rcases step_at hD hA h0 h1 hy with⟨ρ',hlt,hc⟩|⟨hg,hnr⟩
   ·exact Rs n _ _ hc (by omega)
   ·rw[Vn hnr];exact⟨hg,hnr⟩
theorem Fr{m:Mch}(h:MGd d m):MGd d (Uq (cdF d) true m)∧((Uq (cdF d) true m).state=0→Stt d (Uq (cdF d) true m)):=by
 unfold Uq
 by_cases h0:m.state=0
 ·rw[if_neg (by omega)]
  obtain⟨hb,⟨ρ,hρ,hc⟩|hs|h1|h2⟩:=h
  ·have hst:=hc.2.1
   rw[if_neg (by rintro(e|e);cases e;rw[hst]at e;cases e.1)]
   obtain⟨g1,g2⟩:=Rs hD 100001 m ρ hc (by omega)
   refine⟨g1,fun e=>?_⟩
   obtain⟨_,⟨ρ',_,hc'⟩|hs|e1|⟨e2,_⟩⟩:=g1
   ·exact absurd ⟨hc'.1,hc'.2.1⟩ g2
   ·exact hs
   ·omega
   ·omega
  ·obtain⟨a1,a2,b,i,s,κ,R,cs,y,hA,hrest⟩:=hs
   obtain⟨_,_,_,hidx⟩:=at_ins hD hA
   have hnr:¬Pa m:=fun e=>by have:=e.2;rw[a2]at this;cases this
   rw[if_neg (by rintro(e|e);cases e;exact e.2 hidx),Vn hnr]
   exact⟨⟨hb,.inr (.inl ⟨a1,a2,b,i,s,κ,R,cs,y,hA,hrest⟩)⟩,fun _=>⟨a1,a2,b,i,s,κ,R,cs,y,hA,hrest⟩⟩
  ·omega
  ·omega
 ·rw[if_pos h0]
  exact⟨h,fun e=>absurd e h0⟩
theorem byte_good{m:Mch}(h:Stt d m)(c:Int):MGd d (Bt (cdF d) m c):=by
 obtain⟨h0,h1,b,i,s,κ,R,cs,y,hA,hy,hop,hl1,hl15⟩:=h
 obtain⟨y',hy',hmA,_⟩:=at_ins hD hA
 rw[hy]at hy';injection hy' with hy';subst hy'
 have hS:=Ml hD hA.hb
 have hX:=blk_x hD hA.hb
 have hL:=Vs hD hA.hb hy
 have ho:=Uw hy
 have hmb:=Zax hD hA
 have hat:=Fo hD hA
 have hmem:=Zba hy
 have hg:=hL.goes (by unfold Goes;omega)
 have hok:=hL.ok
 unfold Bt
 rw[hmA,if_neg (by
  rintro(⟨e,e2⟩|⟨e,e2⟩)
  ·exact e2 (hl1 e)
  ·have:=(hS.sum (ho.trans e)).2.1
   have:=hA.sums
   omega)]
 -- where the byte leaves the instruction
 have hstay:∀m':Mch,m'.state=0→m'.started=true→m'.pc=m.pc→m'.stack=m.stack→m'.sums.length=m.sums.length→(y.op=1→1≤m'.left∧m'.left≤y.a)→y.op≠15→MGd d m':=fun m' a1 a2 a3 a4 a5 a6 a7=>by
  have hA':At d m' b i s κ R cs:=⟨hA.hb,hA.hi,a3.trans hA.pos,hA.rs,a4.trans hA.stack,hA.lp,a5.trans hA.sums⟩
  exact⟨Zax hD hA',.inr (.inl ⟨a1,a2,b,i,s,κ,R,cs,y,hA',hy,hop,a6,fun e=>absurd e a7⟩)⟩
 have hnext:∀m':Mch,m'.state=0→m'.started=false→m'.pc=w64 (m.pc+1)→m'.stack=m.stack→m'.sums.length=s→MGd d m':=fun m' a1 a2 a3 a4 a5=>by
  have hz:lpL (blk d b) (i+1)=0∧smL (blk d b) (i+1)=0∧lpL (blk d b) i=0:=by
   by_cases e:y.op=15
   ·have:=hS.sum (ho.trans e);exact⟨this.2.2.1,this.2.2.2.1,this.1⟩
   ·have:=hS.plain (i:=i) (by omega);exact⟨this.2.2.1,this.2.2.2,this.1⟩
  have hA':At d m' b (i+1) s κ R cs:=⟨hA.hb,hg,by rw[a3,hat],hA.rs,a4.trans hA.stack,by rw[hA.lp,hz.1,hz.2.2],by rw[a5,hz.2.1,Nat.add_zero]⟩
  exact⟨Zax hD hA',.inl ⟨_,rk_le hD hA.hb hg hA.rs,Jg hD a1 a2 hA'⟩⟩
 have hfail:∀(m':Mch) (c:Int),m'.stack=m.stack→m'.sums.length=m.sums.length→c≠8→MGd d (X6 m' c):=fun m' c a1 a2 hc=>⟨⟨by show(m'.stack.length:Int)≤_;rw[a1];exact hmb.1,by show m'.sums.length≤_;rw[a2];exact hmb.2⟩,.inr (.inr (.inr ⟨rfl,hc⟩))⟩
 have hsm:y.op≠15→m.sums.length=s:=fun e=>by
  have:=(hS.plain (i:=i) (by omega)).2.1
  rw[hA.sums,this,Nat.add_zero]
 have hskip:∀m':Mch,m'.state=0→m'.started=true→m'.pc=m.pc→m'.stack=m.stack→m'.sums.length=m.sums.length→(y.op=1→m'.left≠0→1≤m'.left∧m'.left≤y.a)→y.op≠15→MGd d (Ws m'):=fun m' a1 a2 a3 a4 a5 a6 a7=>by
  unfold Ws
  split
  ·exact hnext _ a1 rfl (by simp only;rw[a3]) a4 (by simp only;rw[a5,hsm a7])
  ·rename_i hne
   exact hstay _ a1 a2 a3 a4 a5 (fun e=>a6 e hne) a7
 have hcl:∀m':Mch,(Yi m' c).sums.length=m'.sums.length:=fun m'=>by simp[Yi]
 unfold Uo
 by_cases e15:y.op=15
 ·rw[if_pos e15]
  have hs1:=(hS.sum (ho.trans e15)).2.1
  have hsl:=hA.sums
  rw[hs1]at hsl
  split
  ·exact hfail m 5 rfl rfl (by decide)
  ·have hl:=hl15 e15
   have e:Vi (Yi {m with sums:=m.sums.take (m.sums.length-1)} c) y c=Ws (Yi {m with sums:=m.sums.take (m.sums.length-1)} c):=by simp[Vi,e15]
   rw[e]
   unfold Ws
   have hl0:(Yi {m with sums:=m.sums.take (m.sums.length-1)} c).left=0:=by
    show w64 (m.left-1)=0
    rw[hl];exact Wh (by omega)
   rw[if_pos hl0]
   exact hnext _ h0 rfl rfl rfl (by simp only[hcl,List.length_take];omega)
 ·rw[if_neg e15]
  have hleft:y.op=1→(Yi m c).left≠0→1≤(Yi m c).left∧(Yi m c).left≤y.a:=fun e hne=>by
   have h2:=hl1 e
   have h3:=(hok.1 e).1
   unfold InR at h3
   have e4:(Yi m c).left=m.left-1:=Wh (by omega)
   omega
  have hsC:(Yi m c).sums.length=m.sums.length:=hcl m
  rcases hop with o|o|o|o|o|o|o
  ·have e:Vi (Yi m c) y c=Ws {Yi m c with register:=if y.b=1 then w64 ((Yi m c).register+c*2 ^ (8*(y.a-(Yi m c).left-1)).toNat) else w64 (w64 (256*(Yi m c).register)+c)}:=by simp[Vi,o]
   rw[e]
   exact hskip _ h0 h1 rfl rfl hsC hleft e15
  ·have e:Vi (Yi m c) y c=if c≠y.a then X6 (Yi m c) 2 else Ws (Yi m c):=by simp[Vi,o]
   rw[e]
   split
   ·exact hfail _ 2 rfl hsC (by decide)
   ·exact hskip _ h0 h1 rfl rfl hsC hleft e15
  ·have e:Vi (Yi m c) y c=Ws (Yi m c):=by simp[Vi,o]
   rw[e]
   exact hskip _ h0 h1 rfl rfl hsC hleft e15
  ·have e:Vi (Yi m c) y c=Ws (Yi m c):=by simp[Vi,o]
   rw[e]
   exact hskip _ h0 h1 rfl rfl hsC hleft e15
  ·have e:Vi (Yi m c) y c=if 1<c then X6 (Yi m c) 4 else if(Yi m c).left≠0 then Yi m c else {Yi m c with started:=false,pc:=if c=0 then y.a else w64 ((Yi m c).pc+1)}:=by simp[Vi,o]
   rw[e]
   split
   ·exact hfail _ 4 rfl hsC (by decide)
   split
   ·exact hstay _ h0 h1 rfl rfl hsC (fun e=>by omega) e15
   ·have hj:=hX.jumps ⟨y,hmem,.inr o⟩
    have hz:∀t,opL (blk d b) t≠7∧opL (blk d b) t≠8∧opL (blk d b) t≠14∧opL (blk d b) t≠15:=fun t=>by
     unfold opL
     cases ht:(blk d b)[t]? with
     |none=>simp
     |some z=>exact hj z (Zba ht)
    have hz0:∀t,lpL (blk d b) t=0∧smL (blk d b) t=0:=fun t=>⟨if_neg (by have:=hz t;have:=hz (t-1);rintro(e|e|e)<;>omega),if_neg (by have:=hz t;have:=hz (t-1);rintro(e|e)<;>omega)⟩
    have ht:=hL.flag o
    obtain⟨t,htl,htt⟩:∃t:Nat,t<(blk d b).length∧(if c=0 then y.a else w64 ((Yi m c).pc+1))=(stA d b:Int)+(t:Int):=by
     split
     ·exact⟨(y.a-stA d b).toNat,by omega,by omega⟩
     ·exact⟨i+1,hg,hat⟩
    have hA':At d {Yi m c with started:=false,pc:=if c=0 then y.a else w64 ((Yi m c).pc+1)} b t s κ R cs:=⟨hA.hb,htl,htt,hA.rs,hA.stack,by rw[hA.lp,(hz0 i).1,(hz0 t).1],by simp only;rw[hsC,hsm e15,(hz0 t).2,Nat.add_zero]⟩
    exact⟨Zax hD hA',.inl ⟨_,rk_le hD hA.hb htl hA.rs,Jg hD h0 rfl hA'⟩⟩
  ·exact absurd o e15
  ·have e:Vi (Yi m c) y c=if(Yi m c).escaped=false∧c=y.a then Ws (Yi m c) else {Yi m c with escaped := !(Yi m c).escaped&&decide (c=92),left:=1}:=by simp[Vi,o]
   rw[e]
   split
   ·exact hskip _ h0 h1 rfl rfl hsC hleft e15
   ·exact hstay _ h0 h1 rfl rfl hsC (fun e=>by omega) e15
theorem feed_good{m:Mch}(h:MGd d m)(c:Int):MGd d (Qj (cdF d) true m c):=by
 obtain⟨g1,g2⟩:=Fr hD h
 unfold Qj
 split
 ·exact⟨g1.1,.inr (.inr (.inr ⟨rfl,by show(7:Int)≠8;decide⟩))⟩
 split
 ·exact g1
 ·rename_i h0
  exact byte_good hD (g2 (by omega)) c
theorem m0_good:MGd d m0:=by
 have:=Ea hD
 exact⟨⟨by show((0:Nat):Int)≤_;omega,Nat.zero_le _⟩,.inl ⟨20,by omega,rfl,rfl,.inl ⟨rfl,rfl,rfl,rfl⟩⟩⟩
end
theorem MGd.no8{d:Des}{m:Mch}(h:MGd d m):¬(m.state=2∧m.code=8):=by
 rintro⟨e1,e2⟩
 obtain⟨_,⟨ρ,_,hc⟩|hs|h1|⟨_,h3⟩⟩:=h
 ·have:=hc.1;omega
 ·have:=hs.1;omega
 ·omega
 ·exact h3 e2
set_option maxRecDepth 100000
def mO(m:Mch):List Ob:=[⟨40,0,[.int m.pc,.int m.register,.own 1,.own 2,.int m.left,.bool m.started,.bool m.escaped,.int m.state,.int m.code,.int m.read]⟩,⟨3,1,(m.stack.map RV.int).map .ro⟩,⟨3,1,(m.sums.map RV.int).map .ro⟩]
theorem Uj(p:Nat→Prop):∀rs:List RV,AV.onlys p (rs.map .ro)
 | []=>by simp[AV.onlys]
 |r::rs=>by simp only[List.map_cons,AV.onlys,AV.only];exact⟨trivial,Uj p rs⟩
theorem Yb(m:Mch):FreeO 3 (mO m):=by
 simp only[mO,FreeO]
 exact⟨by simp[AV.onlys,AV.only],Uj _ _,Uj _ _,trivial⟩
theorem Xx{m m':Mch}{more:List Ob}(h:m=m'):mO m++more=mO m'++more:=by rw[h]
theorem Runs.endP{P:Program}{C:Ctx}{fn:Func}{gs:Nat→Nat}{env:Env}{σ σ' more:List Ob}{t:Nat}(hp:look env t = .pin 0 0 (gs 0))(hσ:σ=σ'++more)(hl:0<σ'.length)(hc:FreeO σ'.length σ')(hr:fn.results=#[]) :
  Runs P C [] (Pc P C fn gs [0] σ' (.tup [])) ⟨env,σ⟩:=
 J5 (E':=[(t,.pin 0 0 (gs 0))]) ⟨hp,trivial⟩ hσ ⟨by simpa only[AV.only] using hl,trivial⟩ hc (Kv (Tq (fun i hi=>by simp at hi;subst hi;exact⟨t,0,by simp[look]⟩) hr rfl))
theorem Wx{P:Program}{C:Ctx}{fn:Func}{gs:Nat→Nat}{env:Env}{σ more:List Ob}{m:Mch}{t:Nat}(hp:look env t = .pin 0 0 (gs 0))(hσ:σ=mO m++more)(hr:fn.results=#[]):Runs P C [] (Pc P C fn gs [0] (mO m) (.tup [])) ⟨env,σ⟩:=
 Runs.endP hp hσ (by simp[mO]) (Yb m) hr
theorem Uk{P:Program}{C:Ctx}{fn:Func}{gs:Nat→Nat}{env:Env}{σ more:List Ob}{m:Mch}{k:List Item}{t:Nat}(hp:look env t = .pin 0 0 (gs 0))(hσ:σ=mO m++more)(hr:fn.results=#[]):Runs P C (.code .ret::k) (Pc P C fn gs [0] (mO m) (.tup [])) ⟨env,σ⟩:=
 J5 (E':=[(t,.pin 0 0 (gs 0))]) ⟨hp,trivial⟩ hσ ⟨by simp[AV.only,mO],trivial⟩ (Yb m) (Zbe (Tq (fun i hi=>by simp at hi;subst hi;exact⟨t,0,by simp[look]⟩) hr rfl))
theorem Xf(m:Mch)(c:Int):AM Tryz.prog 50 (mO m) [0] [.obj 0 0,.int c] (mO (X6 m c)) (.tup []):=by
 refine Yz Tryz.func50 rfl _ Tryz.ntmps50 (by simp) (by simp) fun C gs hn=>?_
 repeat' (first
|refine Zbg Zk hn rfl ?_
|refine Zbh ?_
|refine Za 30 rfl ?_
|(refine Zc hn rfl rfl rfl ?_;first
|refine⟨_,Z9 rfl,?_⟩)
|refine Z5 rfl rfl rfl rfl (nbT rfl) ?_
  )
 ·refine Zbf 30 rfl ?_
  first|refine Wx (t:=0) (more:=[]) rfl ?_ rfl|refine Uk (t:=0) (more:=[]) rfl ?_ rfl
  rfl
theorem El(m:Mch)(l:Int):AM Tryz.prog 103 (mO m) [0] [.obj 0 0,.int l] (mO (X7 m l)) (.tup []):=by
 refine Yz Tryz.func103 rfl _ Tryz.ntmps103 (by simp) (by simp) fun C gs hn=>?_
 repeat' (first
|refine Zbg Zk hn rfl ?_
|refine Zbh ?_
|refine Za 30 rfl ?_
|(refine Zc hn rfl rfl rfl ?_;first
|refine⟨_,Z9 rfl,?_⟩
|refine⟨_,We rfl rfl,?_⟩)
|(refine Zbf 30 rfl ?_;first|refine Z1 rfl (fun h=>?_) (fun h=>?_))
|refine Z5 rfl rfl rfl rfl (nbT rfl) ?_
  )
 ·refine Zbf 30 rfl ?_
  first|refine Wx (t:=0) (more:=[]) rfl ?_ rfl|refine Uk (t:=0) (more:=[]) rfl ?_ rfl
  unfold X7;rw[if_pos (by assumption)];rfl
 ·refine Zbf 30 rfl ?_
  first|refine Wx (t:=0) (more:=[]) rfl ?_ rfl|refine Uk (t:=0) (more:=[]) rfl ?_ rfl
  unfold X7;rw[if_neg (by assumption)];rfl
theorem push_am(m:Mch)(a b:Int)(hm:Uu m):AM Tryz.prog 104 (mO m) [0] [.obj 0 0,.int a,.int b] (mO (Q9 m a b)) (.tup []):=by
 refine Yz Tryz.func104 rfl _ Tryz.ntmps104 (by simp) (by simp) fun C gs hn=>?_
 have hl:((m.stack.map RV.int).map AV.ro).length=m.stack.length*1:=by simp
 have h1:=hm.1
 repeat' (first
|refine Yd 3 (Xf m 8) rfl (by simp[AV.onlys,AV.only]) (by simp[AV.only,AV.onlys]) rfl rfl rfl (Yb _) (Yb _) rfl (by first|exact trivial|exact⟨rfl,trivial⟩|exact⟨rfl,rfl,trivial⟩|exact⟨rfl,rfl,rfl,trivial⟩|exact⟨rfl,rfl,rfl,rfl,trivial⟩) (fun t h=>by injection h with h;subst h;exact tl hn rfl) ?_
|refine RunsL.junk 0 2 rfl (Yl (n:=m.stack.length) (i:=1) rfl rfl rfl rfl rfl rfl (by simp) (FreeI.at_ (i:=1) ⟨by simp[AV.onlys,AV.only],Uj _ _,Uj _ _,trivial⟩) (by simp;omega) (by simp;omega) (tl hn rfl) ?_)
|refine Zbg Zk hn rfl ?_
|refine Zbh ?_
|refine Za 30 rfl ?_
|(refine Zc hn rfl rfl rfl ?_;first
|refine⟨_,Z9 rfl,?_⟩
|refine⟨_,Yo (n:=m.stack.length) rfl rfl hl,?_⟩
   )
|(refine Zbf 30 rfl ?_;first|refine Z1 rfl (fun h=>?_) (fun h=>?_))
|refine Z5 rfl rfl rfl rfl (nbT rfl) ?_
|(refine Zc hn rfl rfl rfl ?_;first
|refine⟨_,Zw rfl rfl rfl rfl rfl rfl,?_⟩))
 ·refine Zbf 30 rfl ?_
  first|refine Wx (t:=0) (more:=[]) rfl ?_ rfl|refine Uk (t:=0) (more:=[]) rfl ?_ rfl
  exact Xx (by unfold Q9;rw[if_pos (by omega)])
 ·refine Zbf 30 rfl ?_
  first|refine Wx (t:=0) (more:=[]) rfl ?_ rfl|refine Uk (t:=0) (more:=[]) rfl ?_ rfl
  skip
  rw[show Q9 m a b={m with stack:=m.stack++[a],pc:=b} from by unfold Q9;rw[if_neg (by omega)]]
  unfold mO
  rw[List.map_append (f:=RV.int)]
  rfl
theorem top_no(m:Mch)(h0:m.stack.length=0):AM Tryz.prog 119 (mO m) [0] [.obj 0 0] (mO (X6 m 8)) (.tup [.ro (.c (.pointer none)),.bool false]):=by
 refine Yz Tryz.func119 rfl _ Tryz.ntmps119 (by simp) (by simp) fun C gs hn=>?_
 have hl:((m.stack.map RV.int).map AV.ro).length=m.stack.length*1:=by simp
 repeat' (first
|refine Yd 3 (Xf m 8) rfl (by simp[AV.onlys,AV.only]) (by simp[AV.only,AV.onlys]) rfl rfl rfl (Yb _) (Yb _) rfl (by first|exact trivial|exact⟨rfl,trivial⟩|exact⟨rfl,rfl,trivial⟩|exact⟨rfl,rfl,rfl,trivial⟩|exact⟨rfl,rfl,rfl,rfl,trivial⟩) (fun t h=>by injection h with h;subst h;exact tl hn rfl) ?_
|refine Zbg Zk hn rfl ?_
|refine Zbh ?_
|refine Za 30 rfl ?_
|(refine Zc hn rfl rfl rfl ?_;first
|refine⟨_,Z9 rfl,?_⟩
|refine⟨_,Yo (n:=m.stack.length) rfl rfl hl,?_⟩)
|(refine Zbf 30 rfl ?_;first|(refine Zd rfl ?_ ?_;·first|omega|rfl|assumption|(simp only[lmT];omega))|refine Zbe (Zj hm rfl rfl ?_)|exact Zbe (Zf hm rfl rfl rfl (nbT rfl) rfl rfl))
  )
 refine Zbf 30 rfl ?_
 exact Zbe (endsA2 (fun i hi=>by simp at hi;subst hi;exact⟨0,0,rfl⟩) rfl rfl rfl (List.append_nil _))
theorem mTop_at{m:Mch}(h:m.stack.length≠0):m.stack[m.stack.length-1]?=some (H1 m):=by
 obtain⟨z,hz⟩:∃z,m.stack[m.stack.length-1]?=some z:=⟨_,Za6 (by omega)⟩
 unfold H1
 rw[hz]
 rfl
theorem top_yes(m:Mch)(h0:m.stack.length≠0)(hb:m.stack.length≤1048576):AM Tryz.prog 119 (mO m) [0] [.obj 0 0] (mO m) (.tup [.obj 1 (m.stack.length-1),.bool true]):=by
 refine Yz Tryz.func119 rfl _ Tryz.ntmps119 (by simp) (by simp) fun C gs hn=>?_
 have hl:((m.stack.map RV.int).map AV.ro).length=m.stack.length*1:=by simp
 repeat' (first
|refine Zbg Zk hn rfl ?_
|refine Zbh ?_
|refine Za 30 rfl ?_
|((first|refine Zc hn rfl rfl rfl ?_|refine Zl rfl rfl ?_);first
|refine⟨_,Z9 rfl,?_⟩
|refine⟨_,Yo (n:=m.stack.length) rfl rfl hl,?_⟩
|refine⟨_,Yk (n:=m.stack.length) (sz:=1) rfl rfl rfl rfl hl (by omega) (by omega),?_⟩
|refine⟨_,Z7 rfl rfl (by omega),?_⟩)
|(refine Zbf 30 rfl ?_;first|(refine Ze rfl ?_ ?_;·first|omega|rfl|assumption|(simp only[lmT];omega))|refine Zbe (Zj hm rfl rfl ?_)|exact Zbe (Zf hm rfl rfl rfl (nbT rfl) rfl rfl))
|refine Zbi Zk hn rfl rfl ?_
|refine Zbj ?_
|refine Zo 30 Yc hn rfl (by kernel_rfl) rfl ?_
|((first|refine Zc hn rfl rfl rfl ?_|refine Zl rfl rfl ?_);first
|refine⟨_,Z7 rfl rfl (by omega),?_⟩))
 refine Zbf 30 rfl ?_
 refine Zbe (endsA2 (fun i hi=>by simp at hi;subst hi;exact⟨0,0,rfl⟩) rfl ?_ rfl rfl)
 show AV.obj 1 (m.stack.length-1)=AV.obj 1 (((m.stack.length:Int)-1).toNat*1)
 rw[show((m.stack.length:Int)-1).toNat*1=m.stack.length-1 by omega]
theorem loop_am(m:Mch)(i:Ins)(hm:Uu m):AM Tryz.prog 105 (mO m) [0] [.obj 0 0,.ro (.agg (Ul i))] (mO (Js m i.a)) (.tup []):=by
 refine Yz Tryz.func105 rfl _ Tryz.ntmps105 (by simp) (by simp) fun C gs hn=>?_
 have hl:((m.stack.map RV.int).map AV.ro).length=m.stack.length*1:=by simp
 have hb:=hm.1
 by_cases h0:m.stack.length=0
 ·have hT:=top_no m h0
  repeat' (first
|refine Yd (d:=some 8) 3 (hT) rfl (by simp[AV.onlys,AV.only]) (by simp[AV.only,AV.onlys]) rfl rfl rfl (Yb _) (Yb _) rfl (by first|exact trivial|exact⟨rfl,trivial⟩|exact⟨rfl,rfl,trivial⟩|exact⟨rfl,rfl,rfl,trivial⟩|exact⟨rfl,rfl,rfl,rfl,trivial⟩) (fun t h=>by injection h with h;subst h;exact tl hn rfl) ?_
|refine Zbg Zk hn rfl ?_
|refine Zbh ?_
|refine Za 30 rfl ?_
|(refine Zc hn rfl rfl rfl ?_;first
|refine⟨_,Z9 rfl,?_⟩)
|(refine Zbf 30 rfl ?_;first|refine Zg rfl ?_|refine Zm rfl ?_|refine Z1 rfl (fun h=>?_) (fun h=>?_))
|refine Zs rfl (tl hn rfl) ?_
|refine Z5 rfl rfl rfl rfl (nbT rfl) ?_
|(refine Zc hn rfl rfl rfl ?_;first
|refine⟨_,Z7 rfl rfl (by omega),?_⟩))
  refine Zbf 30 rfl ?_
  refine Wx (t:=0) (more:=[⟨51,0,(Ul i).map .ro⟩]) rfl ?_ rfl
  exact Xx (by unfold Js;rw[if_pos h0])
 ·have hT:=top_yes m h0 hb
  have hz:=mTop_at h0
  have hz':((m.stack.map RV.int).map AV.ro)[m.stack.length-1]?=some (.ro (.int (H1 m))):=by simp[hz]
  repeat' (first
|refine Yd (d:=some 8) 3 (hT) rfl (by simp[AV.onlys,AV.only]) (by simp[AV.only,AV.onlys]) rfl rfl rfl (Yb _) (Yb _) rfl (by first|exact trivial|exact⟨rfl,trivial⟩|exact⟨rfl,rfl,trivial⟩|exact⟨rfl,rfl,rfl,trivial⟩|exact⟨rfl,rfl,rfl,rfl,trivial⟩) (fun t h=>by injection h with h;subst h;exact tl hn rfl) ?_
|refine Y3 (id:=6) 30 [0] [1,2,3,4,5,6,7,8,9,10] 11 [] Yc hn rfl (by kernel_rfl) rfl (.cons rfl .nil) (by decide) (by decide) (by decide) ?_
|refine RunsL.junk 0 2 rfl (Ss (i:=1) (n:=m.stack.length) (q:=(m.stack.length:Int)-1) rfl rfl rfl rfl hl (by omega) (by omega) (by omega) (by repeat' (first|exact trivial|exact Uj _ _|exact(by decide:(2:Nat)≠1)|refine And.intro ?_ ?_)) (fun j v hj=>Vm (Uj _ _) j v hj) (tl hn rfl) ?_)
|refine Z5 rfl rfl rfl rfl (by simp;omega) ?_
|refine RunsT.nil ?_
|refine RunsT.step Zk rfl rfl (fun _=>rfl) (by decide) ?_
|refine RunsT.pur (fun _=>Z9 rfl) (by decide) rfl rfl ?_
|refine RunsT.pur (fun _=>Ww rfl) (by decide) rfl rfl ?_
|refine RunsT.pur (fun _=>Yn rfl rfl hz') (by decide) rfl rfl ?_
|refine RunsT.pur (fun _=>Yo (n:=m.stack.length) rfl rfl hl) (by decide) rfl rfl ?_
|refine RunsT.pur (fun _=>Z7 rfl rfl (by omega)) (by decide) rfl rfl ?_
|refine RunsT.pur (fun _=>Pv rfl rfl) (by decide) rfl rfl ?_
|refine RunsT.pur (fun _=>We rfl rfl) (by decide) rfl rfl ?_
|refine Zbg Zk hn rfl ?_
|refine Zbh ?_
|refine Za 30 rfl ?_
|(refine Zc hn rfl rfl rfl ?_;first
|refine⟨_,Z9 rfl,?_⟩
|refine⟨_,Ww rfl,?_⟩
|refine⟨_,Yn rfl rfl hz',?_⟩
|refine⟨_,Yo (n:=m.stack.length) rfl rfl hl,?_⟩
|refine⟨_,Z7 rfl rfl (by omega),?_⟩
|refine⟨_,Pv rfl rfl,?_⟩
|refine⟨_,We rfl rfl,?_⟩)
|(refine Zbf 30 rfl ?_;first|refine Zg rfl ?_|refine Zm rfl ?_|refine Z1 rfl (fun h=>?_) (fun h=>?_))
|refine Zs rfl (tl hn rfl) ?_
|refine Z5 rfl rfl rfl rfl (nbT rfl) ?_
|(refine Zc hn rfl rfl rfl ?_;first
|refine⟨_,Z7 rfl rfl (by omega),?_⟩))
  ·refine Zbf 30 rfl ?_
   refine Wx (t:=0) (more:=[⟨51,0,(Ul i).map .ro⟩]) rfl ?_ rfl
   have e1:((m.stack.map RV.int).map AV.ro).take (((m.stack.length:Int)-1).toNat*1)=((m.stack.take (m.stack.length-1)).map RV.int).map AV.ro:=by
    rw[show((m.stack.length:Int)-1).toNat*1=m.stack.length-1 by omega,List.map_take,List.map_take]
   rw[show Js m i.a={Jt m with pc:=i.a} from by unfold Js;rw[if_neg h0,if_pos (by assumption)]]
   unfold mO Jt
   simp only[]
   rw[←e1]
   rfl
  ·refine Zbf 30 rfl ?_
   refine Wx (t:=0) (more:=[⟨51,0,(Ul i).map .ro⟩]) rfl ?_ rfl
   rw[show Js m i.a={m with stack:=m.stack.set (m.stack.length-1) (w64 (H1 m-1)),pc:=w64 (m.pc+1)} from by unfold Js;rw[if_neg h0,if_neg (by assumption)]]
   unfold mO
   simp only[]
   rw[List.map_set,List.map_set]
   rfl
theorem back_am(m:Mch)(hm:Uu m):AM Tryz.prog 106 (mO m) [0] [.obj 0 0] (mO (Mb m)) (.tup []):=by
 refine Yz Tryz.func106 rfl _ Tryz.ntmps106 (by simp) (by simp) fun C gs hn=>?_
 have hl:((m.stack.map RV.int).map AV.ro).length=m.stack.length*1:=by simp
 have hb:=hm.1
 by_cases h0:m.stack.length=0
 ·have hT:=top_no m h0
  repeat' (first
|refine Yd (d:=some 6) 3 (hT) rfl (by simp[AV.onlys,AV.only]) (by simp[AV.only,AV.onlys]) rfl rfl rfl (Yb _) (Yb _) rfl (by first|exact trivial|exact⟨rfl,trivial⟩|exact⟨rfl,rfl,trivial⟩|exact⟨rfl,rfl,rfl,trivial⟩|exact⟨rfl,rfl,rfl,rfl,trivial⟩) (fun t h=>by injection h with h;subst h;exact tl hn rfl) ?_
|refine Zbg Zk hn rfl ?_
|refine Zbh ?_
|refine Za 30 rfl ?_
|(refine Zc hn rfl rfl rfl ?_;first
|refine⟨_,Z9 rfl,?_⟩)
|(refine Zbf 30 rfl ?_;first|refine Zg rfl ?_|refine Zm rfl ?_)
|refine Z5 rfl rfl rfl rfl (nbT rfl) ?_
|(refine Zc hn rfl rfl rfl ?_;first
|refine⟨_,Z7 rfl rfl (by omega),?_⟩))
  refine Zbf 30 rfl ?_
  refine Wx (t:=0) (more:=[]) rfl ?_ rfl
  exact Xx (by unfold Mb;rw[if_pos h0])
 ·have hT:=top_yes m h0 hb
  have hz:=mTop_at h0
  have hz':((m.stack.map RV.int).map AV.ro)[m.stack.length-1]?=some (.ro (.int (H1 m))):=by simp[hz]
  repeat' (first
|refine Yd (d:=some 6) 3 (hT) rfl (by simp[AV.onlys,AV.only]) (by simp[AV.only,AV.onlys]) rfl rfl rfl (Yb _) (Yb _) rfl (by first|exact trivial|exact⟨rfl,trivial⟩|exact⟨rfl,rfl,trivial⟩|exact⟨rfl,rfl,rfl,trivial⟩|exact⟨rfl,rfl,rfl,rfl,trivial⟩) (fun t h=>by injection h with h;subst h;exact tl hn rfl) ?_
|refine Y3 (id:=3) 30 [0] [1,2,3,4,5,6,7,8,9,10] 11 [] Yc hn rfl (by kernel_rfl) rfl (.cons rfl .nil) (by decide) (by decide) (by decide) ?_
|refine RunsL.junk 0 2 rfl (Ss (i:=1) (n:=m.stack.length) (q:=(m.stack.length:Int)-1) rfl rfl rfl rfl hl (by omega) (by omega) (by omega) (by repeat' (first|exact trivial|exact Uj _ _|exact(by decide:(2:Nat)≠1)|refine And.intro ?_ ?_)) (fun j v hj=>Vm (Uj _ _) j v hj) (tl hn rfl) ?_)
|refine RunsT.nil ?_
|refine RunsT.step Zk rfl rfl (fun _=>rfl) (by decide) ?_
|refine RunsT.pur (fun _=>Z9 rfl) (by decide) rfl rfl ?_
|refine RunsT.pur (fun _=>Ww rfl) (by decide) rfl rfl ?_
|refine RunsT.pur (fun _=>Yn rfl rfl hz') (by decide) rfl rfl ?_
|refine RunsT.pur (fun _=>Yo (n:=m.stack.length) rfl rfl hl) (by decide) rfl rfl ?_
|refine RunsT.pur (fun _=>Z7 rfl rfl (by omega)) (by decide) rfl rfl ?_
|refine Zbg Zk hn rfl ?_
|refine Zbh ?_
|refine Za 30 rfl ?_
|(refine Zc hn rfl rfl rfl ?_;first
|refine⟨_,Z9 rfl,?_⟩
|refine⟨_,Ww rfl,?_⟩
|refine⟨_,Yn rfl rfl hz',?_⟩
|refine⟨_,Yo (n:=m.stack.length) rfl rfl hl,?_⟩
|refine⟨_,Z7 rfl rfl (by omega),?_⟩)
|(refine Zbf 30 rfl ?_;first|refine Zg rfl ?_|refine Zm rfl ?_)
|refine Z5 rfl rfl rfl rfl (nbT rfl) ?_
|(refine Zc hn rfl rfl rfl ?_;first
|refine⟨_,Z7 rfl rfl (by omega),?_⟩))
  refine Zbf 30 rfl ?_
  refine Wx (t:=0) (more:=[]) rfl ?_ rfl
  have e1:((m.stack.map RV.int).map AV.ro).take (((m.stack.length:Int)-1).toNat*1)=((m.stack.take (m.stack.length-1)).map RV.int).map AV.ro:=by
   rw[show((m.stack.length:Int)-1).toNat*1=m.stack.length-1 by omega,List.map_take,List.map_take]
  rw[show Mb m={Jt m with pc:=H1 m} from by unfold Mb;rw[if_neg h0]]
  unfold mO Jt
  simp only[]
  rw[←e1]
  rfl
set_option maxRecDepth 100000
set_option maxHeartbeats 8000000 in
theorem F5(m:Mch)(i:Ins)(hm:Uu m):AM Tryz.prog 75 (mO m) [0] [.obj 0 0,.ro (.agg (Ul i))] (mO (Yq m i)) (.tup []):=by
 refine Yz Tryz.func75 rfl _ Tryz.ntmps75 (by simp) (by simp) fun C gs hn=>?_
 have hl:((m.sums.map RV.int).map AV.ro).length=m.sums.length*1:=by simp
 have hb:=hm.2
 have e14:i.op=14→Yq m i=(if 30≤m.sums.length then X6 m 8 else {K2 m with sums:=m.sums++[0]}):=fun h=>by simp[Yq,h]
 have e15:i.op=15→Yq m i=(if m.sums.length=0 then X6 m 8 else X7 m 1):=fun h=>by simp[Yq,h]
 repeat' (first
|refine Y3 (id:=18) 30 [] [0,1,2,3,4,5,6,7,8,9] 10 [] Yc hn rfl (by kernel_rfl) rfl .nil (by decide) (by decide) (by decide) ?_
|refine Y3 (id:=24) 30 [] [0,1,2,3,4,5,6,7] 8 [] Yc hn rfl (by kernel_rfl) rfl .nil (by decide) (by decide) (by decide) ?_
|refine Yd (d:=some 14) 3 (El {m with register:=0} i.a) rfl (by simp[AV.onlys,AV.only]) (by simp[AV.only,AV.onlys]) rfl rfl rfl (Yb _) (Yb _) rfl (by first|exact trivial|exact⟨rfl,trivial⟩|exact⟨rfl,rfl,trivial⟩|exact⟨rfl,rfl,rfl,trivial⟩|exact⟨rfl,rfl,rfl,rfl,trivial⟩) (fun t h=>by injection h with h;subst h;exact tl hn rfl) ?_
|refine Yd (d:=some 20) 3 (El m i.a) rfl (by simp[AV.onlys,AV.only]) (by simp[AV.only,AV.onlys]) rfl rfl rfl (Yb _) (Yb _) rfl (by first|exact trivial|exact⟨rfl,trivial⟩|exact⟨rfl,rfl,trivial⟩|exact⟨rfl,rfl,rfl,trivial⟩|exact⟨rfl,rfl,rfl,rfl,trivial⟩) (fun t h=>by injection h with h;subst h;exact tl hn rfl) ?_
|refine Yd (d:=some 28) 3 (El m m.register) rfl (by simp[AV.onlys,AV.only]) (by simp[AV.only,AV.onlys]) rfl rfl rfl (Yb _) (Yb _) rfl (by first|exact trivial|exact⟨rfl,trivial⟩|exact⟨rfl,rfl,trivial⟩|exact⟨rfl,rfl,rfl,trivial⟩|exact⟨rfl,rfl,rfl,rfl,trivial⟩) (fun t h=>by injection h with h;subst h;exact tl hn rfl) ?_
|refine Yd 3 (El m 1) rfl (by simp[AV.onlys,AV.only]) (by simp[AV.only,AV.onlys]) rfl rfl rfl (Yb _) (Yb _) rfl (by first|exact trivial|exact⟨rfl,trivial⟩|exact⟨rfl,rfl,trivial⟩|exact⟨rfl,rfl,rfl,trivial⟩|exact⟨rfl,rfl,rfl,rfl,trivial⟩) (fun t h=>by injection h with h;subst h;exact tl hn rfl) ?_
|refine Yd 3 (Xf m _) rfl (by simp[AV.onlys,AV.only]) (by simp[AV.only,AV.onlys]) rfl rfl rfl (Yb _) (Yb _) rfl (by first|exact trivial|exact⟨rfl,trivial⟩|exact⟨rfl,rfl,trivial⟩|exact⟨rfl,rfl,rfl,trivial⟩|exact⟨rfl,rfl,rfl,rfl,trivial⟩) (fun t h=>by injection h with h;subst h;exact tl hn rfl) ?_
|refine Yd 3 (push_am m _ _ hm) rfl (by simp[AV.onlys,AV.only]) (by simp[AV.only,AV.onlys]) rfl rfl rfl (Yb _) (Yb _) rfl (by first|exact trivial|exact⟨rfl,trivial⟩|exact⟨rfl,rfl,trivial⟩|exact⟨rfl,rfl,rfl,trivial⟩|exact⟨rfl,rfl,rfl,rfl,trivial⟩) (fun t h=>by injection h with h;subst h;exact tl hn rfl) ?_
|refine Yd 3 (loop_am m i hm) rfl (by simp[AV.onlys,AV.only]) (by simp[AV.only,AV.onlys]) rfl rfl rfl (Yb _) (Yb _) rfl (by first|exact trivial|exact⟨rfl,trivial⟩|exact⟨rfl,rfl,trivial⟩|exact⟨rfl,rfl,rfl,trivial⟩|exact⟨rfl,rfl,rfl,rfl,trivial⟩) (fun t h=>by injection h with h;subst h;exact tl hn rfl) ?_
|refine Yd 3 (back_am m hm) rfl (by simp[AV.onlys,AV.only]) (by simp[AV.only,AV.onlys]) rfl rfl rfl (Yb _) (Yb _) rfl (by first|exact trivial|exact⟨rfl,trivial⟩|exact⟨rfl,rfl,trivial⟩|exact⟨rfl,rfl,rfl,trivial⟩|exact⟨rfl,rfl,rfl,rfl,trivial⟩) (fun t h=>by injection h with h;subst h;exact tl hn rfl) ?_
|refine RunsL.junk 0 3 rfl (Yl (n:=m.sums.length) (i:=2) rfl rfl rfl rfl rfl rfl (by simp) (FreeI.at_ (i:=2) (by repeat' (first|exact trivial|exact Uj _ _|exact(by decide:(1:Nat)≠2)|refine And.intro ?_ ?_))) (by simp;omega) (by simp;omega) (tl hn rfl) ?_)
|refine RunsT.nil ?_
|refine RunsT.step Zk rfl rfl (fun _=>rfl) (by decide) ?_
|refine RunsT.pur (fun _=>Z9 rfl) (by decide) rfl rfl ?_
|refine RunsT.pur (fun _=>Yo (n:=m.sums.length) rfl rfl hl) (by decide) rfl rfl ?_
|refine RunsT.pur (fun _=>We rfl rfl) (by decide) rfl rfl ?_
|refine Zbg Zk hn rfl ?_
|refine Zbh ?_
|refine Za 30 rfl ?_
|((first|refine Zc hn rfl rfl rfl ?_|refine Zl rfl rfl ?_);first
|refine⟨_,Z9 rfl,?_⟩
|refine⟨_,Yo (n:=m.sums.length) rfl rfl hl,?_⟩
|refine⟨_,We rfl rfl,?_⟩)
|(refine Zbf 30 rfl ?_;first|refine Zg rfl ?_|refine Z1 rfl (fun h=>?_) (fun h=>?_))
|refine Zs rfl (tl hn rfl) ?_
|refine Z5 rfl rfl rfl rfl (nbT rfl) ?_
|refine Zbi Zk hn rfl rfl ?_
|refine Zbj ?_
|refine Zo 30 Yc hn rfl (by kernel_rfl) rfl ?_
|((first|refine Zc hn rfl rfl rfl ?_|refine Zl rfl rfl ?_);first
|refine⟨_,Zw rfl rfl rfl rfl rfl rfl,?_⟩))
 all_goals refine Zbf 30 rfl ?_
 all_goals first
  |refine Wx (t:=0) (more:=[⟨51,0,(Ul i).map .ro⟩]) rfl ?_ rfl
  |refine Uk (t:=0) (more:=[⟨51,0,(Ul i).map .ro⟩]) rfl ?_ rfl
 all_goals first
  |(refine Xx ?_;simp[Yq, *];done)
  |(refine(show _=mO (K2 m)++_ from rfl).trans (Xx ?_);simp[Yq, *];done)
  |(refine(show _=mO {m with pc:=i.a}++_ from rfl).trans (Xx ?_);simp[Yq, *];done)
  |(refine(show _=mO {m with pc:=i.b}++_ from rfl).trans (Xx ?_);simp[Yq, *];done)
  |(refine(show _=mO {m with state:=1}++_ from rfl).trans (Xx ?_);simp[Yq, *];done)
  |(refine(show _=mO m++_ from rfl).trans (Xx ?_);simp[Yq, *];done)
  |(refine Xx ?_;rw[e14 (by assumption),if_pos (by omega)])
  |(refine Xx ?_;rw[e15 (by assumption),if_pos (by omega)])
  |(refine Xx ?_;rw[e15 (by assumption),if_neg (by omega)])
  |(rw[e14 (by assumption),if_neg (by omega)];unfold mO K2;simp only[];rw[List.map_append (f:=RV.int)];rfl)
set_option maxRecDepth 100000
theorem Oq(m:Mch)(nx:Int):AM Tryz.prog 115 (mO m) [0] [.obj 0 0,.int nx] (mO {m with started:=false,pc:=nx}) (.tup []):=by
 refine Yz Tryz.func115 rfl _ Tryz.ntmps115 (by simp) (by simp) fun C gs hn=>?_
 repeat' (first
|refine Zbg Zk hn rfl ?_
|refine Zbh ?_
|refine Za 30 rfl ?_
|(refine Zc hn rfl rfl rfl ?_;first
|refine⟨_,Z9 rfl,?_⟩)
|refine Z5 rfl rfl rfl rfl (nbT rfl) ?_
  )
 refine Zbf 30 rfl ?_
 refine Wx (t:=0) (more:=[]) rfl ?_ rfl
 rfl
set_option maxHeartbeats 8000000 in
theorem Gb(p:Prg)(f:Bool)(m:Mch)(hm:Uu m)(hc:p.code.length≤4194304):AM Tryz.prog 47 (mO m) [0] [.obj 0 0,.ro (Tm p),.bool f] (mO (Uq p f m)) (.tup []):=by
 refine Yz Tryz.func47 rfl _ Tryz.ntmps47 (by simp) (by simp) fun C gs hn=>?_
 have hlc:(p.code.map Ul).length=p.code.length:=lmT ..
 by_cases hs:m.state=0
 ·by_cases hf:f=false∨(m.started=true∧¬Idx p m.pc)
  ·repeat' (first
|refine Yd 3 (Xf m 8) rfl (by simp[AV.onlys,AV.only]) (by simp[AV.only,AV.onlys]) rfl rfl rfl (Yb _) (Yb _) rfl (by first|exact trivial|exact⟨rfl,trivial⟩|exact⟨rfl,rfl,trivial⟩|exact⟨rfl,rfl,rfl,trivial⟩|exact⟨rfl,rfl,rfl,rfl,trivial⟩) (fun t h=>by injection h with h;subst h;exact tl hn rfl) ?_
|refine Zbg Zk hn rfl ?_
|refine Zbh ?_
|refine Za 30 rfl ?_
|((first|refine Zc hn rfl rfl rfl ?_|refine Zl rfl rfl ?_);first
|refine⟨_,Z9 rfl,?_⟩
|refine⟨_,Zi (Wo p _) rfl,?_⟩)
|(refine Zbf 30 rfl ?_;first|refine Zg rfl ?_|refine Zm rfl ?_|(refine Zp rfl ?_ ?_;·first|omega|rfl|assumption|(simp only[lmT];omega))|(refine Zn rfl ?_ ?_;·first|omega|rfl|assumption|(simp only[lmT];omega))|refine Z8 rfl (fun h=>?_) (fun h=>?_)|refine W1 rfl (fun h=>?_) (fun h=>?_))
|refine Zs rfl (tl hn rfl) ?_
|refine Zbi Zk hn rfl rfl ?_
|refine Zbj ?_
|refine Zo 30 Yc hn rfl (by kernel_rfl) rfl ?_
|((first|refine Zc hn rfl rfl rfl ?_|refine Zl rfl rfl ?_);first
|refine⟨_,Zq rfl rfl (by omega),?_⟩
|refine⟨_,Zb rfl rfl (by omega) (by assumption),?_⟩)
|((first|refine Zh rfl rfl rfl ?_ ?_|refine Zv rfl rfl rfl ?_ ?_|refine Wd rfl rfl rfl ?_ ?_|refine Xs rfl rfl rfl ?_ ?_)<;>intro h<;>try(exfalso;first|omega|contradiction|(simp only[lmT]at h;omega))))
   all_goals first
    |(exfalso;simp_all;done)
    |(refine Zbf 30 rfl ?_
      refine Uk (t:=0) (more:=[⟨32,0,[.ro (Qp p.code),.ro (Xe p.entries)]⟩]) rfl ?_ rfl
      exact Xx (by unfold Uq;rw[if_neg (by simp[hs]),if_pos hf]))
  ·obtain⟨N,hN,hA⟩:∃N:Nat,N=100001∧Uq p f m=U1 p N m:=⟨_,rfl,by unfold Uq;rw[if_neg (by simp[hs]),if_neg hf]⟩
   rw[hA]
   clear hA
   repeat' (first
|refine Yd 3 (Xf m 8) rfl (by simp[AV.onlys,AV.only]) (by simp[AV.only,AV.onlys]) rfl rfl rfl (Yb _) (Yb _) rfl (by first|exact trivial|exact⟨rfl,trivial⟩|exact⟨rfl,rfl,trivial⟩|exact⟨rfl,rfl,rfl,trivial⟩|exact⟨rfl,rfl,rfl,rfl,trivial⟩) (fun t h=>by injection h with h;subst h;exact tl hn rfl) ?_
|refine Zbg Zk hn rfl ?_
|refine Zbh ?_
|refine Za 30 rfl ?_
|((first|refine Zc hn rfl rfl rfl ?_|refine Zl rfl rfl ?_);first
|refine⟨_,Z9 rfl,?_⟩
|refine⟨_,Zi (Wo p _) rfl,?_⟩)
|(refine Zbf 30 rfl ?_;first|refine Zg rfl ?_|refine Zm rfl ?_|(refine Zp rfl ?_ ?_;·first|omega|rfl|assumption|(simp only[lmT];omega))|(refine Zn rfl ?_ ?_;·first|omega|rfl|assumption|(simp only[lmT];omega))|refine Z8 rfl (fun h=>?_) (fun h=>?_)|refine W1 rfl (fun h=>?_) (fun h=>?_))
|refine Zs rfl (tl hn rfl) ?_
|refine Zbi Zk hn rfl rfl ?_
|refine Zbj ?_
|refine Zo 30 Yc hn rfl (by kernel_rfl) rfl ?_
|((first|refine Zc hn rfl rfl rfl ?_|refine Zl rfl rfl ?_);first
|refine⟨_,Zq rfl rfl (by omega),?_⟩
|refine⟨_,Zb rfl rfl (by omega) (by assumption),?_⟩)
|((first|refine Zh rfl rfl rfl ?_ ?_|refine Zv rfl rfl rfl ?_ ?_|refine Wd rfl rfl rfl ?_ ?_|refine Xs rfl rfl rfl ?_ ?_)<;>intro h<;>try(exfalso;first|omega|contradiction|(simp only[lmT]at h;omega))))
   all_goals first
    |(exfalso;simp_all;done)
    |skip
   all_goals
    refine Yh 30 rfl (fun j=>[(0,.pin 0 0 (gs 0)),(4,.obj 3 0),(6,.int (j:Int))]) (fun j=>mO (mIt p m j)++[⟨32,0,[.ro (Qp p.code),.ro (Xe p.entries)]⟩]) (fun j=>U1 p N m=U1 p (N-j) (mIt p m j)) N 0 (Nat.zero_le _) (by rw[Nat.sub_zero];rfl) ⟨rfl,rfl,rfl,trivial⟩ rfl fun j hj hQ next=>?_
    have hL:=mIt_len (p:=p) hm j
    have hstep:=@mRes_it p m N j
    have hstop:=mRes_stop hQ
    have hout:=mRes_out hQ
    have hnx:mIt p m (j+1)=Yq (mIt p m j) (mAt p (mIt p m j)):=rfl
    generalize hq:mIt p m j=q at hQ hL hstep hstop hout hnx ⊢
    clear hq
    by_cases hr:Pa q
    ·obtain⟨hr1,hr2⟩:=id hr
     by_cases hi:Idx p q.pc
     ·obtain⟨x,hx⟩:∃x,p.code[q.pc.toNat]?=some x:=⟨_,Za6 (by unfold Idx at hi;omega)⟩
      have hxa:mAt p q=x:=by unfold mAt;rw[hx];rfl
      have hi':=hi
      unfold Idx at hi'
      by_cases hlt:j<N
      ·repeat' (first
|refine Y3 (id:=9) 30 [] [0,1,2,3,4,5,6,7,8] 9 [] Yc hn rfl (by kernel_rfl) rfl .nil (by decide) (by decide) (by decide) ?_
|refine Yd 3 (Xf q 8) rfl (by simp[AV.onlys,AV.only]) (by simp[AV.only,AV.onlys]) rfl rfl rfl (Yb _) (Yb _) rfl (by first|exact trivial|exact⟨rfl,trivial⟩|exact⟨rfl,rfl,trivial⟩|exact⟨rfl,rfl,rfl,trivial⟩|exact⟨rfl,rfl,rfl,rfl,trivial⟩) (fun t h=>by injection h with h;subst h;exact tl hn rfl) ?_
|refine Yd 3 (F5 q x hL) rfl (by simp[AV.onlys,AV.only]) (by simp[AV.only,AV.onlys]) rfl rfl rfl (Yb _) (Yb _) rfl (by first|exact trivial|exact⟨rfl,trivial⟩|exact⟨rfl,rfl,trivial⟩|exact⟨rfl,rfl,rfl,trivial⟩|exact⟨rfl,rfl,rfl,rfl,trivial⟩) (fun t h=>by injection h with h;subst h;exact tl hn rfl) ?_
|refine RunsT.nil ?_
|refine RunsT.step Zk rfl rfl (fun _=>rfl) (by decide) ?_
|refine RunsT.pur (fun _=>Z9 rfl) (by decide) rfl rfl ?_
|refine RunsT.pur (fun _=>Zi (Wo p _) rfl) (by decide) rfl rfl ?_
|refine RunsT.pur (fun _=>Zq rfl rfl (by omega)) (by decide) rfl rfl ?_
|refine RunsT.pur (fun _=>Zb rfl rfl (by omega) (by assumption)) (by decide) rfl rfl ?_
|refine Zbg Zk hn rfl ?_
|refine Zbh ?_
|refine Za 30 rfl ?_
|((first|refine Zc hn rfl rfl rfl ?_|refine Zl rfl rfl ?_);first
|refine⟨_,Z9 rfl,?_⟩
|refine⟨_,Zi (Wo p _) rfl,?_⟩)
|(refine Zbf 30 rfl ?_;first|refine Zg rfl ?_|refine Zm rfl ?_|(refine Zp rfl ?_ ?_;·first|omega|rfl|assumption|(simp only[lmT];omega))|(refine Zn rfl ?_ ?_;·first|omega|rfl|assumption|(simp only[lmT];omega))|refine Z8 rfl (fun h=>?_) (fun h=>?_)|refine W1 rfl (fun h=>?_) (fun h=>?_))
|refine Zs rfl (tl hn rfl) ?_
|refine Zbi Zk hn rfl rfl ?_
|refine Zbj ?_
|refine Zo 30 Yc hn rfl (by kernel_rfl) rfl ?_
|((first|refine Zc hn rfl rfl rfl ?_|refine Zl rfl rfl ?_);first
|refine⟨_,Zq rfl rfl (by omega),?_⟩
|refine⟨_,Zb rfl rfl (by omega) (by assumption),?_⟩)
|((first|refine Zh rfl rfl rfl ?_ ?_|refine Zv rfl rfl rfl ?_ ?_|refine Wd rfl rfl rfl ?_ ?_|refine Xs rfl rfl rfl ?_ ?_)<;>intro h<;>try(exfalso;first|omega|contradiction|(simp only[lmT]at h;omega))))
       all_goals first
        |(exfalso;first|omega|simp_all;done)
        |(refine next _ _ ⟨rfl,rfl,rfl,trivial⟩ hlt (hstep hlt hQ hr hi) ?_
          rw[hnx,hxa]
          rfl)
      ·repeat' (first
|refine Yd 3 (Xf q 8) rfl (by simp[AV.onlys,AV.only]) (by simp[AV.only,AV.onlys]) rfl rfl rfl (Yb _) (Yb _) rfl (by first|exact trivial|exact⟨rfl,trivial⟩|exact⟨rfl,rfl,trivial⟩|exact⟨rfl,rfl,rfl,trivial⟩|exact⟨rfl,rfl,rfl,rfl,trivial⟩) (fun t h=>by injection h with h;subst h;exact tl hn rfl) ?_
|refine Zbg Zk hn rfl ?_
|refine Zbh ?_
|refine Za 30 rfl ?_
|((first|refine Zc hn rfl rfl rfl ?_|refine Zl rfl rfl ?_);first
|refine⟨_,Z9 rfl,?_⟩
|refine⟨_,Zi (Wo p _) rfl,?_⟩)
|(refine Zbf 30 rfl ?_;first|refine Zg rfl ?_|refine Zm rfl ?_|(refine Zp rfl ?_ ?_;·first|omega|rfl|assumption|(simp only[lmT];omega))|(refine Zn rfl ?_ ?_;·first|omega|rfl|assumption|(simp only[lmT];omega))|refine Z8 rfl (fun h=>?_) (fun h=>?_)|refine W1 rfl (fun h=>?_) (fun h=>?_))
|refine Zs rfl (tl hn rfl) ?_
|refine Zbi Zk hn rfl rfl ?_
|refine Zbj ?_
|refine Zo 30 Yc hn rfl (by kernel_rfl) rfl ?_
|((first|refine Zc hn rfl rfl rfl ?_|refine Zl rfl rfl ?_);first
|refine⟨_,Zq rfl rfl (by omega),?_⟩
|refine⟨_,Zb rfl rfl (by omega) (by assumption),?_⟩)
|((first|refine Zh rfl rfl rfl ?_ ?_|refine Zv rfl rfl rfl ?_ ?_|refine Wd rfl rfl rfl ?_ ?_|refine Xs rfl rfl rfl ?_ ?_)<;>intro h<;>try(exfalso;first|omega|contradiction|(simp only[lmT]at h;omega))))
       all_goals first
        |(exfalso;first|omega|simp_all;done)
        |(refine Zbf 30 rfl ?_
          refine Uk (t:=0) (more:=[⟨32,0,[.ro (Qp p.code),.ro (Xe p.entries)]⟩]) rfl ?_ rfl
          exact Xx (hout hr (.inr (by omega))).symm)
     ·repeat' (first
|refine Yd 3 (Xf q 8) rfl (by simp[AV.onlys,AV.only]) (by simp[AV.only,AV.onlys]) rfl rfl rfl (Yb _) (Yb _) rfl (by first|exact trivial|exact⟨rfl,trivial⟩|exact⟨rfl,rfl,trivial⟩|exact⟨rfl,rfl,rfl,trivial⟩|exact⟨rfl,rfl,rfl,rfl,trivial⟩) (fun t h=>by injection h with h;subst h;exact tl hn rfl) ?_
|refine Zbg Zk hn rfl ?_
|refine Zbh ?_
|refine Za 30 rfl ?_
|((first|refine Zc hn rfl rfl rfl ?_|refine Zl rfl rfl ?_);first
|refine⟨_,Z9 rfl,?_⟩
|refine⟨_,Zi (Wo p _) rfl,?_⟩)
|(refine Zbf 30 rfl ?_;first|refine Zg rfl ?_|refine Zm rfl ?_|(refine Zp rfl ?_ ?_;·first|omega|rfl|assumption|(simp only[lmT];omega))|(refine Zn rfl ?_ ?_;·first|omega|rfl|assumption|(simp only[lmT];omega))|refine Z8 rfl (fun h=>?_) (fun h=>?_)|refine W1 rfl (fun h=>?_) (fun h=>?_))
|refine Zs rfl (tl hn rfl) ?_
|refine Zbi Zk hn rfl rfl ?_
|refine Zbj ?_
|refine Zo 30 Yc hn rfl (by kernel_rfl) rfl ?_
|((first|refine Zc hn rfl rfl rfl ?_|refine Zl rfl rfl ?_);first
|refine⟨_,Zq rfl rfl (by omega),?_⟩
|refine⟨_,Zb rfl rfl (by omega) (by assumption),?_⟩)
|((first|refine Zh rfl rfl rfl ?_ ?_|refine Zv rfl rfl rfl ?_ ?_|refine Wd rfl rfl rfl ?_ ?_|refine Xs rfl rfl rfl ?_ ?_)<;>intro h<;>try(exfalso;first|omega|contradiction|(simp only[lmT]at h;omega))))
      all_goals first
       |(exfalso;first|omega|simp_all;done)
       |(refine Zbf 30 rfl ?_
         refine Uk (t:=0) (more:=[⟨32,0,[.ro (Qp p.code),.ro (Xe p.entries)]⟩]) rfl ?_ rfl
         exact Xx (hout hr (.inl hi)).symm)
    ·have hst:=hstop hr
     clear hstep hstop hout hQ hnx
     repeat' (first
|refine Yd 3 (Xf q 8) rfl (by simp[AV.onlys,AV.only]) (by simp[AV.only,AV.onlys]) rfl rfl rfl (Yb _) (Yb _) rfl (by first|exact trivial|exact⟨rfl,trivial⟩|exact⟨rfl,rfl,trivial⟩|exact⟨rfl,rfl,rfl,trivial⟩|exact⟨rfl,rfl,rfl,rfl,trivial⟩) (fun t h=>by injection h with h;subst h;exact tl hn rfl) ?_
|refine Zbg Zk hn rfl ?_
|refine Zbh ?_
|refine Za 30 rfl ?_
|((first|refine Zc hn rfl rfl rfl ?_|refine Zl rfl rfl ?_);first
|refine⟨_,Z9 rfl,?_⟩
|refine⟨_,Zi (Wo p _) rfl,?_⟩)
|(refine Zbf 30 rfl ?_;first|refine Zg rfl ?_|refine Zm rfl ?_|(refine Zp rfl ?_ ?_;·first|omega|rfl|assumption|(simp only[lmT];omega))|(refine Zn rfl ?_ ?_;·first|omega|rfl|assumption|(simp only[lmT];omega))|refine Z8 rfl (fun h=>?_) (fun h=>?_)|refine W1 rfl (fun h=>?_) (fun h=>?_))
|refine Zs rfl (tl hn rfl) ?_
|refine Zbi Zk hn rfl rfl ?_
|refine Zbj ?_
|refine Zo 30 Yc hn rfl (by kernel_rfl) rfl ?_
|((first|refine Zc hn rfl rfl rfl ?_|refine Zl rfl rfl ?_);first
|refine⟨_,Zq rfl rfl (by omega),?_⟩
|refine⟨_,Zb rfl rfl (by omega) (by assumption),?_⟩)
|((first|refine Zh rfl rfl rfl ?_ ?_|refine Zv rfl rfl rfl ?_ ?_|refine Wd rfl rfl rfl ?_ ?_|refine Xs rfl rfl rfl ?_ ?_)<;>intro h<;>try(exfalso;first|omega|contradiction|(simp only[lmT]at h;omega))))
     all_goals first
      |exact absurd ⟨by assumption,by assumption⟩ hr
      |(refine Zbf 30 rfl ?_
        refine Wx (t:=0) (more:=[⟨32,0,[.ro (Qp p.code),.ro (Xe p.entries)]⟩]) rfl ?_ rfl
        exact Xx hst.symm)
 ·repeat' (first
|refine Zbg Zk hn rfl ?_
|refine Zbh ?_
|refine Za 30 rfl ?_
|((first|refine Zc hn rfl rfl rfl ?_|refine Zl rfl rfl ?_);first
|refine⟨_,Z9 rfl,?_⟩)
|(refine Zbf 30 rfl ?_;first|refine Zg rfl ?_|refine Zm rfl ?_|(refine Zp rfl ?_ ?_;·first|omega|rfl|assumption|(simp only[lmT];omega))|(refine Zn rfl ?_ ?_;·first|omega|rfl|assumption|(simp only[lmT];omega))|refine Z8 rfl (fun h=>?_) (fun h=>?_)|refine W1 rfl (fun h=>?_) (fun h=>?_))
|refine Zs rfl (tl hn rfl) ?_
|refine Zbi Zk hn rfl rfl ?_
|refine Zbj ?_
|refine Zo 30 Yc hn rfl (by kernel_rfl) rfl ?_
|((first|refine Zc hn rfl rfl rfl ?_|refine Zl rfl rfl ?_);first
|refine⟨_,Zq rfl rfl (by omega),?_⟩
|refine⟨_,Zb rfl rfl (by omega) (by assumption),?_⟩)
|((first|refine Zh rfl rfl rfl ?_ ?_|refine Zv rfl rfl rfl ?_ ?_|refine Wd rfl rfl rfl ?_ ?_|refine Xs rfl rfl rfl ?_ ?_)<;>intro h<;>try(exfalso;first|omega|contradiction|(simp only[lmT]at h;omega))))
  refine Zbf 30 rfl ?_
  refine Uk (t:=0) (more:=[⟨32,0,[.ro (Qp p.code),.ro (Xe p.entries)]⟩]) rfl ?_ rfl
  exact Xx (by unfold Uq;rw[if_pos hs])
set_option maxRecDepth 100000
section
variable{P:Program}{C:Ctx}{env:Env}{σ:List Ob}{t:Nat}{ty:TypeId}{pos:String}{after:Array Edge}{gd:Option (Nat×Bool)}
theorem Iq{xt yt:TypeId}{x y:Operand}{p:Int}(hx:ev env x = .int p)(hy:ev env y = .int 256):Pur P C ⟨some t,.binOp .rem xt x y yt,ty,pos,after,gd⟩ env σ (.int (p.tmod 256)):=
 X5 hx hy (fun w=>by
  have h1:=Int.tmod_lt_of_pos p (show(0:Int)<256 by omega)
  have h2:=Int.lt_tmod_of_pos p (show(0:Int)<256 by omega)
  have h4:IntKind.i64.wrap (p.tmod 256)=p.tmod 256:=by simp[IntKind.wrap,IntKind.bits,IntKind.signed];omega
  simp[go_sem,Op.intDiv,h4])
theorem pu_shl8{xt yt:TypeId}{x y:Operand}{b s:Int}(hx:ev env x = .int b)(hy:ev env y = .ro (.c (.int .i64 (8*s))))(h:0≤s∧s≤3)(hb:0≤b∧b≤255):Pur P C ⟨some t,.binOp .shl xt x y yt,ty,pos,after,gd⟩ env σ (.int (b*2 ^ (8*s).toNat)):=by
 have hs:s=0∨s=1∨s=2∨s=3:=by omega
 rcases hs with rfl|rfl|rfl|rfl
 all_goals exact X5 hx hy (fun w=>by simp[go_sem,IntKind.wrap,IntKind.bits,IntKind.signed,Int.shiftLeft_eq];omega)
end
set_option maxHeartbeats 4000000 in
theorem V3(m:Mch)  : AM Tryz.prog 91 (mO m) [0] [.obj 0 0] (mO (Ws m)) (.tup []):=by
 refine Yz Tryz.func91 rfl _ Tryz.ntmps91 (by simp) (by simp) fun C gs hn=>?_
 repeat' (first
|refine Yd 3 (Oq m _) rfl (by simp[AV.onlys,AV.only]) (by simp[AV.only,AV.onlys]) rfl rfl rfl (Yb _) (Yb _) rfl (by first|exact trivial|exact⟨rfl,trivial⟩|exact⟨rfl,rfl,trivial⟩|exact⟨rfl,rfl,rfl,trivial⟩|exact⟨rfl,rfl,rfl,rfl,trivial⟩) (fun t h=>by injection h with h;subst h;exact tl hn rfl) ?_
|refine Zbg Zk hn rfl ?_
|refine Zbh ?_
|refine Za 30 rfl ?_
|(refine Zc hn rfl rfl rfl ?_;first
|refine⟨_,Z9 rfl,?_⟩
|refine⟨_,We rfl rfl,?_⟩)
|(refine Zbf 30 rfl ?_;first|refine Z1 rfl (fun h=>?_) (fun h=>?_))
  )
 ·refine Zbf 30 rfl ?_
  refine Wx (t:=0) (more:=[]) rfl ?_ rfl
  exact Xx (by unfold Ws;rw[if_pos (by assumption)])
 ·refine Zbf 30 rfl ?_
  refine Wx (t:=0) (more:=[]) rfl ?_ rfl
  rw[show Ws m=m from by unfold Ws;rw[if_neg (by assumption)]]
  rfl
set_option maxHeartbeats 4000000 in
theorem Pq(m:Mch)(i:Ins)(b:Int):AM Tryz.prog 87 (mO m) [0] [.obj 0 0,.ro (.agg (Ul i)),.int b] (mO (if 1<b then X6 m 4 else if m.left≠0 then m else {m with started:=false,pc:=if b=0 then i.a else w64 (m.pc+1)})) (.tup []):=by
 refine Yz Tryz.func87 rfl _ Tryz.ntmps87 (by simp) (by simp) fun C gs hn=>?_
 repeat' (first
|refine Yd 3 (Xf m 4) rfl (by simp[AV.onlys,AV.only]) (by simp[AV.only,AV.onlys]) rfl rfl rfl (Yb _) (Yb _) rfl (by first|exact trivial|exact⟨rfl,trivial⟩|exact⟨rfl,rfl,trivial⟩|exact⟨rfl,rfl,rfl,trivial⟩|exact⟨rfl,rfl,rfl,rfl,trivial⟩) (fun t h=>by injection h with h;subst h;exact tl hn rfl) ?_
|refine Yd 3 (Oq m _) rfl (by simp[AV.onlys,AV.only]) (by simp[AV.only,AV.onlys]) rfl rfl rfl (Yb _) (Yb _) rfl (by first|exact trivial|exact⟨rfl,trivial⟩|exact⟨rfl,rfl,trivial⟩|exact⟨rfl,rfl,rfl,trivial⟩|exact⟨rfl,rfl,rfl,rfl,trivial⟩) (fun t h=>by injection h with h;subst h;exact tl hn rfl) ?_
|refine Zbg Zk hn rfl ?_
|refine Zbh ?_
|refine Za 30 rfl ?_
|(refine Zc hn rfl rfl rfl ?_;first
|refine⟨_,Z9 rfl,?_⟩
|refine⟨_,We rfl rfl,?_⟩)
|(refine Zbf 30 rfl ?_;first|refine Z1 rfl (fun h=>?_) (fun h=>?_)|refine Z8 rfl (fun h=>?_) (fun h=>?_))
|refine Zs rfl (tl hn rfl) ?_
  )
 all_goals refine Zbf 30 rfl ?_
 all_goals first
  |refine Wx (t:=0) (more:=[⟨51,0,(Ul i).map .ro⟩]) rfl ?_ rfl
  |refine Uk (t:=0) (more:=[⟨51,0,(Ul i).map .ro⟩]) rfl ?_ rfl
 all_goals first
  |(refine Xx ?_;simp[*];done)
  |(refine(show _=mO m++_ from rfl).trans (Xx ?_);simp[*];done)
set_option maxHeartbeats 4000000 in
theorem Ip(m:Mch)(i:Ins)(b:Int):AM Tryz.prog 89 (mO m) [0] [.obj 0 0,.ro (.agg (Ul i)),.int b] (mO (if m.escaped=false∧b=i.a then Ws m else {m with escaped := !m.escaped&&decide (b=92),left:=1})) (.tup []):=by
 refine Yz Tryz.func89 rfl _ Tryz.ntmps89 (by simp) (by simp) fun C gs hn=>?_
 repeat' (first
|refine Yd 3 (V3 m) rfl (by simp[AV.onlys,AV.only]) (by simp[AV.only,AV.onlys]) rfl rfl rfl (Yb _) (Yb _) rfl (by first|exact trivial|exact⟨rfl,trivial⟩|exact⟨rfl,rfl,trivial⟩|exact⟨rfl,rfl,rfl,trivial⟩|exact⟨rfl,rfl,rfl,rfl,trivial⟩) (fun t h=>by injection h with h;subst h;exact tl hn rfl) ?_
|refine Zbg Zk hn rfl ?_
|refine Zbh ?_
|refine Za 30 rfl ?_
|(refine Zc hn rfl rfl rfl ?_;first
|refine⟨_,Z9 rfl,?_⟩)
|(refine Zbf 30 rfl ?_;first|refine Zm rfl ?_|refine Z1 rfl (fun h=>?_) (fun h=>?_))
|refine Zs rfl (tl hn rfl) ?_
|refine Z5 rfl rfl rfl rfl (nbT rfl) ?_
|(refine Yf rfl rfl rfl ?_ ?_<;>intro h<;>try(exfalso;first|omega|contradiction)))
 all_goals refine Zbf 30 rfl ?_
 all_goals first
  |refine Wx (t:=0) (more:=[⟨51,0,(Ul i).map .ro⟩]) rfl ?_ rfl
  |refine Uk (t:=0) (more:=[⟨51,0,(Ul i).map .ro⟩]) rfl ?_ rfl
 all_goals first
  |(refine Xx ?_;simp[*];done)
  |(exfalso;simp_all;done)
  |(refine(show _=mO {m with escaped:=decide (b=92),left:=1}++_ from rfl).trans (Xx ?_);simp[*];done)
  |(refine(show _=mO {m with escaped:=false,left:=1}++_ from rfl).trans (Xx ?_);simp[*];done)
set_option maxHeartbeats 4000000 in
theorem Bq(m:Mch)(i:Ins)(b:Int)(hs:i.b=1→0≤i.a-m.left-1∧i.a-m.left-1≤3∧0≤i.a∧i.a≤4)(hb:0≤b∧b≤255):AM Tryz.prog 85 (mO m) [0] [.obj 0 0,.ro (.agg (Ul i)),.int b] (mO (Ws {m with register:=if i.b=1 then w64 (m.register+b*2 ^ (8*(i.a-m.left-1)).toNat) else w64 (w64 (256*m.register)+b)})) (.tup []):=by
 refine Yz Tryz.func85 rfl _ Tryz.ntmps85 (by simp) (by simp) fun C gs hn=>?_
 by_cases h1:i.b=1
 ·obtain⟨s1,s2,s3,s4⟩:=hs h1
  repeat' (first
|refine Y3 (id:=2) 30 [] [0,1,2,3,4,5,6,7,8,9,10,11,12,13,14,15,16,17] 18 [] Yc hn rfl (by kernel_rfl) rfl .nil (by decide) (by decide) (by decide) ?_
|refine Yd 3 (V3 {m with register:=w64 (m.register+b*2 ^ (8*(i.a-m.left-1)).toNat)}) rfl (by simp[AV.onlys,AV.only]) (by simp[AV.only,AV.onlys]) rfl rfl rfl (Yb _) (Yb _) rfl (by first|exact trivial|exact⟨rfl,trivial⟩|exact⟨rfl,rfl,trivial⟩|exact⟨rfl,rfl,rfl,trivial⟩|exact⟨rfl,rfl,rfl,rfl,trivial⟩) (fun t h=>by injection h with h;subst h;exact tl hn rfl) ?_
|refine RunsT.nil ?_
|refine RunsT.step Zk rfl rfl (fun _=>rfl) (by decide) ?_
|refine RunsT.pur (fun _=>Z9 rfl) (by decide) rfl rfl ?_
|refine RunsT.pur (fun _=>pu_shl8 rfl rfl ⟨by omega,by omega⟩ hb) (by decide) rfl rfl ?_
|refine RunsT.pur (fun _=>Z7 rfl rfl (by omega)) (by decide) rfl rfl ?_
|refine RunsT.pur (fun _=>Xj rfl rfl (by omega)) (by decide) rfl rfl ?_
|refine RunsT.pur (fun _=>We (t:=24) rfl rfl) (by decide) rfl rfl ?_
|refine Zbg Zk hn rfl ?_
|refine Zbh ?_
|refine Za 30 rfl ?_
|(refine Zc hn rfl rfl rfl ?_;first
|refine⟨_,Z9 rfl,?_⟩
|refine⟨_,pu_shl8 rfl rfl ⟨by omega,by omega⟩ hb,?_⟩
|refine⟨_,Z7 rfl rfl (by omega),?_⟩
|refine⟨_,Xj rfl rfl (by omega),?_⟩
|refine⟨_,We (t:=24) rfl rfl,?_⟩)
|(refine Zbf 30 rfl ?_;first|(refine Zd rfl ?_ ?_;·first|omega|rfl|assumption)|(refine Ze rfl ?_ ?_;·first|omega|rfl|assumption))
|refine Zs rfl (tl hn rfl) ?_
|refine Z5 rfl rfl rfl rfl (nbT rfl) ?_
|(refine Zc hn rfl rfl rfl ?_;first
|refine⟨_,Z7 rfl rfl (by omega),?_⟩
|refine⟨_,Xj rfl rfl (by omega),?_⟩))
  refine Zbf 30 rfl ?_
  refine Wx (t:=0) (more:=[⟨51,0,(Ul i).map .ro⟩]) rfl ?_ rfl
  exact Xx (by rw[if_pos h1])
 ·repeat' (first
|refine Yd 3 (V3 {m with register:=w64 (w64 (256*m.register)+b)}) rfl (by simp[AV.onlys,AV.only]) (by simp[AV.only,AV.onlys]) rfl rfl rfl (Yb _) (Yb _) rfl (by first|exact trivial|exact⟨rfl,trivial⟩|exact⟨rfl,rfl,trivial⟩|exact⟨rfl,rfl,rfl,trivial⟩|exact⟨rfl,rfl,rfl,rfl,trivial⟩) (fun t h=>by injection h with h;subst h;exact tl hn rfl) ?_
|refine Zbg Zk hn rfl ?_
|refine Zbh ?_
|refine Za 30 rfl ?_
|(refine Zc hn rfl rfl rfl ?_;first
|refine⟨_,Z9 rfl,?_⟩
|refine⟨_,Py rfl rfl,?_⟩
|refine⟨_,We (t:=34) rfl rfl,?_⟩)
|(refine Zbf 30 rfl ?_;first|(refine Zd rfl ?_ ?_;·first|omega|rfl|assumption)|(refine Ze rfl ?_ ?_;·first|omega|rfl|assumption))
|refine Zs rfl (tl hn rfl) ?_
|refine Z5 rfl rfl rfl rfl (nbT rfl) ?_
|(refine Zc hn rfl rfl rfl ?_;first
|refine⟨_,Z7 rfl rfl (by omega),?_⟩
|refine⟨_,Xj rfl rfl (by omega),?_⟩))
  refine Zbf 30 rfl ?_
  refine Wx (t:=0) (more:=[⟨51,0,(Ul i).map .ro⟩]) rfl ?_ rfl
  exact Xx (by rw[if_neg h1])
end Go.Proofs.YtnecoghfhcimeaaGreat
