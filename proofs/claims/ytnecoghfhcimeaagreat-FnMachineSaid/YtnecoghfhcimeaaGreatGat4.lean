/- Gathered texts. -/
import Derived.Test.YtnecoghfhcimeaaGreatGat0
import Derived.Test.YtnecoghfhcimeaaGreatGat1
import Derived.Test.YtnecoghfhcimeaaGreatGat2
import Derived.Test.YtnecoghfhcimeaaGreatGat3
/- The rule of an item of a value: both sides. -/
namespace Go.Proofs.YtnecoghfhcimeaaGreat
set_option linter.unusedSimpArgs false
set_option linter.unusedVariables false
set_option linter.unusedSectionVars false
open Go.RowKit
def W7:List Int→Int→Nat
 | [],_=>0
 |t::ts,n=>if t=n then 0 else W7 ts n+1
theorem Et{n:Int}:∀{l:List Int} {j:Nat},l[j]?=some n→(∀(k:Nat) t,k<j→l[k]?=some t→t≠n)→W7 l n=j
 | [],j,h,_=>by simp at h
 |t::ts,0,h,_=>by
  simp at h
  rw[W7,if_pos h]
 |t::ts,j+1,h,hn=>by
  rw[W7,if_neg (hn 0 t (by omega) (by simp)),Et (l:=ts) (j:=j) (by simpa using h) fun k u hk hu=>hn (k+1) u (by omega) (by simpa using hu)]
theorem B5{n:Int}:∀{l:List Int},(∀(k:Nat) t,l[k]?=some t→t≠n)→W7 l n=l.length
 | [],_=>rfl
 |t::ts,hn=>by
  rw[W7,if_neg (hn 0 t (by simp)),B5 (l:=ts) fun k u hu=>hn (k+1) u (by simpa using hu)]
  rfl
theorem Gl{n:Int}:∀{l:List Int},W7 l n<l.length→l[W7 l n]?=some n
 | [],h=>by simp[W7]at h
 |t::ts,h=>by
  rw[W7]at h ⊢
  by_cases e:t=n
  ·rw[if_pos e,e];simp
  ·rw[if_neg e]at h ⊢
   rw[Za8]at h
   simpa using Gl (n:=n) (l:=ts) (by omega)
def Xb(r:Rul)(n i:Int):Int:=
 if r.kind=5 then(r.kids[1]?).getD (-1)
 else if r.kind=6 then(r.kids[i.toNat]?).getD (-1)
 else if r.kind=7 then(r.kids[W7 r.tags n+1]?).getD (-1)
 else if r.kind=8∨r.kind=9 then(r.kids[0]?).getD (-1)
 else -1
theorem Wk{d:Des}{x:Rul}(hk:Xi d x):(x.kind=5→x.kids.length=2)∧(x.kind=7→Tt d x)∧(x.kind=8∨x.kind=9→x.kids.length=1)∧(x.kind=4→x.kids.length=1):=by
 unfold Xi at hk
 refine⟨fun e=>?_,fun e=>?_,fun e=>?_,fun e=>?_⟩
 ·rcases hk with hk|hk|hk|hk|hk|hk|hk|hk|hk
  all_goals first|omega|(have:=hk.2.1.kids (by omega);omega)
 ·rcases hk with hk|hk|hk|hk|hk|hk|hk|hk|hk
  all_goals first|omega|exact hk.2.2
 ·rcases hk with hk|hk|hk|hk|hk|hk|hk|hk|hk
  all_goals first|omega|(have:=hk.2.kids (by omega);omega)
 ·rcases hk with hk|hk|hk|hk|hk|hk|hk|hk|hk
  all_goals first|omega|(have:=hk.2.1.kids (by omega);omega)
theorem Mf{d:Des}(hG:U5 d){r:Nat}{x:Rul}(h:d[r]?=some x):Xi d x:=by
 have hi:=(Za5.1 h).1
 obtain⟨_,x',h1,h2⟩:=hG.2.2 r hi
 rw[show((r:Nat):Int).toNat=r by rfl,h]at h1;injection h1 with h1;subst h1
 exact h2.2.2.2
theorem Ra{d:Des}(hG:U5 d){r:Nat}{x:Rul}(h:d[r]?=some x){k:Nat}{z:Int}(hz:x.kids[k]?=some z):0≤z∧z<r:=by
 have hi:=(Za5.1 h).1
 obtain⟨_,x',h1,h2⟩:=hG.2.2 r hi
 rw[show((r:Nat):Int).toNat=r by rfl,h]at h1;injection h1 with h1;subst h1
 simpa using h2.2.1 k z hz
theorem S3{d:Des}(hG:U5 d){r:Nat}{x:Rul}(h:d[r]?=some x)(n i:Int):Xb x n i = -1∨(0≤Xb x n i∧Xb x n i<r):=by
 have key:∀k:Nat,(x.kids[k]?).getD (-1) = -1∨(0≤(x.kids[k]?).getD (-1)∧(x.kids[k]?).getD (-1)<r):=fun k=>by
  cases hz:x.kids[k]? with
  |none=>exact .inl rfl
  |some z=>exact .inr (Ra hG h hz)
 unfold Xb
 split
 ·exact key _
 split
 ·exact key _
 split
 ·exact key _
 split
 ·exact key _
 ·exact .inl rfl
theorem getD_some{l:List Int}{k:Nat}{c:Int}(h:l[k]?=some c):(l[k]?).getD (-1)=c:=by rw[h];rfl
theorem Nb{l:List Int}{k:Nat}(h:l.length≤k):(l[k]?).getD (-1) = -1:=by rw[List.getElem?_eq_none h];rfl
set_option maxHeartbeats 4000000 in
theorem Dp{d:Des}{x:Rul}(hk:Xi d x)(n i:Int)(h0:0≤i):ACv Tryz.prog 53 [.agg (Xz x),.int n,.int i] (.int (Xb x n i)):=by
 obtain⟨f5,f7,f8,_⟩:=Wk hk
 have hlk:(x.kids.map fun z=>[RV.int z]).length=x.kids.length:=lmT ..
 have hlt':(x.tags.map fun z=>[RV.int z]).length=x.tags.length:=lmT ..
 refine Zz Tryz.func53 rfl _ Tryz.ntmps53 (by simp) fun C hn hm=>?_
 by_cases k5:x.kind=5
 ·have hc:x.kids[(1:Int).toNat]?=some _:=Za6 (by have:=f5 k5;simp;omega)
  repeat' (first
|refine Zbg Zk hn rfl ?_
|refine Zbh ?_
|refine Za 30 rfl ?_
|(refine Zbf 30 rfl ?_;first|refine Zg rfl ?_|(refine Zd rfl ?_ ?_;·first|omega|rfl|assumption|(simp only[lmT];omega))|(refine Ze rfl ?_ ?_;·first|omega|rfl|assumption|(simp only[lmT];omega))|refine Zbe (Zj hm rfl rfl ?_)|exact Zbe (Zf hm rfl rfl rfl (nbT rfl) rfl rfl))
|refine Zs rfl (tl hn rfl) ?_
|(refine Zc hn rfl rfl rfl ?_;first
|refine⟨_,Zq rfl rfl (by omega),?_⟩
|refine⟨_,Zb rfl rfl (by omega) (by assumption),?_⟩
    ))
  exact Xu (by unfold Xb;rw[if_pos k5];exact(getD_some hc).symm)
 by_cases k6:x.kind=6
 ·by_cases hi:i<x.kids.length
  ·have hc:x.kids[i.toNat]?=some _:=Za6 (by omega)
   repeat' (first
|refine Zbg Zk hn rfl ?_
|refine Zbh ?_
|refine Za 30 rfl ?_
|(refine Zbf 30 rfl ?_;first|refine Zg rfl ?_|(refine Zd rfl ?_ ?_;·first|omega|rfl|assumption|(simp only[lmT];omega))|(refine Ze rfl ?_ ?_;·first|omega|rfl|assumption|(simp only[lmT];omega))|refine Zbe (Zj hm rfl rfl ?_)|exact Zbe (Zf hm rfl rfl rfl (nbT rfl) rfl rfl))
|refine Zs rfl (tl hn rfl) ?_
|(refine Zc hn rfl rfl rfl ?_;first
|refine⟨_,Zq rfl rfl (by omega),?_⟩
|refine⟨_,Zb rfl rfl (by omega) (by assumption),?_⟩
     ))
   exact Xu (by unfold Xb;rw[if_neg k5,if_pos k6];exact(getD_some hc).symm)
  ·repeat' (first
|refine Zbg Zk hn rfl ?_
|refine Zbh ?_
|refine Za 30 rfl ?_
|(refine Zbf 30 rfl ?_;first|refine Zg rfl ?_|(refine Zd rfl ?_ ?_;·first|omega|rfl|assumption|(simp only[lmT];omega))|(refine Ze rfl ?_ ?_;·first|omega|rfl|assumption|(simp only[lmT];omega))|refine Zbe (Zj hm rfl rfl ?_)|exact Zbe (Zf hm rfl rfl rfl (nbT rfl) rfl rfl))
|refine Zs rfl (tl hn rfl) ?_
|(refine Zc hn rfl rfl rfl ?_;first
|refine⟨_,Zq rfl rfl (by omega),?_⟩
|refine⟨_,Zb rfl rfl (by omega) (by assumption),?_⟩
    ))
   exact Xu (by unfold Xb;rw[if_neg k5,if_pos k6];exact(Nb (by omega)).symm)
 by_cases k7:x.kind=7
 ·obtain⟨hkl,ht1,ht8,_⟩:=f7 k7
  repeat' (first
|refine Zbg Zk hn rfl ?_
|refine Zbh ?_
|refine Za 30 rfl ?_
|(refine Zbf 30 rfl ?_;first|refine Zg rfl ?_|(refine Zd rfl ?_ ?_;·first|omega|rfl|assumption|(simp only[lmT];omega))|(refine Ze rfl ?_ ?_;·first|omega|rfl|assumption|(simp only[lmT];omega))|refine Zbe (Zj hm rfl rfl ?_)|exact Zbe (Zf hm rfl rfl rfl (nbT rfl) rfl rfl))
|refine Zs rfl (tl hn rfl) ?_
|(refine Zc hn rfl rfl rfl ?_;first
|refine⟨_,Zq rfl rfl (by omega),?_⟩
|refine⟨_,Zb rfl rfl (by omega) (by assumption),?_⟩
    ))
  refine Yh 30 rfl (fun j=>[(1,.int n),(3,.obj 0 0),(7,.int (j:Int))]) (fun _=>[⟨78,0,[.str x.name,.int x.kind,.int x.size,.bool x.little,.ro (Ya x.bytes),.ro (Vw x.names),.ro (Xe x.tags),.ro (Xe x.kids)]⟩]) (fun j=>∀(k:Nat) t,k<j→x.tags[k]?=some t→t≠n) x.tags.length 0 (Nat.zero_le _) (fun k t h=>absurd h (by omega)) ⟨rfl,rfl,rfl,trivial⟩ rfl fun j hj hQ next=>?_
  by_cases hlt:j<x.tags.length
  ·obtain⟨t,ht⟩:∃t,x.tags[(j:Int).toNat]?=some t:=⟨_,Za6 hlt⟩
   have ht':x.tags[j]?=some t:=ht
   have hc:x.kids[((j:Int)+1).toNat]?=some _:=Za6 (by omega)
   by_cases he:t=n
   ·subst he
    repeat' (first
|refine Zbg Zk hn rfl ?_
|refine Zbh ?_
|refine Za 30 rfl ?_
|(refine Zbf 30 rfl ?_;first|refine Zg rfl ?_|(refine Zd rfl ?_ ?_;·first|omega|rfl|assumption|(simp only[lmT];omega))|(refine Ze rfl ?_ ?_;·first|omega|rfl|assumption|(simp only[lmT];omega))|refine Zbe (Zj hm rfl rfl ?_)|exact Zbe (Zf hm rfl rfl rfl (nbT rfl) rfl rfl))
|refine Zs rfl (tl hn rfl) ?_
|(refine Zc hn rfl rfl rfl ?_;first
|refine⟨_,Zq rfl rfl (by omega),?_⟩
|refine⟨_,Zb rfl rfl (by omega) (by assumption),?_⟩
      ))
    exact Xu (by unfold Xb;rw[if_neg k5,if_neg k6,if_pos k7,Et ht' hQ];exact(getD_some hc).symm)
   ·repeat' (first
|refine Zbg Zk hn rfl ?_
|refine Zbh ?_
|refine Za 30 rfl ?_
|(refine Zbf 30 rfl ?_;first|refine Zg rfl ?_|(refine Zd rfl ?_ ?_;·first|omega|rfl|assumption|(simp only[lmT];omega))|(refine Ze rfl ?_ ?_;·first|omega|rfl|assumption|(simp only[lmT];omega))|refine Zbe (Zj hm rfl rfl ?_)|exact Zbe (Zf hm rfl rfl rfl (nbT rfl) rfl rfl))
|refine Zs rfl (tl hn rfl) ?_
|(refine Zc hn rfl rfl rfl ?_;first
|refine⟨_,Zq rfl rfl (by omega),?_⟩
|refine⟨_,Zb rfl rfl (by omega) (by assumption),?_⟩
     ))
    refine next _ _ ⟨rfl,rfl,rfl,trivial⟩ hlt (fun k t2 hk hk'=>?_) rfl
    by_cases e:k=j
    ·subst e;rw[ht']at hk';injection hk' with hk';rw[←hk'];exact he
    ·exact hQ k t2 (by omega) hk'
  ·repeat' (first
|refine Zbg Zk hn rfl ?_
|refine Zbh ?_
|refine Za 30 rfl ?_
|(refine Zbf 30 rfl ?_;first|refine Zg rfl ?_|(refine Zd rfl ?_ ?_;·first|omega|rfl|assumption|(simp only[lmT];omega))|(refine Ze rfl ?_ ?_;·first|omega|rfl|assumption|(simp only[lmT];omega))|refine Zbe (Zj hm rfl rfl ?_)|exact Zbe (Zf hm rfl rfl rfl (nbT rfl) rfl rfl))
|refine Zs rfl (tl hn rfl) ?_
|(refine Zc hn rfl rfl rfl ?_;first
|refine⟨_,Zq rfl rfl (by omega),?_⟩
|refine⟨_,Zb rfl rfl (by omega) (by assumption),?_⟩
    ))
   exact Xu (by unfold Xb;rw[if_neg k5,if_neg k6,if_pos k7,B5 fun k t h=>hQ k t (by have:=(Za5.1 h).1;omega) h];exact(Nb (by omega)).symm)
 by_cases k8:x.kind=8∨x.kind=9
 ·have hc:x.kids[(0:Int).toNat]?=some _:=Za6 (by have:=f8 k8;simp;omega)
  rcases k8 with k8|k8
  all_goals
   repeat' (first
|refine Zbg Zk hn rfl ?_
|refine Zbh ?_
|refine Za 30 rfl ?_
|(refine Zbf 30 rfl ?_;first|refine Zg rfl ?_|(refine Zd rfl ?_ ?_;·first|omega|rfl|assumption|(simp only[lmT];omega))|(refine Ze rfl ?_ ?_;·first|omega|rfl|assumption|(simp only[lmT];omega))|refine Zbe (Zj hm rfl rfl ?_)|exact Zbe (Zf hm rfl rfl rfl (nbT rfl) rfl rfl))
|refine Zs rfl (tl hn rfl) ?_
|(refine Zc hn rfl rfl rfl ?_;first
|refine⟨_,Zq rfl rfl (by omega),?_⟩
|refine⟨_,Zb rfl rfl (by omega) (by assumption),?_⟩
     ))
   exact Xu (by unfold Xb;rw[if_neg k5,if_neg k6,if_neg k7,if_pos (by omega)];exact(getD_some hc).symm)
 ·repeat' (first
|refine Zbg Zk hn rfl ?_
|refine Zbh ?_
|refine Za 30 rfl ?_
|(refine Zbf 30 rfl ?_;first|refine Zg rfl ?_|(refine Zd rfl ?_ ?_;·first|omega|rfl|assumption|(simp only[lmT];omega))|(refine Ze rfl ?_ ?_;·first|omega|rfl|assumption|(simp only[lmT];omega))|refine Zbe (Zj hm rfl rfl ?_)|exact Zbe (Zf hm rfl rfl rfl (nbT rfl) rfl rfl))
|refine Zs rfl (tl hn rfl) ?_
|(refine Zc hn rfl rfl rfl ?_;first
|refine⟨_,Zq rfl rfl (by omega),?_⟩
|refine⟨_,Zb rfl rfl (by omega) (by assumption),?_⟩
   ))
  exact Xu (by unfold Xb;rw[if_neg k5,if_neg k6,if_neg k7,if_neg k8])
section
variable{P:Program}{C:Ctx}{env:Env}{σ:List Ob}{t:Nat}{ty:TypeId}{pos:String}{after:Array Edge}{gd:Option (Nat×Bool)}
theorem Px{x:Operand}{cs:List RV}(hx:ev env x = .ro (.rp cs)):Pur P C ⟨some t,.nilCheck x,ty,pos,after,gd⟩ env σ (.ro (.rp cs)):=
 Xm (fun a m hG hσ hH=>by
  have h:=hH x (by simp[Op.operands,Call.operands])
  rw[hx]at h
  have h':=h
  simp only[AV.rel,RV.rel]at h
  obtain⟨b,o,e,hb,hok,hc⟩:=h
  exact⟨a.eval x,by simp[execOp,e],h'⟩)
end
theorem kn_nat{d:Des}{r:Int}(h:Kn d r):∃(n:Nat) (x:Rul),r=n∧n<d.length∧d[n]?=some x:=by
 obtain⟨_,h2⟩:=h
 unfold HasR at h2
 exact⟨r.toNat,_,by omega,by omega,Za6 (by omega)⟩
set_option maxHeartbeats 4000000 in
theorem Jj(p:Prg)(i:Int)(hi:I64 i)(hl:p.code.length≤maxLen):ACv Tryz.prog 77 [Tm p,.int i] (.bool (decide (Bg p i))):=by
 unfold maxLen at hl
 unfold I64 at hi
 refine Zz Tryz.func77 rfl _ Tryz.ntmps77 (by simp) fun C hn hm=>?_
 by_cases hx:Idx p i
 ·have hx2:=hx
  unfold Idx at hx2
  obtain⟨x,hx'⟩:∃x,p.code[i.toNat]?=some x:=⟨_,Za6 (by omega)⟩
  have hS:=U8 hx'
  repeat' (first
|refine Zbg Zk hn rfl ?_
|refine Zbh ?_
|refine Za 30 rfl ?_
|(refine Zc hn rfl rfl rfl ?_;first
|refine⟨_,Zi (Y2 _ _ _) rfl,?_⟩
|refine⟨_,Zi (Wo _ _) rfl,?_⟩
|refine⟨_,Zi (Ol _) rfl,?_⟩)
|(refine Zbf 30 rfl ?_;first|refine Zg rfl ?_|refine Zm rfl ?_|(refine Zp rfl ?_ ?_;·first|omega|rfl|assumption)|((first|refine Ze rfl ?_ ?_|refine Zn rfl ?_ ?_);·first|omega|rfl|assumption)|refine Z1 rfl (fun h=>?_) (fun h=>?_)|refine Z8 rfl (fun h=>?_) (fun h=>?_)|refine Zbe (Zj hm rfl rfl ?_)|exact Zbe (Zf hm rfl rfl rfl (nbT rfl) rfl rfl))
|refine Zs rfl (tl hn rfl) ?_
|refine Zx (tl hn rfl) ?_
|refine Zr rfl rfl rfl rfl (nbT rfl) ?_
|(refine Zc hn rfl rfl rfl ?_;first
|refine⟨_,Zq rfl rfl (by omega),?_⟩
|refine⟨_,Zb rfl rfl (by omega) (by assumption),?_⟩
    )
|((first|refine Zh rfl rfl rfl ?_ ?_|refine Zy rfl rfl rfl ?_ ?_)<;>intro h<;>try(exfalso;first|omega|contradiction)))
  all_goals exact Z3 (by rw[Bool.eq_iff_iff];simp only[decide_eq_true_eq,Bool.not_eq_true',decide_eq_false_iff_not,Bool.false_eq_true,true_iff,false_iff,Bool.and_eq_true,Bool.or_eq_true,Bool.not_eq_eq_eq_not,Bool.not_true,Bool.not_false,reduceCtorEq,eq_self,iff_true,iff_false,ne_eq];simp only[hS,SafeX,Tv,Idx,Goes,InR]at *;first|(simp[*];done)|(simp[*];omega)|omega)
 ·have hS:=safeI_out hx
  repeat' (first
|refine Zbg Zk hn rfl ?_
|refine Zbh ?_
|refine Za 30 rfl ?_
|(refine Zc hn rfl rfl rfl ?_;first
|refine⟨_,Zi (Y2 _ _ _) rfl,?_⟩
|refine⟨_,Zi (Wo _ _) rfl,?_⟩
|refine⟨_,Zi (Ol _) rfl,?_⟩)
|(refine Zbf 30 rfl ?_;first|refine Zg rfl ?_|refine Zm rfl ?_|(refine Zp rfl ?_ ?_;·first|omega|rfl|assumption)|((first|refine Ze rfl ?_ ?_|refine Zn rfl ?_ ?_);·first|omega|rfl|assumption)|refine Z1 rfl (fun h=>?_) (fun h=>?_)|refine Z8 rfl (fun h=>?_) (fun h=>?_)|refine Zbe (Zj hm rfl rfl ?_)|exact Zbe (Zf hm rfl rfl rfl (nbT rfl) rfl rfl))
|refine Zs rfl (tl hn rfl) ?_
|refine Zx (tl hn rfl) ?_
|refine Zr rfl rfl rfl rfl (nbT rfl) ?_
|(refine Zc hn rfl rfl rfl ?_;first
|refine⟨_,Zq rfl rfl (by omega),?_⟩
|refine⟨_,Zb rfl rfl (by omega) (by assumption),?_⟩
    )
|((first|refine Zh rfl rfl rfl ?_ ?_|refine Zy rfl rfl rfl ?_ ?_)<;>intro h<;>try(exfalso;first|omega|contradiction)))
  all_goals rw[decide_eq_false (hS.1 ·)]
open AV (Mem Wn)
def ACA(P:Program)(f:FuncId)(args:List AV)(R:RR→Prop):Prop:=
 ∀(w:World) (ok:Nat→Prop) (us:Array Value),(∀b,w.heap.size≤b→ok b)→AV.rels ⟨w,fun _=>none,[],ok⟩ args us.toList →
  Calls P f us w fun e w'=>∃u rr bs,e = .returned u∧R rr∧RR.rel w' (fun b=>ok b∧b∉bs) rr u bs∧bs.Nodup∧(∀b∈bs,w.heap.size≤b∧b<w'.heap.size)∧Below w.heap.size w w'
def Kc:Nat→List AV→Env
 |_,[]=>[]
 |t,r::rs=>(t,r)::Kc (t+1) rs
theorem Ev:∀(rs:List AV) (t k:Nat),look (Kc t rs) k=if t≤k then(match rs[k-t]? with|some r=>r|none=>.junk) else .junk
 | [],t,k=>by simp[Kc,look]
 |r::rs,t,k=>by
  rw[Kc,Yy,Ev rs (t+1) k]
  by_cases h:t=k
  ·subst h;simp
  ·rw[if_neg h]
   by_cases h2:t+1≤k
   ·have e:k-t=(k-(t+1))+1:=by omega
    rw[if_pos h2,if_pos (by omega:t≤k),e,List.getElem?_cons_succ]
   ·rw[if_neg h2]
    split
    ·omega
    ·rfl
theorem O6{P:Program}{f:FuncId}{fn:Func}{c:Code}{args:List AV}{R:RR→Prop}(hf:P.funcs[f]?=some fn)(hb:fn.body=some c)(n:Nat)(hn:fn.ntmps=n)(hl:args.length≤n)
  (h:∀C:Ctx,C.n=n→(∀b,¬C.mu b)→Runs P C [.code c] (R7 P C fn R) ⟨Kc 0 args,[]⟩):ACA P f args R:=by
 intro w ok us h0 hu
 have hlen:=AV.rels_len args _ hu
 refine Wz hf hb ?_
 have hs:Sim ⟨w,ok,fun _=>False,n⟩ ⟨Kc 0 args,[]⟩ {tmps:=us++Array.replicate (fn.ntmps-us.size) undef,defers:=[]} w:=by
  refine⟨rfl,by simp at hlen ⊢;omega,fun _=>none,⟨rfl,fun i j g hi=>by simp at hi,fun i o hi=>by simp at hi,fun i g hi=>by simp at hi,⟨rfl,rfl,rfl,Nat.le_refl _,fun _ _ _=>rfl,h0⟩⟩,fun t=>?_⟩
  rw[Ev]
  simp only[Nat.zero_le,if_true,Nat.sub_zero]
  cases hr:args[t]? with
  |none=>simp[AV.rel]
  |some r=>
   obtain⟨u,e1,e2⟩:=AV.rels_at args _ hu t r hr
   have ht:t<us.size:=by have:=(Za5.1 e1).1;simpa using this
   have:(us++Array.replicate (fn.ntmps-us.size) undef).getD t undef=u:=by
    rw[Array.getD_eq_getD_getElem?,Array.getElem?_append_left ht]
    have:us[t]?=some u:=by simpa using e1
    simp[this]
   simp only
   rw[this]
   exact e2
 have hr:=(h ⟨w,ok,fun _=>False,n⟩ rfl (fun _ h=>h)).run _ w hs
 intro b cs
 obtain⟨a',w',todo,⟨hd,v,hv,rr,bs,h1,h2,h3,h4,h5⟩,hst⟩:=hr b cs
 exact⟨a',w',todo,⟨hd,v,hv,v,rr,bs,rfl,h1,h2,h3,h4,h5⟩,hst⟩
def LendsA(C:Ctx)(σ:List Ob)(v v':AV):Prop:=∀(m:Mem) (u:Value) (ok':Nat→Prop),Good C m→m.σ=σ→(∀b,m.ok b→ok' b)→(∀(i g:Nat),i<σ.length→m.φ i=some g→ok' g)→AV.rel m v u→AV.rel ⟨m.w,fun _=>none,[],ok'⟩ v' u
inductive LendsAL (C:Ctx) (σ:List Ob):List AV→List AV→Prop
 |nil:LendsAL C σ [] []
 |cons {v v':AV} {vs vs':List AV}:LendsA C σ v v'→LendsAL C σ vs vs'→LendsAL C σ (v::vs) (v'::vs')
section
variable{P:Program}{C:Ctx}{σ:List Ob}
theorem Nm{v:AV}{r:RV}(h:Lends C σ v r):LendsA C σ v (.ro r):=fun m u ok' hG hσ k1 k2 hu=>by
 simp only[AV.rel]
 exact RV.rel_mono ⟨Nat.le_refl _,fun b _ hb=>⟨⟨hb,fun i hi=>by simp at hi⟩,rfl⟩⟩ r u (h m u ok' hG hσ k1 k2 hu)
theorem LendsAL.rels{m:Mem}{ok':Nat→Prop}(hG:Good C m)(hσ:m.σ=σ)(k1:∀b,m.ok b→ok' b)(k2:∀(i g:Nat),i<σ.length→m.φ i=some g→ok' g){vs rs:List AV}(h:LendsAL C σ vs rs):∀us,AV.rels m vs us→AV.rels ⟨m.w,fun _=>none,[],ok'⟩ rs us:=by
 induction h with
 |nil=>intro us hu;simpa [AV.rels] using hu
 |cons h1 _ ih=>
  intro us hu
  simp only[AV.rels]at hu ⊢
  obtain⟨u,us',rfl,k3,k4⟩:=hu
  exact⟨u,us',rfl,h1 m u ok' hG hσ k1 k2 k3,ih us' k4⟩
theorem LendsA.fn{f:Fn}{a b a' b':List AV}(ha:LendsAL C σ a a')(hb:LendsAL C σ b b'):LendsA C σ (.fn f a b) (.fn f a' b'):=fun m u ok' hG hσ k1 k2 hu=>by
 simp only[AV.rel]at hu ⊢
 obtain⟨us,vs,e,h1,h2⟩:=hu
 exact⟨us,vs,e,ha.rels hG hσ k1 k2 _ h1,hb.rels hG hσ k1 k2 _ h2⟩
variable{env:Env}{t:Nat}{ty:TypeId}{pos:String}{after:Array Edge}{gd:Option (Nat×Bool)}
theorem Sp{f:FuncId}{fn:Func}{xs:Array Operand}{ats:Array TypeId}{args:List AV}{v:Value}[hfn:FN P f fn](hf:ACA P f args fun rr=>rr = .ro (.c v))(ha:LendsAL C σ (xs.toList.map (ev env)) args) :
  Pur P C ⟨some t,.call {callee:=.value (.func f),args:=xs,argTypes:=ats},ty,pos,after,gd⟩ env σ (.ro (.c v)):=by
 refine⟨fun a m hG hσ hH K Q hK=>?_⟩
 have hr:=LendsAL.rels (ok':=fun _=>True) hG hσ (fun _ _=>trivial) (fun _ _ _ _=>trivial) ha _ (X4 (a:=a) (m:=m) xs.toList fun x hx=>hH x (by simp[Op.operands,Call.operands];exact .inr (by simpa using hx)))
 unfold Oper.wp
 rw[execOp_call_go,Wq hfn]
 simp only[Oper.upon]
 refine(hf m.w (fun _=>True) _ (fun _ _=>trivial) (by simpa using hr)).mono ?_
 rintro e w' ⟨u,rr,bs,rfl,rfl,h1,_,_,h4⟩
 simp only[RR.rel,RV.rel]at h1
 refine hK u w' h4 ?_
 simp only[AV.rel,RV.rel]
 exact h1.1
end
def opA(p:Prg)(i:Int):Int:=if 0≤i then(match p.code[i.toNat]? with|some x=>x.op|none=>0) else 0
def aA(p:Prg)(i:Int):Int:=if 0≤i then(match p.code[i.toNat]? with|some x=>x.a|none=>0) else 0
theorem Dd{p:Prg}{i:Int}{x:Ins}(h0:0≤i)(h:p.code[i.toNat]?=some x):opA p i=x.op:=by unfold opA;rw[if_pos h0,h]
theorem Rz{p:Prg}{i:Int}{x:Ins}(h0:0≤i)(h:p.code[i.toNat]?=some x):aA p i=x.a:=by unfold aA;rw[if_pos h0,h]
theorem opA_out{p:Prg}{i:Int}(h:¬Idx p i):opA p i=0:=by
 unfold opA
 split
 ·split
  ·rename_i x hx;have:=(Za5.1 hx).1;omega
  ·rfl
 ·rfl
theorem Dc{p:Prg}{i:Int}(h:opA p i≠0):Idx p i:=Classical.byContradiction fun hn=>h (opA_out hn)
theorem D0{p:Prg}{i:Int}(h:Idx p i):∃x,p.code[i.toNat]?=some x:=⟨_,Za6 (by omega)⟩
def endA(p:Prg)(b:Int):Int:=match p.entries[(b+1).toNat]? with|some e=>e|none=>p.code.length
def Jh(p:Prg)(k:Int):Prop:=opA p k=7∧opA p (k-1)=6∧opA p (k+1)=9∧opA p (k+2)=8∧aA p (k+2)=k∧aA p k=k+3
def Gf(p:Prg)(k:Int):Prop:=opA p k=14∧opA p (k+1)=9∧opA p (k+2)=15
noncomputable instance (p:Prg) (k:Int):Decidable (Jh p k):=Classical.propDecidable _
noncomputable instance (p:Prg) (k:Int):Decidable (Gf p k):=Classical.propDecidable _
abbrev Sm(k:Int):Prop := -1000≤k∧k≤1000000
theorem N8(p:Prg)(i:Int):ACv Tryz.prog 79 [Tm p,.int i] (.int (opA p i)):=by
 have hi:=Wo p i
 refine Zz Tryz.func79 rfl _ Tryz.ntmps79 (by simp) fun C hn hm=>?_
 by_cases h:Idx p i
 ·obtain⟨x,hx⟩:=D0 h
  rw[Dd h.1 hx]
  repeat' (first
|refine Zbg Zk hn rfl ?_
|refine Zbh ?_
|refine Za 30 rfl ?_
|(refine Zc hn rfl rfl rfl ?_;first
|refine⟨_,Zi hi rfl,?_⟩)
|(refine Zbf 30 rfl ?_;first|(refine Zp rfl ?_ ?_;·first|omega|rfl|assumption)|(refine Zn rfl ?_ ?_;·first|omega|rfl|assumption)|refine Zbe (Zj hm rfl rfl ?_)|exact Zbe (Zf hm rfl rfl rfl (nbT rfl) rfl rfl))
|refine Zs rfl (tl hn rfl) ?_
|(refine Zc hn rfl rfl rfl ?_;first
|refine⟨_,Zb rfl rfl (by omega) (by assumption),?_⟩
    ))
  exact Xu rfl
 ·rw[opA_out h]
  repeat' (first
|refine Zbg Zk hn rfl ?_
|refine Zbh ?_
|refine Za 30 rfl ?_
|(refine Zc hn rfl rfl rfl ?_;first
|refine⟨_,Zi hi rfl,?_⟩)
|(refine Zbf 30 rfl ?_;first|(refine Zp rfl ?_ ?_;·first|omega|rfl|assumption)|(refine Zn rfl ?_ ?_;·first|omega|rfl|assumption)|refine Zbe (Zj hm rfl rfl ?_)|exact Zbe (Zf hm rfl rfl rfl (nbT rfl) rfl rfl))
|refine Zs rfl (tl hn rfl) ?_
|(refine Zc hn rfl rfl rfl ?_;first
|refine⟨_,Zb rfl rfl (by omega) (by assumption),?_⟩
    ))
  all_goals exact Xu rfl
theorem Mk(p:Prg)(b:Int)(h0:0≤b)(h1:b≤9223372036854775806)(hl:p.entries.length≤maxLen):ACv Tryz.prog 78 [Tm p,.int b] (.int (endA p b)):=by
 have hlm:(p.entries.map fun z=>[RV.int z]).length=p.entries.length:=lmT ..
 have hlc:(p.code.map Ul).length=p.code.length:=lmT ..
 unfold maxLen at hl
 refine Zz Tryz.func78 rfl _ Tryz.ntmps78 (by simp) fun C hn hm=>?_
 by_cases h:b+1<p.entries.length
 ·obtain⟨e,he⟩:∃e,p.entries[(b+1).toNat]?=some e:=⟨_,Za6 (by omega)⟩
  have hr:endA p b=e:=by unfold endA;rw[he]
  rw[hr]
  repeat' (first
|refine Zbg Zk hn rfl ?_
|refine Zbh ?_
|refine Za 30 rfl ?_
|(refine Zbf 30 rfl ?_;first|(refine Zd rfl ?_ ?_;·first|omega|rfl|assumption|(simp only[lmT];omega))|(refine Ze rfl ?_ ?_;·first|omega|rfl|assumption|(simp only[lmT];omega))|refine Zbe (Zj hm rfl rfl ?_)|exact Zbe (Zf hm rfl rfl rfl (nbT rfl) rfl rfl))
|refine Zs rfl (tl hn rfl) ?_
|(refine Zc hn rfl rfl rfl ?_;first
|refine⟨_,Zq rfl rfl (by omega),?_⟩
|refine⟨_,Zb rfl rfl (by omega) (by assumption),?_⟩
    ))
  exact Xu rfl
 ·have hr:endA p b=p.code.length:=by
   unfold endA
   split
   ·rename_i e he;have:=(Za5.1 he).1;omega
   ·rfl
  rw[hr]
  repeat' (first
|refine Zbg Zk hn rfl ?_
|refine Zbh ?_
|refine Za 30 rfl ?_
|(refine Zbf 30 rfl ?_;first|(refine Zd rfl ?_ ?_;·first|omega|rfl|assumption|(simp only[lmT];omega))|(refine Ze rfl ?_ ?_;·first|omega|rfl|assumption|(simp only[lmT];omega))|refine Zbe (Zj hm rfl rfl ?_)|exact Zbe (Zf hm rfl rfl rfl (nbT rfl) rfl rfl))
|refine Zs rfl (tl hn rfl) ?_
|(refine Zc hn rfl rfl rfl ?_;first
|refine⟨_,Zq rfl rfl (by omega),?_⟩
|refine⟨_,Zb rfl rfl (by omega) (by assumption),?_⟩
    ))
  exact Xu (by rw[hlc])
set_option maxHeartbeats 4000000 in
theorem E1(p:Prg)(k:Int)(hk:Sm k):ACv Tryz.prog 112 [Tm p,.int k] (.bool (decide (Gf p k))):=by
 refine Zz Tryz.func112 rfl _ Tryz.ntmps112 (by simp) fun C hn hm=>?_
 repeat' (first
|refine Zbg Zk hn rfl ?_
|refine Zbh ?_
|refine Za 30 rfl ?_
|(refine Zc hn rfl rfl rfl ?_;first
|refine⟨_,Zi (N8 p _) rfl,?_⟩)
|(refine Zbf 30 rfl ?_;first|refine Zbe (Zj hm rfl rfl ?_)|exact Zbe (Zf hm rfl rfl rfl (nbT rfl) rfl rfl))
|refine Zs rfl (tl hn rfl) ?_
|(refine Zc hn rfl rfl rfl ?_;first
|refine⟨_,Zq rfl rfl (by omega),?_⟩
   )
|(refine Zh rfl rfl rfl ?_ ?_<;>intro h<;>try(exfalso;first|omega|contradiction)))
 all_goals exact Z3 (by rw[Bool.eq_iff_iff];simp[Gf, *])
set_option maxHeartbeats 8000000 in
theorem L6(p:Prg)(k:Int)(hk:Sm k):ACv Tryz.prog 111 [Tm p,.int k] (.bool (decide (Jh p k))):=by
 refine Zz Tryz.func111 rfl _ Tryz.ntmps111 (by simp) fun C hn hm=>?_
 by_cases h:opA p k=7∧opA p (k+2)=8
 ·obtain⟨x,hx⟩:=D0 (Dc (by rw[h.1];decide:opA p k≠0))
  obtain⟨y,hy⟩:=D0 (Dc (by rw[h.2];decide:opA p (k+2)≠0))
  have i1:=(Dc (by rw[h.1];decide:opA p k≠0)).1
  have ex:=Rz i1 hx
  have ey:=Rz (by omega) hy
  repeat' (first
|refine Zbg Zk hn rfl ?_
|refine Zbh ?_
|refine Za 30 rfl ?_
|(refine Zc hn rfl rfl rfl ?_;first
|refine⟨_,Zi (N8 p _) rfl,?_⟩)
|(refine Zbf 30 rfl ?_;first|refine Zbe (Zj hm rfl rfl ?_)|exact Zbe (Zf hm rfl rfl rfl (nbT rfl) rfl rfl))
|refine Zs rfl (tl hn rfl) ?_
|(refine Zc hn rfl rfl rfl ?_;first
|refine⟨_,Zq rfl rfl (by omega),?_⟩
|refine⟨_,Zb rfl rfl (by omega) (by assumption),?_⟩
|refine⟨_,Z7 rfl rfl (by omega),?_⟩
    )
|(refine Zh rfl rfl rfl ?_ ?_<;>intro h<;>try(exfalso;first|omega|contradiction)))
  all_goals exact Z3 (by rw[Bool.eq_iff_iff];simp[Jh, *])
 ·repeat' (first
|refine Zbg Zk hn rfl ?_
|refine Zbh ?_
|refine Za 30 rfl ?_
|(refine Zc hn rfl rfl rfl ?_;first
|refine⟨_,Zi (N8 p _) rfl,?_⟩)
|(refine Zbf 30 rfl ?_;first|refine Zbe (Zj hm rfl rfl ?_)|exact Zbe (Zf hm rfl rfl rfl (nbT rfl) rfl rfl))
|refine Zs rfl (tl hn rfl) ?_
|(refine Zc hn rfl rfl rfl ?_;first
|refine⟨_,Zq rfl rfl (by omega),?_⟩
|refine⟨_,Zb rfl rfl (by omega) (by assumption),?_⟩
|refine⟨_,Z7 rfl rfl (by omega),?_⟩
   )
|(refine Zh rfl rfl rfl ?_ ?_<;>intro h<;>try(exfalso;first|omega|contradiction)))
  all_goals first
   |exact Z3 (decide_eq_false (p:=Jh p k) fun hN=>by unfold Jh at hN;first|omega|exact h ⟨hN.1,hN.2.2.2.1⟩).symm
   |(exfalso;exact h ⟨by assumption,by assumption⟩)
def mn(a b:Int):Int:=if b<a then b else a
theorem mn_le(a b:Int):mn a b≤a∧mn a b≤b∧(mn a b=a∨mn a b=b):=by unfold mn;split<;>omega
theorem T7(a b:Int):ACv Tryz.prog 56 [.int a,.int b] (.int (mn a b)):=by
 unfold mn
 refine Zz Tryz.func56 rfl _ Tryz.ntmps56 (by simp) fun C hn hm=>?_
 by_cases h:b<a
 ·rw[if_pos h]
  repeat' (first
|refine Zbg Zk hn rfl ?_
|refine Zbh ?_
|refine Za 30 rfl ?_
|(refine Zbf 30 rfl ?_;first|(refine Zd rfl ?_ ?_;·first|omega|rfl|assumption)|(refine Ze rfl ?_ ?_;·first|omega|rfl|assumption)|refine Zbe (Zj hm rfl rfl ?_)|exact Zbe (Zf hm rfl rfl rfl (nbT rfl) rfl rfl))
   )
  exact Xu rfl
 ·rw[if_neg h]
  repeat' (first
|refine Zbg Zk hn rfl ?_
|refine Zbh ?_
|refine Za 30 rfl ?_
|(refine Zbf 30 rfl ?_;first|(refine Zd rfl ?_ ?_;·first|omega|rfl|assumption)|(refine Ze rfl ?_ ?_;·first|omega|rfl|assumption)|refine Zbe (Zj hm rfl rfl ?_)|exact Zbe (Zf hm rfl rfl rfl (nbT rfl) rfl rfl))
   )
  exact Xu rfl
def Nl(d:Des)(x:Rul)(v:Tre):Prop:=
 if x.kind=1 then(0≤v.number∧v.number≤Bs x.size-1)∧v.bytes.length=0∧v.items.length=0
 else if x.kind=2 then v.number=0∧v.bytes.length=0∧v.items.length=0
 else if x.kind=3 then v.number=0∧(v.bytes.length:Int)=x.size∧v.items.length=0
 else if x.kind=4 then v.number=0∧(v.bytes.length:Int)≤mn 400 (lim d (x.kids.headD 0))∧v.items.length=0
 else if x.kind=10 then v.number=0∧v.bytes.length≤400∧v.items.length=0
 else if x.kind=5 then v.number=0∧v.bytes.length=0∧(v.items.length:Int)≤mn 40 (lim d (x.kids.headD 0))
 else if x.kind=6 then v.number=0∧v.bytes.length=0∧v.items.length=x.kids.length
 else if x.kind=7 then v.bytes.length=0∧v.items.length=1∧0≤Xb x v.number 0
 else if x.kind=8 then v.number=0∧v.bytes.length=0∧v.items.length≤1
 else v.number=0∧v.bytes.length=0∧v.items.length=1
noncomputable instance (d:Des) (x:Rul) (v:Tre):Decidable (Nl d x v):=Classical.propDecidable _
def FitV(d:Des)(x:Rul)(v:Tre):Prop:=
 if x.kind=7 then v.bytes.length=0∧v.items.length=1∧0≤v.number∧v.number≤lim d (x.kids.headD 0) else Nl d x v
noncomputable instance (d:Des) (x:Rul) (v:Tre):Decidable (FitV d x v):=Classical.propDecidable _
theorem Og{d:Des}{x:Rul}(ht:Tt d x)(k7:x.kind=7){n i:Int}(h:0≤Xb x n i):0≤n∧n≤lim d (x.kids.headD 0):=by
 unfold Xb at h
 rw[if_neg (by omega),if_neg (by omega),if_pos k7]at h
 by_cases hl:W7 x.tags n<x.tags.length
 ·have:=ht.2.2.2 _ _ (Gl hl)
  exact⟨this.1,this.2.1⟩
 ·rw[Nb (by have:=ht.1;omega)]at h
  omega
theorem own_item{d:Des}{x:Rul}{v:Tre}(hG:U5 d){r:Nat}(hx:d[r]?=some x)(h:Nl d x v){i:Nat}(hi:i<v.items.length):0≤Xb x v.number i∧Xb x v.number i<r:=by
 have hk:=Mf hG hx
 have hf:=Wk hk
 suffices hs:Xb x v.number i ≠ -1 by
  rcases S3 hG hx v.number i with e|e
  ·exact absurd e hs
  ·exact e
 have key:∀k:Nat,k<x.kids.length→(x.kids[k]?).getD (-1) ≠ -1:=fun k hkl=>by
  have hz:x.kids[k]?=some _:=Za6 hkl
  have:=Ra hG hx hz
  rw[getD_some hz];omega
 unfold Nl at h
 by_cases k5:x.kind=5
 ·unfold Xb
  rw[if_pos k5]
  exact key 1 (by have:=hf.1 k5;omega)
 by_cases k6:x.kind=6
 ·simp only[k6,if_true,show ¬(6:Int)=1 by decide,show ¬(6:Int)=2 by decide,show ¬(6:Int)=3 by decide,show ¬(6:Int)=4 by decide,show ¬(6:Int)=5 by decide,show ¬(6:Int)=10 by decide,if_false]at h
  unfold Xb
  rw[if_neg k5,if_pos k6]
  exact key _ (by omega)
 by_cases k7:x.kind=7
 ·simp only[k7,if_true,show ¬(7:Int)=1 by decide,show ¬(7:Int)=2 by decide,show ¬(7:Int)=3 by decide,show ¬(7:Int)=4 by decide,show ¬(7:Int)=5 by decide,show ¬(7:Int)=6 by decide,show ¬(7:Int)=10 by decide,if_false]at h
  have h0:=h.2.2
  unfold Xb at h0 ⊢
  rw[if_neg k5,if_neg k6,if_pos k7]at h0 ⊢
  omega
 by_cases k8:x.kind=8∨x.kind=9
 ·unfold Xb
  rw[if_neg k5,if_neg k6,if_neg k7,if_pos k8]
  exact key 0 (by have:=hf.2.2.1 k8;omega)
 ·exfalso
  have hkk:x.kind=1∨x.kind=2∨x.kind=3∨x.kind=4∨x.kind=10:=by
   unfold Xi at hk
   rcases hk with hk|hk|hk|hk|hk|hk|hk|hk|hk
   all_goals omega
  rcases hkk with e|e|e|e|e
  all_goals
   simp only[e,if_true,show ¬(2:Int)=1 by decide,show ¬(3:Int)=1 by decide,show ¬(3:Int)=2 by decide,show ¬(4:Int)=1 by decide,show ¬(4:Int)=2 by decide,show ¬(4:Int)=3 by decide,show ¬(10:Int)=1 by decide,show ¬(10:Int)=2 by decide,show ¬(10:Int)=3 by decide,show ¬(10:Int)=4 by decide,if_false]at h
   omega
inductive Vld (d:Des):Nat→Tre→Prop
 |mk {r:Nat} {x:Rul} {v:Tre} (hx:d[r]?=some x) (ho:Nl d x v) (hi:∀(i:Nat) y,v.items[i]?=some y→Vld d (Xb x v.number i).toNat y):Vld d r v
theorem Eq{d:Des}{r:Nat}{x:Rul}{v:Tre}(hx:d[r]?=some x):Vld d r v↔Nl d x v∧∀(i:Nat) y,v.items[i]?=some y→Vld d (Xb x v.number i).toNat y:=by
 refine⟨fun h=>?_,fun h=>.mk hx h.1 h.2⟩
 cases h with
 |mk hx' ho hi=>
  rw[hx]at hx'
  injection hx' with e
  subst e
  exact⟨ho,hi⟩
noncomputable instance (d:Des) (r:Nat) (v:Tre):Decidable (Vld d r v):=Classical.propDecidable _
inductive OV where
 |c (v:Value)
 |row (e:TypeId) (sz:Nat) (cs:List OV)
 |agg (cs:List OV)
 |tup (vs:List OV)
namespace OV
mutual
def rel(w:World):OV→Value→List Nat→Prop
 | .c v,u,bs=>u=v∧bs=[]
 | .row e sz cs,u,bs=>∃n xs bs',cs.length=n*sz∧0<sz∧rels w cs xs bs'∧(∀x∈xs,x.oneCell'=true)∧w.ownsRow 0 e sz u n xs∧bs=u.ownBlock.toList++bs'
 | .agg cs,u,bs=>∃us:Array Value,u = .agg us∧rels w cs us.toList bs
 | .tup cs,u,bs=>∃us:Array Value,u = .tuple us∧rels w cs us.toList bs
def rels(w:World):List OV→List Value→List Nat→Prop
 | [],us,bs=>us=[]∧bs=[]
 |x::xs,us,bs=>∃u us' b bs',us=u::us'∧bs=b++bs'∧rel w x u b∧rels w xs us' bs'
end
theorem Iv{w w':World}{e:TypeId}{sz n:Nat}{u:Value}{xs:List Value}(h:w.ownsRow 0 e sz u n xs)(hb:∀b∈u.ownBlock.toList,w'.heap[b]?=w.heap[b]?):w'.ownsRow 0 e sz u n xs:=by
 obtain⟨h1,h2⟩:=h
 refine⟨h1,?_⟩
 rcases h2 with h2|⟨g,cap,cur,rfl,h3,h4,h5⟩
 ·exact .inl h2
 ·exact .inr ⟨g,cap,cur,rfl,h3,(hb g (by simp[Value.ownBlock])).trans h4,h5⟩
mutual
theorem rel_keep{w w':World}:∀(o:OV) (u:Value) (bs:List Nat),rel w o u bs→(∀b∈bs,w'.heap[b]?=w.heap[b]?)→rel w' o u bs
 | .c v,u,bs,h,_=>by simpa [rel] using h
 | .row e sz cs,u,bs,h,hb=>by
  simp only[rel]at h ⊢
  obtain⟨n,xs,bs',h1,h2,h3,h4,h5,rfl⟩:=h
  exact⟨n,xs,bs',h1,h2,Mx cs xs bs' h3 fun b hm=>hb b (List.mem_append.2 (.inr hm)),h4,Iv h5 fun b hm=>hb b (List.mem_append.2 (.inl hm)),rfl⟩
 | .agg cs,u,bs,h,hb=>by
  simp only[rel]at h ⊢
  obtain⟨us,e,h1⟩:=h
  exact⟨us,e,Mx cs _ bs h1 hb⟩
 | .tup cs,u,bs,h,hb=>by
  simp only[rel]at h ⊢
  obtain⟨us,e,h1⟩:=h
  exact⟨us,e,Mx cs _ bs h1 hb⟩
theorem Mx{w w':World}:∀(os:List OV) (us:List Value) (bs:List Nat),rels w os us bs→(∀b∈bs,w'.heap[b]?=w.heap[b]?)→rels w' os us bs
 | [],us,bs,h,_=>by simpa [rels] using h
 |x::xs,us,bs,h,hb=>by
  simp only[rels]at h ⊢
  obtain⟨u,us',b,bs',e1,rfl,h1,h2⟩:=h
  exact⟨u,us',b,bs',e1,rfl,rel_keep x u b h1 fun c hm=>hb c (List.mem_append.2 (.inl hm)),Mx xs us' bs' h2 fun c hm=>hb c (List.mem_append.2 (.inr hm))⟩
end
theorem rels_len{w:World}:∀(os:List OV) (us:List Value) (bs:List Nat),rels w os us bs→us.length=os.length
 | [],us,bs,h=>by simp only[rels]at h;simp[h.1]
 |x::xs,us,bs,h=>by
  simp only[rels]at h
  obtain⟨u,us',b,bs',rfl,_,_,h2⟩:=h
  simp[rels_len xs us' bs' h2]
theorem rels_c{w:World}:∀(vs:List Value),rels w (vs.map .c) vs []
 | []=>by simp[rels]
 |v::vs=>by simp only[List.map_cons,rels];exact⟨v,vs,[],[],rfl,rfl,by simp[rel],rels_c vs⟩
mutual
def Seal:OV→RV→Prop
 | .c v,r=>r = .c v
 | .row _ sz cs,r=>∃els,r = .seq sz els∧(∀x∈els,x.length=sz)∧Seals cs els.flatten
 | .agg cs,r=>∃rs,r = .agg rs∧Seals cs rs
 | .tup cs,r=>∃rs,r = .tup rs∧Seals cs rs
def Seals:List OV→List RV→Prop
 | [],rs=>rs=[]
 |x::xs,rs=>∃r rs',rs=r::rs'∧Seal x r∧Seals xs rs'
end
theorem Id:∀(os:List OV) (rs:List RV),Seals os rs→rs.length=os.length
 | [],rs,h=>by simp only[Seals]at h;simp[h]
 |x::xs,rs,h=>by
  simp only[Seals]at h
  obtain⟨r,rs',rfl,_,h2⟩:=h
  simp[Id xs rs' h2]
mutual
theorem seal_rel{w:World}{ok:Nat→Prop}:∀(o:OV) (r:RV) (u:Value) (bs:List Nat),Seal o r→rel w o u bs→(∀b∈bs,ok b)→RV.rel w ok r u
 | .c v,r,u,bs,hs,h,_=>by
  simp only[Seal]at hs;subst hs
  simp only[rel]at h
  simpa only[RV.rel] using h.1
 | .row e sz cs,r,u,bs,hs,h,hb=>by
  simp only[Seal]at hs
  obtain⟨els,rfl,hl,hf⟩:=hs
  simp only[rel]at h
  obtain⟨n,xs,bs',k1,k2,k3,k4,k5,rfl⟩:=h
  have hrs:RV.rels w ok els.flatten xs:=seals_rel cs els.flatten xs bs' hf k3 fun b hm=>hb b (List.mem_append.2 (.inr hm))
  have hn:n=els.length:=by
   have h1:=V7 hl
   rw[Id cs _ hf,k1]at h1
   exact Nat.eq_of_mul_eq_mul_right k2 h1
  simp only[RV.rel]
  rcases k5.2 with⟨rfl,h0⟩|⟨g,cap,cur,rfl,_,hh,c1,c2,c3,ht⟩
  ·exact⟨none,0,0,rfl,by omega,Nat.le_refl _,Nat.zero_le _,fun h=>absurd h (by omega)⟩
  ·refine⟨some ⟨g,0,none⟩,n,cap,rfl,hn,c1,c2,fun hn0=>⟨g,0,rfl,(Array.getElem?_eq_some_iff.1 hh).1,hb g (by simp[Value.ownBlock]),?_⟩⟩
   refine RV.relE_of _ _ _ fun k el hk=>⟨hl el (Zba hk),RV.relAt_of _ _ fun j r hj=>?_⟩
   have hjl:j<sz:=by have:=(Za5.1 hj).1;rwa [hl el (Zba hk)]at this
   have hfl:=Lr hl k j el hk hjl
   rw[hj]at hfl
   obtain⟨x,e1,e2⟩:=RV.rels_at _ xs hrs _ r hfl
   refine⟨x,?_,k4 x (Zba e1),e2⟩
   rw[cell_of_row w g _ cur _ _ hh,Nat.zero_add]
   rw[←ht,List.getElem?_take]at e1
   split at e1
   ·simpa using e1
   ·cases e1
 | .agg cs,r,u,bs,hs,h,hb=>by
  simp only[Seal]at hs
  obtain⟨rs,rfl,hf⟩:=hs
  simp only[rel]at h
  obtain⟨us,rfl,h1⟩:=h
  simp only[RV.rel]
  exact⟨us,rfl,seals_rel cs rs _ bs hf h1 hb⟩
 | .tup cs,r,u,bs,hs,h,hb=>by
  simp only[Seal]at hs
  obtain⟨rs,rfl,hf⟩:=hs
  simp only[rel]at h
  obtain⟨us,rfl,h1⟩:=h
  simp only[RV.rel]
  exact⟨us,rfl,seals_rel cs rs _ bs hf h1 hb⟩
theorem seals_rel{w:World}{ok:Nat→Prop}:∀(os:List OV) (rs:List RV) (us:List Value) (bs:List Nat),Seals os rs→rels w os us bs→(∀b∈bs,ok b)→RV.rels w ok rs us
 | [],rs,us,bs,hs,h,_=>by
  simp only[Seals]at hs;subst hs
  simp only[rels]at h
  simp[RV.rels,h.1]
 |x::xs,rs,us,bs,hs,h,hb=>by
  simp only[Seals]at hs
  obtain⟨r,rs',rfl,hs1,hs2⟩:=hs
  simp only[rels]at h
  obtain⟨u,us',b,bs',rfl,rfl,h1,h2⟩:=h
  simp only[RV.rels]
  exact⟨u,us',rfl,seal_rel x r u b hs1 h1 fun c hm=>hb c (List.mem_append.2 (.inl hm)),seals_rel xs rs' us' bs' hs2 h2 fun c hm=>hb c (List.mem_append.2 (.inr hm))⟩
end
end OV
def ACo(P:Program)(f:FuncId)(args:List RV)(ov:OV):Prop:=
 ∀(w:World) (us:Array Value),RV.rels w (fun _=>True) args us.toList →
  Calls P f us w fun e w'=>∃u bs,e = .returned u∧OV.rel w' ov u bs∧bs.Nodup∧(∀b∈bs,w.heap.size≤b∧b<w'.heap.size)∧Below w.heap.size w w'
structure Gh (C:Ctx) (ov:OV) (u:Value) (bs:List Nat):Prop where
 rel:OV.rel C.w0 ov u bs
 fix:∀b∈bs,b<C.w0.heap.size∧¬C.mu b∧¬C.ok b
structure Nx (C C':Ctx) (bs:List Nat):Prop where
 n:C'.n=C.n
 os:C'.w0.os=C.w0.os
 tape:C'.w0.tape=C.w0.tape
 output:C'.w0.output=C.w0.output
 size:C.w0.heap.size≤C'.w0.heap.size
 block:∀b,b<C.w0.heap.size→¬C.mu b→b∉bs→C'.w0.heap[b]?=C.w0.heap[b]?
 mu:∀b,C'.mu b→C.mu b∨C.w0.heap.size≤b
 ok:∀b,C'.ok b→C.ok b
theorem Gh.next{C C':Ctx}{ov:OV}{u:Value}{bs ds:List Nat}(h:Gh C ov u bs)(k:Nx C C' ds)(hd:∀b∈bs,b∉ds):Gh C' ov u bs:=by
 refine⟨OV.rel_keep ov u bs h.rel fun b hb=>k.block b (h.fix b hb).1 (h.fix b hb).2.1 (hd b hb),fun b hb=>⟨Nat.lt_of_lt_of_le (h.fix b hb).1 k.size,fun hm=>?_,fun ho=>(h.fix b hb).2.2 (k.ok b ho)⟩⟩
 rcases k.mu b hm with h1|h1
 ·exact(h.fix b hb).2.1 h1
 ·have:=(h.fix b hb).1;omega
theorem Nx.trans{C C' C'':Ctx}{bs ds:List Nat}(h:Nx C C' bs)(k:Nx C' C'' ds):Nx C C'' (bs++ds):=
 ⟨k.n.trans h.n,k.os.trans h.os,k.tape.trans h.tape,k.output.trans h.output,Nat.le_trans h.size k.size,fun b h1 h2 h3=>by
  rw[List.mem_append,not_or]at h3
  refine(k.block b (Nat.lt_of_lt_of_le h1 h.size) (fun hm=>?_) h3.2).trans (h.block b h1 h2 h3.1)
  rcases h.mu b hm with h4|h4
  ·exact h2 h4
  ·omega,fun b hm=>by
  rcases k.mu b hm with h4|h4
  ·exact h.mu b h4
  ·exact .inr (Nat.le_trans h.size h4),fun b ho=>h.ok b (k.ok b ho)⟩
section
variable{P:Program}{C:Ctx}{ops:Array Oper}{rest:List Oper}{k:List Item}{R:Act→World→Prop}{env:Env}{σ:List Ob}{t:Nat}{ty:TypeId}{pos:String}{after:Array Edge}{gd:Option (Nat×Bool)}
def LendsT(C:Ctx)(σ:List Ob)(v:AV)(r:RV):Prop:=∀(m:Mem) (u:Value),Good C m→m.σ=σ→AV.rel m v u→RV.rel m.w (fun _=>True) r u
inductive LendsTL (C:Ctx) (σ:List Ob):List AV→List RV→Prop
 |nil:LendsTL C σ [] []
 |cons {v:AV} {r:RV} {vs:List AV} {rs:List RV}:LendsT C σ v r→LendsTL C σ vs rs→LendsTL C σ (v::vs) (r::rs)
theorem LendsT.of{v:AV}{r:RV}(h:Lends C σ v r):LendsT C σ v r:=fun m u hG hσ hu=>h m u (fun _=>True) hG hσ (fun _ _=>trivial) (fun _ _ _ _=>trivial) hu
theorem LendsT.ro{r:RV}:LendsT C σ (.ro r) r:=LendsT.of Lends.ro
theorem LendsTL.rels{m:Mem}(hG:Good C m)(hσ:m.σ=σ){vs:List AV}{rs:List RV}(h:LendsTL C σ vs rs):∀us,AV.rels m vs us→RV.rels m.w (fun _=>True) rs us:=by
 induction h with
 |nil=>intro us hu;simpa [AV.rels,RV.rels] using hu
 |cons h1 _ ih=>
  intro us hu
  simp only[AV.rels]at hu
  obtain⟨u,us',rfl,k3,k4⟩:=hu
  simp only[RV.rels]
  exact⟨u,us',rfl,h1 m u hG hσ k3,ih us' k4⟩
end
structure Sc (C0 C:Ctx):Prop where
 below:Below C0.w0.heap.size C0.w0 C.w0
 mu:∀b,C.mu b→C0.w0.heap.size≤b
theorem Sc.start{C:Ctx}(hm:∀b,¬C.mu b):Sc C C:=⟨Below.refl _ _,fun b h=>absurd h (hm b)⟩
theorem Sc.next{C0 C C':Ctx}{bs:List Nat}(h:Sc C0 C)(k:Nx C C' bs)(hb:∀b∈bs,C0.w0.heap.size≤b):Sc C0 C':=by
 refine⟨⟨k.os.trans h.below.os,k.tape.trans h.below.tape,k.output.trans h.below.output,Nat.le_trans h.below.size k.size,fun b hlt=>?_⟩,fun b hm=>?_⟩
 ·refine(k.block b (Nat.lt_of_lt_of_le hlt h.below.size) (fun hm=>?_) fun hm=>?_).trans (h.below.block b hlt)
  ·have:=h.mu b hm;omega
  ·have:=hb b hm;omega
 ·rcases k.mu b hm with h1|h1
  ·exact h.mu b h1
  ·exact Nat.le_trans h.below.size h1
theorem Sc.end_{C0 C:Ctx}{m:Mem}(h:Sc C0 C)(hG:Good C m):Below C0.w0.heap.size C0.w0 m.w:=
 ⟨hG.frm.os.trans h.below.os,hG.frm.tape.trans h.below.tape,hG.frm.output.trans h.below.output,Nat.le_trans h.below.size hG.frm.size,fun b hlt=>(hG.frm.block b (Nat.lt_of_lt_of_le hlt h.below.size) (fun hm=>by have:=h.mu b hm;omega)).trans (h.below.block b hlt)⟩
section
variable{P:Program}{C C0:Ctx}{S:St}{fn:Func}
end
mutual
def RO:RR→OV→Prop
 | .ro r,o=>∃v,r = .c v∧o = .c v
 | .row e sz cs,o=>∃vs:List Value,cs=vs.map .c∧o = .row e sz (vs.map .c)
 | .agg rs,o=>∃os,o = .agg os∧ROs rs os
 | .tup rs,o=>∃os,o = .tup os∧ROs rs os
def ROs:List RR→List OV→Prop
 | [],os=>os=[]
 |x::xs,os=>∃o os',os=o::os'∧RO x o∧ROs xs os'
end
mutual
theorem ro_rel{w:World}{ok:Nat→Prop}:∀(rr:RR) (o:OV) (u:Value) (bs:List Nat),RO rr o→rr.rel w ok u bs→OV.rel w o u bs
 | .ro r,o,u,bs,h,hr=>by
  simp only[RO]at h
  obtain⟨v,rfl,rfl⟩:=h
  simp only[RR.rel,RV.rel]at hr
  simp only[OV.rel]
  exact hr
 | .row e sz cs,o,u,bs,h,hr=>by
  simp only[RO]at h
  obtain⟨vs,rfl,rfl⟩:=h
  simp only[RR.rel]at hr
  obtain⟨n,xs,k1,k2,k3,k4,k5,rfl⟩:=hr
  have e2:=Hs (m:=⟨w,fun _=>none,[],ok⟩) vs xs (RV.rels_mono ⟨Nat.le_refl _,fun b _ hb=>⟨⟨hb,fun i hi=>by simp at hi⟩,rfl⟩⟩ _ _ k3)
  subst e2
  simp only[OV.rel]
  exact⟨n,xs,[],by simpa using k1,k2,OV.rels_c xs,k4,k5,by simp⟩
 | .agg rs,o,u,bs,h,hr=>by
  simp only[RO]at h
  obtain⟨os,rfl,h⟩:=h
  simp only[RR.rel]at hr
  obtain⟨us,rfl,hr⟩:=hr
  simp only[OV.rel]
  exact⟨us,rfl,Po rs os _ bs h hr⟩
 | .tup rs,o,u,bs,h,hr=>by
  simp only[RO]at h
  obtain⟨os,rfl,h⟩:=h
  simp only[RR.rel]at hr
  obtain⟨us,rfl,hr⟩:=hr
  simp only[OV.rel]
  exact⟨us,rfl,Po rs os _ bs h hr⟩
theorem Po{w:World}{ok:Nat→Prop}:∀(rs:List RR) (os:List OV) (us:List Value) (bs:List Nat),ROs rs os→RR.rels w ok rs us bs→OV.rels w os us bs
 | [],os,us,bs,h,hr=>by
  simp only[ROs]at h;subst h
  simpa [RR.rels,OV.rels] using hr
 |x::xs,os,us,bs,h,hr=>by
  simp only[ROs]at h
  obtain⟨o,os',rfl,h1,h2⟩:=h
  simp only[RR.rels]at hr
  obtain⟨u,us',b,bs',rfl,rfl,k1,k2⟩:=hr
  simp only[OV.rels]
  exact⟨u,us',b,bs',rfl,rfl,ro_rel x o u b h1 k1,Po xs os' us' bs' h2 k2⟩
end
section
variable{P:Program}{C:Ctx}{env:Env}{σ:List Ob}{t:Nat}{ty:TypeId}{pos:String}{after:Array Edge}{gd:Option (Nat×Bool)}
end
structure Bk (C:Ctx) (g:Nat) (us:Array Value) (e:TypeId):Prop where
 cells:C.w0.heap[g]?=some (.cells us e (0,0))
 mu:¬C.mu g
 ok:¬C.ok g
theorem Bk.lt{C:Ctx}{g:Nat}{us:Array Value}{e:TypeId}(h:Bk C g us e):g<C.w0.heap.size:=(Array.getElem?_eq_some_iff.1 h.cells).1
theorem Bk.now{C:Ctx}{m:Mem}{g:Nat}{us:Array Value}{e:TypeId}(h:Bk C g us e)(hG:Good C m):m.w.heap[g]?=some (.cells us e (0,0)):=(hG.frm.block g h.lt h.mu).trans h.cells
theorem Bk.next{C C':Ctx}{g:Nat}{us:Array Value}{e:TypeId}{ds:List Nat}(h:Bk C g us e)(k:Nx C C' ds)(hd:g∉ds):Bk C' g us e:=
 ⟨(k.block g h.lt h.mu hd).trans h.cells,fun hm=>(k.mu g hm).elim h.mu fun h1=>by have:=h.lt;omega,fun ho=>h.ok (k.ok g ho)⟩
section
variable{P:Program}{C:Ctx}{ops:Array Oper}{rest:List Oper}{k:List Item}{R:Act→World→Prop}{env:Env}{σ:List Ob}{t:Nat}{ty:TypeId}{pos:String}{after:Array Edge}{gd:Option (Nat×Bool)}
end
structure Up (w w':World) (bs:List Nat):Prop where
 os:w'.os=w.os
 tape:w'.tape=w.tape
 output:w'.output=w.output
 size:w.heap.size≤w'.heap.size
 block:∀b,b<w.heap.size→b∉bs→w'.heap[b]?=w.heap[b]?
def MK(P:Program)(f:FuncId)(ov:OV)(k k':Int)(ov':OV):Prop:=
 ∀(w:World) (u:Value) (bs:List Nat),OV.rel w ov u bs→bs.Nodup→(∀b∈bs,b<w.heap.size) →
  Calls P f #[u,.int .i64 k] w fun e w'=>e = .returned (.int .i64 k')∧OV.rel w' ov' u bs∧Up w w' bs
def MX(P:Program)(f:FuncId)(ov:OV)(k k':Int):Prop:=
 ∀(w:World) (u:Value) (bs:List Nat),OV.rel w ov u bs→bs.Nodup→(∀b∈bs,b<w.heap.size) →
  Calls P f #[u,.int .i64 k] w fun e w'=>e = .returned (.int .i64 k')∧Up w w' bs
theorem MK.mx{P:Program}{f:FuncId}{ov ov':OV}{k k':Int}(h:MK P f ov k k' ov'):MX P f ov k k':=fun w u bs h1 h2 h3=>(h w u bs h1 h2 h3).mono fun _ _ h=>⟨h.1,h.2.2⟩
theorem Nx.sub{C C':Ctx}{bs ds:List Nat}(h:Nx C C' bs)(hs:∀b∈bs,b∈ds):Nx C C' ds:=
 ⟨h.n,h.os,h.tape,h.output,h.size,fun b h1 h2 h3=>h.block b h1 h2 fun hm=>h3 (hs b hm),h.mu,h.ok⟩
theorem Nx.refl(C:Ctx)(bs:List Nat):Nx C C bs:=⟨rfl,rfl,rfl,rfl,Nat.le_refl _,fun _ _ _ _=>rfl,fun _ h=>.inl h,fun _ h=>h⟩
theorem Nx.up{C C':Ctx}{bs:List Nat}(h:Nx C C' bs)(hm:∀b,¬C.mu b){m:Mem}(hG:Good C' m):Up C.w0 m.w bs:=
 ⟨hG.frm.os.trans h.os,hG.frm.tape.trans h.tape,hG.frm.output.trans h.output,Nat.le_trans h.size hG.frm.size,fun b hb hn=>(hG.frm.block b (Nat.lt_of_lt_of_le hb h.size) fun hmu=>(h.mu b hmu).elim (hm b) fun h1=>by omega).trans (h.block b hb (hm b) hn)⟩
section
variable{P:Program}{C C0:Ctx}{S:St}{fn:Func}
end
section
variable{P:Program}{C:Ctx}{ops:Array Oper}{rest:List Oper}{k:List Item}{R:Act→World→Prop}{env:Env}{σ:List Ob}{t:Nat}{ty:TypeId}{pos:String}{after:Array Edge}{gd:Option (Nat×Bool)}
end
def seqI(k:Int)(n:Nat):List Int:=(List.range n).map fun(i:Nat)=>k+(i:Int)
def seqB(k:Int)(n:Nat):List UInt8:=(seqI k n).map fun z=>UInt8.ofNat (IntKind.u8.wrap z).toNat
section
variable{P:Program}{C:Ctx}{ops:Array Oper}{rest:List Oper}{k:List Item}{R:Act→World→Prop}{env:Env}{σ:List Ob}{t:Nat}{ty:TypeId}{pos:String}{after:Array Edge}
end
theorem Gh.rels{C:Ctx}{os:List OV}{us:List Value}{bs:List Nat}(h:Gh C (.agg os) (.agg us.toArray) bs):OV.rels C.w0 os us bs:=by
 have:=h.rel
 simp only[OV.rel]at this
 obtain⟨vs,e,h1⟩:=this
 injection e with e
 subst e
 simpa using h1
def E9(o:Oper):Bool:=Eu o || match o.op with
 | .store _ _ _=>true
 | .binOp _ _ _ _ _=>true
 | .indexAddr _ _ _=>true
 | .extract _ _=>true
 | .alloc _=>true
 | .box _ _=>true
 | .unOp _ _ _=>true
 | .build _ _=>true
 | .field _ _ _=>true
 | .convert _ _ _=>true
 | .call ⟨.builtin .len,_,_⟩=>true
 |_=>false
structure Nv (s:Sem Next):Prop where
 val:∀(P:Program) (w:World) (x:Next) (w':World),s.run P w = .ok x w'→(∃v,x = .value v)∨x = .skip
theorem Nv.of{s:Sem Value}:Nv (do Pure.pure (.value (←s)):Sem Next):=⟨fun P w x w' e=>by
 rw[Sem.run_bind]at e
 cases hs:s.run P w with
 |ok a w1=>rw[hs]at e;simp only[Result.andThen_ok,Sem.run_pure]at e;injection e with e;exact .inl ⟨a,e.symm⟩
 |halt q w1=>rw[hs]at e;cases e⟩
theorem Nv.ofU{s:Sem Unit}:Nv (do s;Pure.pure .skip:Sem Next):=⟨fun P w x w' e=>by
 rw[Sem.run_bind]at e
 cases hs:s.run P w with
 |ok a w1=>rw[hs]at e;simp only[Result.andThen_ok,Sem.run_pure]at e;injection e with e;exact .inr e.symm
 |halt q w1=>rw[hs]at e;cases e⟩
theorem F3{o:Oper}(h:E9 o=true)(ev:Operand→Value):Nv (execOp ev o):=by
 unfold E9 at h
 rw[Bool.or_eq_true]at h
 rcases h with h|h
 ·exact⟨fun P w x w' e=>.inl ((B6 h ev).val P w x w' e)⟩
 ·obtain⟨dst,op,ty,pos,after,g⟩:=o
  cases op<;>simp only[Bool.false_eq_true]at h
  case store=>exact Nv.ofU
  case call c=>
   obtain⟨callee,args,ats⟩:=c
   cases callee with
   |builtin b=>
    by_cases hb:b = .len
    ·subst hb
     exact⟨fun P w x w' e=>(Nv.of (s:=Builtin.len_ ats ty (args.map ev))).val P w x w' (by simpa [execOp,resolve,invoke,builtin] using e)⟩
    ·exfalso;cases b<;>simp_all
   |value _=>simp at h
   |invoke _ _=>simp at h
  all_goals exact Nv.of
def sel(l:List Oper):List Nat→List Oper
 | []=>[]
 |i::is=>match l[i]? with
  |some o=>o::sel l is
  |none=>sel l is
def Uc(md:Region.Mode)(ops:Array Oper):Nat→Array Bool→List (List Nat)
 |0,_=>[[]]
 |f+1,listed=>(Region.ready md ops listed).flatMap fun i=>(Uc md ops f (listed.setIfInBounds i true)).map (i :: ·)
def ordB(md:Region.Mode)(ops:Array Oper):Nat→Array Bool→Bool
 |0,listed=>(Region.ready md ops listed).isEmpty
 |f+1,listed => !(Region.ready md ops listed).isEmpty&&(Region.ready md ops listed).all fun i=>ordB md ops f (listed.setIfInBounds i true)
theorem Da{md:Region.Mode}{ops:Array Oper}:∀(f:Nat) (listed:Array Bool),ordB md ops f listed=true→∃π,π∈Uc md ops f listed
 |0,_,_=>⟨[],by simp[Uc]⟩
 |f+1,listed,h=>by
  simp only[ordB,Bool.and_eq_true,Bool.not_eq_true',List.isEmpty_eq_false_iff]at h
  obtain⟨i,hi⟩:=List.exists_mem_of_ne_nil _ h.1
  obtain⟨π,hπ⟩:=Da f _ (List.all_eq_true.1 h.2 i hi)
  exact⟨i::π,by simp only[Uc,List.mem_flatMap,List.mem_map];exact⟨i,hi,π,hπ,rfl⟩⟩
theorem Vk{P:Program}{md:Region.Mode}{l:List Oper}{F:Act→World→Prop}(hp:(l.all E9)=true):∀(f:Nat) (listed:Array Bool) (a:Act) (w:World),ordB md l.toArray f listed=true →
  (∀π∈Uc md l.toArray f listed,wpList P l.toArray (nrm F) (sel l π) a w)→wpAny P md l.toArray (nrm F) f listed a w
 |0,listed,a,w,hB,h=>by
  simp only[ordB,List.isEmpty_iff]at hB
  exact⟨hB,h [] (by simp[Uc])⟩
 |f+1,listed,a,w,hB,h=>by
  simp only[ordB,Bool.and_eq_true,Bool.not_eq_true',List.isEmpty_eq_false_iff]at hB
  refine⟨fun h0=>absurd h0 hB.1,fun i hi=>?_⟩
  have hBi:=List.all_eq_true.1 hB.2 i hi
  obtain⟨_,o,ho,_⟩:=mem_ready.1 hi
  have hl:l[i]?=some o:=by simpa using ho
  have hpo:E9 o=true:=List.all_eq_true.1 hp o (Zba hl)
  have hall:∀π∈Uc md l.toArray f (listed.setIfInBounds i true),wpList P l.toArray (nrm F) (o::sel l π) a w:=fun π hπ=>by
   have:=h (i::π) (by simp only[Uc,List.mem_flatMap,List.mem_map];exact⟨i,hi,π,hπ,rfl⟩)
   simpa only[sel,hl] using this
  have hno:¬LetsOut (nrm F):=fun⟨_,_,h⟩=>h
  unfold wpOp
  simp only[ho]
  by_cases hw:Region.wanted o (yielded l.toArray a.tmps)=true
  ·rw[if_pos hw]
   refine .inl ?_
   have hall':∀π∈Uc md l.toArray f (listed.setIfInBounds i true),o.wp P a w (wpList P l.toArray (nrm F) (sel l π)) (nrm F):=fun π hπ=>by
    have:=hall π hπ
    unfold wpList at this
    rw[if_pos hw]at this
    exact this.resolve_right fun h=>hno h.2
   obtain⟨π0,hπ0⟩:=Da f _ hBi
   have h0:=hall' π0 hπ0
   unfold Oper.wp at h0 hall' ⊢
   cases hr:(execOp a.eval o).run P w with
   |ok x w'=>
    rcases(F3 hpo a.eval).val P w x w' hr with⟨v,rfl⟩|rfl
    ·simp only[hr,Oper.upon]at hall' ⊢
     exact Vk hp f _ _ _ hBi hall'
    ·simp only[hr,Oper.upon]at hall' ⊢
     exact Vk hp f _ _ _ hBi hall'
   |halt q w'=>
    rw[hr]at h0
    cases q<;>exact h0
  ·rw[if_neg hw]
   refine Vk hp f _ _ _ hBi fun π hπ=>?_
   have:=hall π hπ
   unfold wpList at this
   rwa [if_neg hw]at this
section
variable{P:Program}{C:Ctx}{k:List Item}{R:Act→World→Prop}{env:Env}{σ:List Ob}
def AllOrd(P:Program)(C:Ctx)(l:List Oper)(k:List Item)(R:Act→World→Prop)(S:St):List (List Nat)→Prop
 | []=>True
 |π::L=>RunsL P C l.toArray (sel l π) k R S∧AllOrd P C l k R S L
theorem AllOrd.at_{l:List Oper}{S:St}:∀{L:List (List Nat)},AllOrd P C l k R S L→∀π∈L,RunsL P C l.toArray (sel l π) k R S
 | [],_,π,h=>by simp at h
 |ρ::L,hL,π,h=>by
  rcases List.mem_cons.1 h with rfl|h
  ·exact hL.1
  ·exact AllOrd.at_ hL.2 π h
theorem R4{id:Nat}{l:List Oper}{k':List Item}(m:Nat)(L:List (List Nat))(hf:P.follows .mixedOrders=true)(hc:Proofs.YtnecoghfhcimeaaGreat.ctls m k = .code (.region id l.toArray true)::k')(hB:ordB .any l.toArray l.length (Array.replicate l.length false)=true)
  (hp:(l.all E9)=true) (hL:Uc .any l.toArray l.length (Array.replicate l.length false)=L) (h:AllOrd P C l k' R ⟨env,σ⟩ L):Runs P C k R ⟨env,σ⟩:=
 Zbf m hc ⟨fun a w hs'=>Vv (wp_region_any hf (by
  obtain⟨s1,s2,φ,hG,hE⟩:=hs'
  have hb:Below w.heap.size w {w with drawn:=w.drawn+1}:=⟨rfl,rfl,rfl,Nat.le_refl _,fun _ _=>rfl⟩
  obtain⟨g1,g2⟩:=Y8 hG hb
  have:=Vk (P:=P) (md:=.any) (F:=Fin P k' R) hp l.length (Array.replicate l.length false) a {w with drawn:=w.drawn+1} hB fun π hπ=>(h.at_ π (hL▸hπ)).run a _ ⟨s1,s2,φ,g1,hE.keeps g2⟩
  simpa using this))⟩
end
section
variable{P:Program}{C C0:Ctx}{l:List Oper}{k:List Item}{R:Act→World→Prop}{env:Env}{σ:List Ob}{f i t:Nat}{listed:Array Bool}
structure RunsA (P:Program) (C:Ctx) (l:List Oper) (k:List Item) (R:Act→World→Prop) (f:Nat) (listed:Array Bool) (S:St):Prop where
 run:∀a w,Sim C S a w→wpAny P .any l.toArray (nrm (Fin P k R)) f listed a w
structure StepA (P:Program) (C:Ctx) (l:List Oper) (k:List Item) (R:Act→World→Prop) (f:Nat) (listed:Array Bool) (i:Nat) (o:Oper) (S:St):Prop where
 run:∀a w,Sim C S a w→o.wp P a w (wpAny P .any l.toArray (nrm (Fin P k R)) f (listed.setIfInBounds i true)) (nrm (Fin P k R))
def StepsA(P:Program)(C:Ctx)(l:List Oper)(k:List Item)(R:Act→World→Prop)(f:Nat)(listed:Array Bool)(S:St):List (Nat×Oper)→Prop
 | []=>True
 |p::L=>StepA P C l k R f listed p.1 p.2 S∧StepsA P C l k R f listed S L
theorem StepsA.at_{S:St}:∀{L:List (Nat×Oper)},StepsA P C l k R f listed S L→∀p∈L,StepA P C l k R f listed p.1 p.2 S
 | [],_,p,h=>by simp at h
 |q::L,hL,p,h=>by
  rcases List.mem_cons.1 h with rfl|h
  ·exact hL.1
  ·exact StepsA.at_ hL.2 p h
theorem wpOp_atA{ops:Array Oper}{Q:Exit→Act→World→Prop}{K:Act→World→Prop}{i:Nat}{o:Oper}{a:Act}{w:World}(hi:ops[i]?=some o)(hg:o.guard=none)(h:o.wp P a w K Q):wpOp P ops Q i K a w:=by
 unfold wpOp
 simp only[hi]
 rw[if_pos (by simp[Region.wanted,hg])]
 exact .inl h
theorem StepA.pur{o:Oper}{v:AV}(h:Pur P C o env σ v)(hd:o.dst=some t)(ht:t<C.n)(hk:RunsA P C l k R f (listed.setIfInBounds i true) ⟨(t,v)::env,σ⟩):StepA P C l k R f listed i o ⟨env,σ⟩:=by
 refine⟨fun a w ⟨h1,h2,φ,h3,h4⟩=>?_⟩
 refine h.run a ⟨w,φ,σ,C.ok⟩ h3 rfl (fun x _=>Xy h4 x) _ _ fun u w' hb hv=>?_
 obtain⟨g1,g2⟩:=Y8 h3 hb
 rw[hd]
 exact hk.run _ _ ⟨h1,by simp[Act.put,h2],φ,g1,(h4.keeps g2).put (by rw[h2];exact ht) hv⟩
theorem RunsA.seq{S:St}(n:Nat)(hf:(l.drop n).length=f)(hs:Region.seqB .any l.toArray f n listed=true)(h:RunsL P C l.toArray (l.drop n) k R S):RunsA P C l k R f listed S:=by
 subst hf
 exact⟨fun a w hS=>wpAny_of_seq (md:=.any) (Q':=nrm (Fin P k R)) (l.drop n) n listed a w (fun j=>by simp[List.getElem?_drop]) hs (h.run a w hS)⟩
theorem RunsL.keep{ops:Array Oper}{rest:List Oper}(env':Env)(h:Sub env' env)(hk:RunsL P C ops rest k R ⟨env',σ⟩):RunsL P C ops rest k R ⟨env,σ⟩:=
 ⟨fun a w ⟨h1,h2,φ,h3,h4⟩=>hk.run a w ⟨h1,h2,φ,h3,fun s=>by
  rcases h.look s with e|e
  ·show AV.rel _ (Proofs.YtnecoghfhcimeaaGreat.look env' s) _
   rw[e];simp[AV.rel]
  ·show AV.rel _ (Proofs.YtnecoghfhcimeaaGreat.look env' s) _
   rw[e];exact h4 s⟩⟩
theorem R3{id:Nat}{k':List Item}(m:Nat)(hf:P.follows .mixedOrders=true)(hc:Proofs.YtnecoghfhcimeaaGreat.ctls m k = .code (.region id l.toArray true)::k')(h:RunsA P C l k' R l.length (Array.replicate l.length false) ⟨env,σ⟩):Runs P C k R ⟨env,σ⟩:=
 Zbf m hc ⟨fun a w hs'=>Vv (wp_region_any hf (by
  obtain⟨s1,s2,φ,hG,hE⟩:=hs'
  have hb:Below w.heap.size w {w with drawn:=w.drawn+1}:=⟨rfl,rfl,rfl,Nat.le_refl _,fun _ _=>rfl⟩
  obtain⟨g1,g2⟩:=Y8 hG hb
  have:=h.run a {w with drawn:=w.drawn+1} ⟨s1,s2,φ,g1,hE.keeps g2⟩
  simpa using this))⟩
end
section
variable{P:Program}{md:Region.Mode}{ops:Array Oper}
def YA(P:Program)(ops:Array Oper)(o:Oper)(v:Value)(a:Act):Prop:=Region.wanted o (yielded ops a.tmps)=true∧∀w,(execOp a.eval o).run P w = .ok (.value v) w
theorem YA.put{oi oj:Oper}{v u:Value}{a:Act}(hsi:∀cs b,oi.op ≠ .select cs b)(h3:∀d,oj.dst=some d→d∉oi.looksAt ops)(h:YA P ops oi v a):YA P ops oi v (a.put oj.dst u):=
 ⟨by rw[wanted_put oi a oj.dst u h3];exact h.1,fun w=>by rw[execOp_put oi hsi a oj.dst u h3];exact h.2 w⟩
theorem wpOp_ya{F:Act→World→Prop}{j:Nat}{oi oj:Oper}{v:Value}(hj:ops[j]?=some oj)(hap:oi.apart ops oj=true)(hsi:∀cs b,oi.op ≠ .select cs b)(hsj:∀cs b,oj.op ≠ .select cs b){K K':Act→World→Prop}{a:Act}{w:World}(hy:YA P ops oi v a)
  (h:wpOp P ops (nrm F) j K' (a.put oi.dst v) w) (hK:∀a' w',YA P ops oi v a'→K' (a'.put oi.dst v) w'→K a' w'):wpOp P ops (nrm F) j K a w:=by
 obtain⟨h1,h2,h3⟩:=Oper.apart_spec hap
 unfold wpOp at *
 simp only[hj]at *
 rw[wanted_put oj a oi.dst _ h1]at h
 have key:∀u w',K' ((a.put oi.dst v).put oj.dst u) w'→K (a.put oj.dst u) w':=fun u w' hk=>hK _ _ (hy.put hsi h3) (by rwa [←Act.put_comm a v u h2])
 split
 ·rename_i hw
  simp only[hw,if_true]at h
  refine h.imp (fun h=>?_) (fun h=>⟨?_,h.2⟩)
  ·unfold Oper.wp at *
   rw[execOp_put oj hsj a oi.dst _ h1]at h
   generalize (execOp a.eval oj).run P w=r at *
   cases r with
   |ok n w'=>
    cases n with
    |value u=>exact key u w' h
    |skip=>exact key undef w' h
    |enter f args=>exact Calls.mono h (fun e w'' he=>by cases e<;>first|exact key _ w'' he|exact he|exact he.elim)
    |row r args=>exact Rows.mono h fun v w'' he=>key v w'' he
    |defer d=>
     simp only[Oper.upon]at h ⊢
     have e:({a.put oi.dst v with defers:=d::(a.put oi.dst v).defers}:Act).put oj.dst undef=(({a with defers:=d::a.defers}:Act).put oj.dst undef).put oi.dst v:=by
      have:=Act.put_comm ({a with defers:=d::a.defers}:Act) v undef h2
      rw[←this]
      cases oi.dst<;>rfl
     rw[e]at h
     refine hK _ _ ?_ h
     have hy':YA P ops oi v ({a with defers:=d::a.defers}:Act):=hy
     exact hy'.put hsi h3
    |_=>exact h
   |halt x w'=>cases x<;>exact h
  ·have:=h.1
   unfold Oper.asks at this ⊢
   rwa [execOp_put oj hsj a oi.dst _ h1]at this
 ·rename_i hw
  simp only[hw]at h
  exact key undef w h
theorem R9{F:Act→World→Prop}{i:Nat}{oi:Oper}{v:Value}(hi:ops[i]?=some oi)(hsel:∀(j:Nat) (o:Oper) cs b,ops[j]?=some o→o.op ≠ .select cs b) :
  ∀(fuel:Nat) (listed:Array Bool) (a:Act) (w:World),YA P ops oi v a →
   (∀j oj,ops[j]?=some oj→j≠i→listed.getD j true=false→(∀e∈oj.after,Region.binds md e=true→e.on≠i)→oi.apart ops oj=true) →
   i∈Region.ready md ops listed →
   wpAny P md ops (nrm F) fuel (listed.setIfInBounds i true) (a.put oi.dst v) w→wpAny P md ops (nrm F) (fuel+1) listed a w:=by
 have own:∀{K:Act→World→Prop} {a:Act} {w:World},YA P ops oi v a→K (a.put oi.dst v) w→wpOp P ops (nrm F) i K a w:=by
  intro K a w hy h
  unfold wpOp
  simp only[hi]
  rw[if_pos hy.1]
  refine .inl ?_
  unfold Oper.wp
  rw[hy.2 w]
  exact h
 intro fuel
 induction fuel with
 |zero=>
  intro listed a w hy _ hr H
  refine⟨fun h=>(by rw[h]at hr;cases hr),fun j hj=>?_⟩
  by_cases hji:j=i
  ·subst hji;exact own hy H
  ·have:=ready_mono hj hji
   rw[H.1]at this
   cases this
 |succ fuel ih=>
  intro listed a w hy hfree hr H
  refine⟨fun h=>(by rw[h]at hr;cases hr),fun j hj=>?_⟩
  by_cases hji:j=i
  ·subst hji;exact own hy H
  ·have h1:=H.2 j (ready_mono hj hji)
   obtain⟨hjun,oj,hoj,hall⟩:=mem_ready.1 hj
   have hnot:∀e∈oj.after,Region.binds md e=true→e.on≠i:=fun e he hb heq=>by
    have h1:=hall e he hb
    have h0:=(mem_ready.1 hr).1
    rw[heq,getD_both h0]at h1
    cases h1
   have hfree':∀k ok,ops[k]?=some ok→k≠i→(listed.setIfInBounds j true).getD k true=false →
     (∀e∈ok.after,Region.binds md e=true→e.on≠i)→oi.apart ops ok=true:=fun k ok hk hki hun hno=>by
    refine hfree k ok hk hki ?_ hno
    by_cases hjk:j=k
    ·subst hjk;exact hjun
    ·rw[getD_set_ne true hjk]at hun;exact hun
   refine wpOp_ya hoj (hfree j oj hoj hji hjun hnot) (fun cs b=>hsel i oi cs b hi) (fun cs b=>hsel j oj cs b hoj) hy h1 fun a' w' hy' h3=>ih (listed.setIfInBounds j true) a' w' hy' hfree' (ready_mono hr (Ne.symm hji)) ?_
   rw[Array.setIfInBounds_comm _ _ hji]
   exact h3
def isMv(o:Oper):Bool:=match o with
 |⟨some _,.move _,_,_,_,none⟩=>true
 |⟨some _,.extract _ _,_,_,_,none⟩=>true
 |_=>false
theorem isMv_ya{o:Oper}(h:isMv o=true)(a:Act):(∃u,YA P ops o u a)∨∀w x w',(execOp a.eval o).run P w ≠ .ok x w'∧∀v,(execOp a.eval o).run P w ≠ .halt (.panic v) w':=by
 obtain⟨dst,op,ty,pos,after,g⟩:=o
 unfold isMv at h
 split at h
 ·rename_i he;injection he with e1 e2 e3 e4 e5 e6;subst e1;subst e2;subst e6
  exact .inl ⟨_,by simp[Region.wanted],fun w=>by simp[execOp];rfl⟩
 ·rename_i t x j _ _ _ he;injection he with e1 e2 e3 e4 e5 e6;subst e1;subst e2;subst e6
  cases hx:a.eval x with
  |tuple vs=>
   cases hv:vs[j]? with
   |some u=>exact .inl ⟨u,by simp[Region.wanted],fun w=>by simp[execOp,Instr.extract,hx,hv]⟩
   |none=>exact .inr fun w x w'=>by simp[execOp,Instr.extract,hx,hv,stuck]
  |_=>exact .inr fun w x w'=>by simp[execOp,Instr.extract,hx,stuck]
 ·cases h
end
def backB(md:Region.Mode)(ops:Array Oper)(e:Nat):Bool:=match ops[e]? with
 |some o=>o.after.all fun ed => !Region.binds md ed || decide (ed.on<e)
 |none=>false
def Pl(md:Region.Mode)(ops:Array Oper)(pri:List Nat)(n:Nat):Bool:=
 (List.range n).all fun i=>(pri.contains i&&backB md ops i) || (!pri.contains i&&(List.range (n+1)).any fun j=>decide (i<j)&&(decide (j=n) || !pri.contains j)&&Region.waitsFor md ops j i)
def V6(md:Region.Mode)(ops:Array Oper)(e:Nat):Bool:=match ops[e]? with
 |some o=>isMv o&&(List.range ops.size).all fun j=>decide (j=e) || Region.waitsFor md ops j e || Region.waitsFor md ops e j || match ops[j]? with
  |some oj=>o.apart ops oj
  |none=>true
 |none=>false
theorem Q6{md:Region.Mode}{ops:Array Oper}{e:Nat}{oe:Oper}(he:ops[e]?=some oe)(h:V6 md ops e=true):isMv oe=true∧∀j oj,ops[j]?=some oj→j≠e→(∀ed∈oj.after,Region.binds md ed=true→ed.on≠e)→(∀ed∈oe.after,Region.binds md ed=true→ed.on≠j)→oe.apart ops oj=true:=by
 unfold V6 at h
 rw[he]at h
 simp only[Bool.and_eq_true]at h
 refine⟨h.1,fun j oj hj hje hno hno'=>?_⟩
 have hjl:j<ops.size:=(Array.getElem?_eq_some_iff.1 hj).1
 have:=List.all_eq_true.1 h.2 j (List.mem_range.2 hjl)
 rw[hj]at this
 simp only[Bool.or_eq_true,decide_eq_true_eq]at this
 rcases this with((h1|h1)|h1)|h1
 ·exact absurd h1 hje
 ·obtain⟨o',ho',ed,hed,hb,hon⟩:=Region.waitsFor_spec h1
  have:o'=oj:=Option.some.inj (ho'.symm.trans hj)
  subst this
  exact absurd hon (hno ed hed hb)
 ·obtain⟨o',ho',ed,hed,hb,hon⟩:=Region.waitsFor_spec h1
  have:o'=oe:=Option.some.inj (ho'.symm.trans he)
  subst this
  exact absurd hon (hno' ed hed hb)
 ·exact h1
section
variable{P:Program}{C:Ctx}{ops:Array Oper}{σ:List Ob}{md:Region.Mode}{rs:Res}{pri:List Nat}
def Mq(P:Program)(C:Ctx)(md:Region.Mode)(ops:Array Oper)(σ:List Ob)(rs:Res)(pri:List Nat)(n:Nat)(L:Array Bool→EE→Prop):Nat→Array Bool→EE→Prop
 |0,listed,E=>L listed E
 |f+1,listed,E=>(∃e∈pri,e∈Region.ready md ops listed∧e<n∧aOpR P C ops σ rs e (Mq P C md ops σ rs pri n L f (listed.setIfInBounds e true)) E) ∨
   ((∀e∈pri,e∉Region.ready md ops listed)∧Region.ready md ops listed≠[]∧∀i∈Region.ready md ops listed,i<n∧aOpR P C ops σ rs i (Mq P C md ops σ rs pri n L f (listed.setIfInBounds i true)) E)
theorem notready{listed:Array Bool}{e:Nat}{o:Oper}(he:ops[e]?=some o)(hun:listed.getD e true=false)(h:e∉Region.ready md ops listed):∃ed∈o.after,Region.binds md ed=true∧listed.getD ed.on false=false:=by
 apply Classical.byContradiction
 intro hno
 refine h (mem_ready.2 ⟨hun,o,he,fun ed hed hb=>?_⟩)
 cases hl:listed.getD ed.on false with
 |true=>rfl
 |false=>exact absurd ⟨ed,hed,hb,hl⟩ hno
theorem Bn{n:Nat}{listed:Array Bool}(hs:Pl md ops pri n=true)(hn:n<ops.size)(hsz:listed.size=ops.size)(hno:∀e∈pri,e∉Region.ready md ops listed) :
  ∀i,i<n→listed.getD i true=false→∃i',i'<n∧listed.getD i' true=false∧pri.contains i'=false:=by
 intro i
 induction i using Nat.strongRecOn with
 |_ i ih=>
  intro hi hun
  have h1:=List.all_eq_true.1 hs i (List.mem_range.2 hi)
  rw[Bool.or_eq_true,Bool.and_eq_true,Bool.and_eq_true,Bool.not_eq_true']at h1
  rcases h1 with⟨hp,hb⟩|⟨hp,_⟩
  ·have hmem:i∈pri:=by simpa using hp
   obtain⟨o,ho⟩:∃o,ops[i]?=some o:=⟨_,Array.getElem?_eq_getElem (by omega)⟩
   obtain⟨ed,hed,hbi,hl⟩:=notready ho hun (hno i hmem)
   unfold backB at hb
   rw[ho]at hb
   have:=Array.all_eq_true'.1 hb ed hed
   rw[hbi]at this
   simp only[Bool.not_true,Bool.false_or,decide_eq_true_eq]at this
   exact ih ed.on this (by omega) (getD_in (by rw[hsz];omega) hl)
  ·exact⟨i,hi,hun,hp⟩
theorem Ky{n:Nat}{listed:Array Bool}(hs:Pl md ops pri n=true)(hc:Region.chainB md ops n=true)(hn:n<ops.size)(inv:HeadInv md ops n listed)(hno:∀e∈pri,e∉Region.ready md ops listed){i:Nat}(hi:i<n)(hun:listed.getD i true=false) :
  ∀t,n≤t→t∉Region.ready md ops listed:=by
 obtain⟨i0,hi0,hun0,hp0⟩:=Bn hs hn inv.size hno i hi hun
 have key:∀(d i:Nat),n-i=d→i<n→listed.getD i true=false→pri.contains i=false→n∉Region.ready md ops listed:=by
  intro d
  induction d using Nat.strongRecOn with
  |_ d ih=>
   intro i hd hi hun hp hr
   obtain⟨_,ot,hot,hall⟩:=mem_ready.1 hr
   have h1:=List.all_eq_true.1 hs i (List.mem_range.2 hi)
   rw[hp]at h1
   simp only[Bool.false_and,Bool.false_or,Bool.not_false,Bool.true_and]at h1
   obtain⟨j,hj,hj2⟩:=List.any_eq_true.1 h1
   simp only[Bool.and_eq_true,Bool.or_eq_true,decide_eq_true_eq,Bool.not_eq_true']at hj2
   obtain⟨⟨hij,hjp⟩,hw⟩:=hj2
   obtain⟨oj,hoj,e,he,hb,hon⟩:=Region.waitsFor_spec hw
   have hjle:j≤n:=by have:=List.mem_range.1 hj;omega
   by_cases hjt:j=n
   ·subst hjt
    have:oj=ot:=Option.some.inj (hoj.symm.trans hot)
    subst this
    have h2:=hall e he hb
    rw[hon,getD_both hun]at h2
    cases h2
   ·have hjp':pri.contains j=false:=hjp.resolve_left hjt
    cases hl:listed.getD j false with
    |true=>
     have h2:=inv.closed j oj hoj hl e he hb
     rw[hon,getD_both hun]at h2
     cases h2
    |false=>
     have hjs:j<listed.size:=by rw[inv.size];omega
     exact ih (n-j) (by omega) j rfl (by omega) (getD_in hjs hl) hjp' hr
 intro t ht hr
 obtain⟨_,ot,hot,hall⟩:=mem_ready.1 hr
 have htlt:t<ops.size:=(Array.getElem?_eq_some_iff.1 hot).1
 by_cases htn:t=n
 ·subst htn;exact key _ i0 rfl hi0 hun0 hp0 hr
 ·have h1:=List.all_eq_true.1 hc t (List.mem_range.2 htlt)
  simp only[Bool.or_eq_true,decide_eq_true_eq]at h1
  rcases h1 with h1|h1
  ·omega
  ·obtain⟨o',ho',e,he,hb,hon⟩:=Region.waitsFor_spec h1
   have:o'=ot:=Option.some.inj (ho'.symm.trans hot)
   subst this
   have h2:=hall e he hb
   rw[hon,getD_both (inv.tail (t-1) (by omega) (by omega))]at h2
   cases h2
theorem Ki{listed:Array Bool}{i j:Nat}{oj:Oper}(hi:i∈Region.ready md ops listed)(hj:j∈Region.ready md ops listed)(hoj:ops[j]?=some oj):∀e∈oj.after,Region.binds md e=true→e.on≠i:=fun e he hb heq=>by
 obtain⟨_,o',ho',hall⟩:=mem_ready.1 hj
 have:o'=oj:=Option.some.inj (ho'.symm.trans hoj)
 subst this
 have h1:=hall e he hb
 rw[heq,getD_both (mem_ready.1 hi).1]at h1
 cases h1
theorem Q_any{n:Nat}{L:Array Bool→EE→Prop}(hpri:∀e∈pri,V6 md ops e=true)(hdone:∀listed E,L listed E→∀j∈Region.ready md ops listed,n≤j) :
  ∀(f:Nat) (listed:Array Bool) (E:EE),Mq P C md ops σ rs pri n L f listed E→∀j∈Region.ready md ops listed,j<n→∃f',f=f'+1∧aOpR P C ops σ rs j (Mq P C md ops σ rs pri n L f' (listed.setIfInBounds j true)) E
 |0,listed,E,h,j,hj,hjn=>by have:=hdone _ _ h j hj;omega
 |f+1,listed,E,h,j,hj,hjn=>by
  rcases h with⟨e,he,her,hen,o,v,ho,hy,hK⟩|⟨_,_,h⟩
  ·by_cases hej:e=j
   ·subst hej;exact⟨f,rfl,o,v,ho,hy,hK⟩
   ·obtain⟨f',rfl,h2⟩:=Q_any hpri hdone f _ _ hK j (ready_mono hj (Ne.symm hej)) hjn
    refine⟨f'+1,rfl,?_⟩
    obtain⟨_,oj,hoj,_⟩:=mem_ready.1 hj
    have hap:=(Q6 ho (hpri e he)).2 j oj hoj (Ne.symm hej) (Ki her hj hoj) (Ki hj her ho)
    refine Bf (fun E' h3=>.inl ⟨e,he,ready_mono her hej,hen,o,v,ho,h3.1,?_⟩) (Ht hoj hap hy h2)
    rw[Array.setIfInBounds_comm _ _ (Ne.symm hej)]
    exact h3.2
  ·exact⟨f,rfl,(h j hj).2⟩
theorem Q_first{n i:Nat}{oi:Oper}{v:AV}{L:Array Bool→EE→Prop}(hi:ops[i]?=some oi)(hpri:∀e∈pri,V6 md ops e=true)
  (hs:Pl md ops pri n=true) (hc:Region.chainB md ops n=true) (hn:n<ops.size) (hin:i<n) (hpn:∀e∈pri,e<n)
  (hdone:∀listed E,L listed E→∀j∈Region.ready md ops listed,n≤j) :
  ∀(f:Nat) (listed:Array Bool) (E:EE),HeadInv md ops n listed →
   (∀j oj,ops[j]?=some oj→j≠i→listed.getD j true=false→(∀e∈oj.after,Region.binds md e=true→e.on≠i)→oi.apart ops oj=true) →
   i∈Region.ready md ops listed→YF P C ops σ rs i oi v E →
   Mq P C md ops σ rs pri n L f (listed.setIfInBounds i true) (Vx E oi.dst v)→Mq P C md ops σ rs pri n L (f+1) listed E:=by
 intro f
 induction f with
 |zero=>
  intro listed E inv hfree hr hy H
  by_cases hp:i∈pri
  ·exact .inl ⟨i,hp,hr,hin,oi,v,hi,hy,H⟩
  ·have no:∀j∈Region.ready md ops listed,j<n→j=i:=fun j hj hjn=>by
    apply Classical.byContradiction
    intro hji
    have:=hdone _ _ H j (ready_mono hj hji)
    omega
   have hnp:∀e∈pri,e∉Region.ready md ops listed:=fun e he her=>hp (no e her (hpn e he)▸he)
   refine .inr ⟨hnp,fun h=>(by rw[h]at hr;cases hr),fun j hj=>?_⟩
   have hjn:j<n:=by
    rcases Nat.lt_or_ge j n with h|h
    ·exact h
    ·exact absurd hj (Ky hs hc hn inv hnp hin (mem_ready.1 hr).1 j h)
   obtain rfl:=no j hj hjn
   exact⟨hjn,oi,v,hi,hy,H⟩
 |succ f ih=>
  intro listed E inv hfree hr hy H
  by_cases hp:i∈pri
  ·exact .inl ⟨i,hp,hr,hin,oi,v,hi,hy,H⟩
  ·have step:∀j∈Region.ready md ops listed,j<n→j≠i→aOpR P C ops σ rs j (Mq P C md ops σ rs pri n L (f+1) (listed.setIfInBounds j true)) E:=fun j hj hjn hji=>by
    obtain⟨f',hf,h1⟩:=Q_any hpri hdone _ _ _ H j (ready_mono hj hji) hjn
    injection hf with hf
    have hf:f'=f:=hf.symm
    subst hf
    obtain⟨hjun,oj,hoj,hall⟩:=mem_ready.1 hj
    have hfree':∀k ok,ops[k]?=some ok→k≠i→(listed.setIfInBounds j true).getD k true=false →
      (∀e∈ok.after,Region.binds md e=true→e.on≠i)→oi.apart ops ok=true:=fun k ok hk hki hun hno=>by
     refine hfree k ok hk hki ?_ hno
     by_cases hjk:j=k
     ·subst hjk;exact hjun
     ·rw[getD_set_ne true hjk]at hun;exact hun
    refine Bf (fun E' h3=>ih (listed.setIfInBounds j true) E' (inv.set hj hjn) hfree' (ready_mono hr (Ne.symm hji)) h3.1 ?_) (Ht hoj (hfree j oj hoj hji hjun (Ki hr hj hoj)) hy h1)
    rw[Array.setIfInBounds_comm _ _ hji]
    exact h3.2
   by_cases he:∃e∈pri,e∈Region.ready md ops listed
   ·obtain⟨e,he,her⟩:=he
    exact .inl ⟨e,he,her,hpn e he,step e her (hpn e he) (by rintro rfl;exact hp he)⟩
   ·have hnp:∀e∈pri,e∉Region.ready md ops listed:=fun e h1 h2=>he ⟨e,h1,h2⟩
    refine .inr ⟨hnp,fun h=>(by rw[h]at hr;cases hr),fun j hj=>?_⟩
    have hjn:j<n:=by
     rcases Nat.lt_or_ge j n with h|h
     ·exact h
     ·exact absurd hj (Ky hs hc hn inv hnp hin (mem_ready.1 hr).1 j h)
    refine⟨hjn,?_⟩
    by_cases hji:j=i
    ·subst hji;exact⟨oi,v,hi,hy,H⟩
    ·exact step j hj hjn hji
theorem B1{n g:Nat}{Lq:EE→Prop}(hpri:∀e∈pri,V6 md ops e=true)(hpn:∀e∈pri,e<n)(hs:Pl md ops pri n=true)(hc:Region.chainB md ops n=true)(hn:n<ops.size) :
  ∀(l:List (Nat×Oper)) (listed:Array Bool) (E:EE),(∀p∈l,ops[p.1]?=some p.2)→HeadInv md ops n listed →
  Jd md ops g n (l.map (·.1)) listed=true→R8 P C ops σ rs Lq l E →
  Mq P C md ops σ rs pri n (fun listed' E'=>Region.seqB md ops g n listed'=true∧(∀j,j<n→listed'.getD j false=true)∧Lq E') l.length listed E
 | [],listed,E,_,_,hB,h=>by
  simp only[List.map_nil,Jd,Bool.and_eq_true]at hB
  exact⟨hB.1,fun j hj=>List.all_eq_true.1 hB.2 j (List.mem_range.2 hj),h⟩
 |(k,o)::l,listed,E,hl,inv,hB,h=>by
  have h0:ops[k]?=some o:=hl (k,o) (by simp)
  simp only[List.map_cons,Jd,Bool.and_eq_true,decide_eq_true_eq]at hB
  obtain⟨⟨⟨hr,hf⟩,hkn⟩,hB'⟩:=hB
  have hr':k∈Region.ready md ops listed:=by simpa using hr
  obtain⟨v,hy,hK⟩:=h
  exact Q_first h0 hpri hs hc hn hkn hpn (fun listed' E' hL=>seqB_ready hL.1) l.length listed E inv (Region.free_spec h0 hf) hr' hy
   (B1 hpri hpn hs hc hn l _ _ (fun p hp=>hl p (by simp[hp])) (inv.set hr' hkn) hB' hK)
variable{listed:Array Bool}{E:EE}{a:Act}{w:World}
theorem SimR.mv{i:Nat}{o:Oper}{v:AV}(hs:SimR C σ rs listed E a w)(ho:ops[i]?=some o)(hd:∀t,o.dst=some t→t<C.n)(hm:isMv o=true)
  (hy:YF P C ops σ rs i o v E):∃u,YA P ops o u a∧SimR C σ rs (listed.setIfInBounds i true) (Vx E o.dst v) (a.put o.dst u) w:=by
 obtain⟨s1,s2,φ,hG,hφ,hE⟩:=hs
 obtain⟨dst,op,ty,pos,after,g⟩:=o
 obtain⟨t,rfl,rfl⟩:∃t,dst=some t∧g=none:=by
  unfold isMv at hm
  split at hm
  ·rename_i he;injection he with e1 e2 e3 e4 e5 e6;exact⟨_,e1,e6⟩
  ·rename_i he;injection he with e1 e2 e3 e4 e5 e6;exact⟨_,e1,e6⟩
  ·cases hm
 have htn:=hd t rfl
 rcases hy with⟨h0,⟨hg,hv⟩|⟨hg,_⟩⟩|⟨p,e,zs,hp,hop,_⟩
 ·have hwp:=hv (res rs listed) a ⟨w,φ,σ++res rs listed,C.ok⟩ hG rfl (fun x _=>Jx hE x) (fun a' w'=>∃u,a'=a.put (some t) u∧AV.rel ⟨w',φ,σ++res rs listed,C.ok⟩ v u) (fun _ _ _=>False) fun u w' hb hu=>⟨u,rfl,hu⟩
  rcases isMv_ya (P:=P) (ops:=ops) hm a with⟨u,hya⟩|hno
  ·refine⟨u,hya,?_⟩
   unfold Oper.wp at hwp
   rw[hya.2 w]at hwp
   simp only[Oper.upon]at hwp
   obtain⟨u',he,hu⟩:=hwp
   have hu':u=u':=by
    have h1:=Wb a t t u (by rw[s2];exact htn)
    have h2:=Wb a t t u' (by rw[s2];exact htn)
    rw[if_pos rfl]at h1 h2
    rw[←h1,←h2,he]
   subst hu'
   refine⟨s1,by simp[Act.put,s2],φ,?_,fun p r hp hl=>hφ p r hp ?_,fun s=>?_⟩
   ·rw[Lc h0];exact hG
   ·rwa [getD_set_ne false (Ne.symm (h0 r (Zba hp)))]at hl
   ·rw[Lc h0,Wb a t s u (by rw[s2];exact htn)]
    simp only[Vx]
    split
    ·exact hu
    ·exact hE s
  ·exfalso
   unfold Oper.wp at hwp
   cases hr:(execOp a.eval (⟨some t,op,ty,pos,after,none⟩:Oper)).run P w with
   |ok x w'=>exact(hno w x w').1 hr
   |halt q w'=>
    rw[hr]at hwp
    cases q<;>first|exact hwp|exact(hno w .skip w').2 _ hr
 ·simp[Kr]at hg
 ·exfalso
  simp only at hop
  subst hop
  simp[isMv]at hm
theorem Np{n g:Nat}{L:Array Bool→EE→Prop}{F:Act→World→Prop}(hpri:∀e∈pri,V6 md ops e=true)(hsel:∀(j:Nat) (o:Oper) cs b,ops[j]?=some o→o.op ≠ .select cs b)(hnd:(rs.map (·.1)).Nodup)(hd:∀(i:Nat) o t,ops[i]?=some o→o.dst=some t→t<C.n)
  (hL:∀listed E a w,L listed E→SimR C σ rs listed E a w→wpAny P md ops (nrm F) g listed a w) :
  ∀(f:Nat) (listed:Array Bool) (E:EE) (a:Act) (w:World),SimR C σ rs listed E a w→Mq P C md ops σ rs pri n L f listed E→wpAny P md ops (nrm F) (f+g) listed a w
 |0,listed,E,a,w,hs,h=>by rw[Nat.zero_add];exact hL _ _ _ _ h hs
 |f+1,listed,E,a,w,hs,h=>by
  rw[show f+1+g=(f+g)+1 by omega]
  rcases h with⟨e,he,her,hen,o,v,ho,hy,hK⟩|⟨_,h0,h⟩
  ·obtain⟨hmv,hap⟩:=Q6 ho (hpri e he)
   obtain⟨u,hya,hs'⟩:=SimR.mv hs ho (fun t ht=>hd e o t ho ht) hmv hy
   exact R9 ho hsel _ listed a w hya (fun j oj hj hje hun hno=>hap j oj hj hje hno fun ed hed hb hon=>by
    obtain⟨_,o',ho',hall⟩:=mem_ready.1 her
    have:o'=o:=Option.some.inj (ho'.symm.trans ho)
    subst this
    have h1:=hall ed hed hb
    rw[hon,getD_both hun]at h1
    cases h1) her (Np hpri hsel hnd hd hL f _ _ _ w hs' hK)
  ·refine⟨fun h1=>absurd h1 h0,fun i hi=>?_⟩
   obtain⟨o,v,ho,hy,hK⟩:=(h i hi).2
   exact SimR.op hnd hs (mem_ready.1 hi).1 ho (fun t ht=>hd i o t ho ht) hy fun a' w' hs'=>Np hpri hsel hnd hd hL f _ _ a' w' hs' hK
end
def A9(l:List Oper)(pri head:List Nat)(n:Nat):Bool:=
 Region.noSelect l.toArray&&decide (n<l.length)&&Pl .any l.toArray pri n&&Region.chainB .any l.toArray n&&decide ((pick l head).length=n)&&(pri.all fun e=>decide (e<n)&&V6 .any l.toArray e) &&
 Jd .any l.toArray (l.length-n) n ((pick l head).map (·.1)) (Array.replicate l.length false)
section
variable{P:Program}{C:Ctx}{k:List Item}{R:Act→World→Prop}{env:Env}{σ:List Ob}
theorem Za2{id:Nat}{l:List Oper}{cn:Nat}(pri head:List Nat)(n:Nat)(rs:Res)(hf:P.follows .mixedOrders=true)(hn:C.n=cn)(hB:A9 l pri head n=true)(hd:Th cn l=true)
  (hnd:(rs.map (·.1)).Nodup) (hrs:∀r∈rs,r.1<n)
  (h:RunsT P C l.toArray rs (l.drop n) (pick l head) k R ⟨env,σ⟩):Runs P C (.code (.region id l.toArray true)::k) R ⟨env,σ⟩:=by
 refine⟨fun a w hs=>Vv (wp_region_any hf ?_)⟩
 unfold A9 at hB
 simp only[Bool.and_eq_true,decide_eq_true_eq]at hB
 obtain⟨⟨⟨⟨⟨⟨hsel,hnl⟩,hsk⟩,hch⟩,hlen⟩,hpr⟩,hlex⟩:=hB
 have hpri:∀e∈pri,V6 .any l.toArray e=true:=fun e he=>by have:=List.all_eq_true.1 hpr e he;simp only[Bool.and_eq_true]at this;exact this.2
 have hpn:∀e∈pri,e<n:=fun e he=>by have:=List.all_eq_true.1 hpr e he;simp only[Bool.and_eq_true,decide_eq_true_eq]at this;exact this.1
 obtain⟨s1,s2,φ,hG,hE⟩:=hs
 have hb:Below w.heap.size w {w with drawn:=w.drawn+1}:=⟨rfl,rfl,rfl,Nat.le_refl _,fun _ _=>rfl⟩
 obtain⟨g1,g2⟩:=Y8 hG hb
 let φ0:Nat→Option Nat:=fun i=>if i<σ.length then φ i else none
 have hφ0:∀j,φ0 (σ.length+j)=none:=fun j=>if_neg (by omega)
 obtain⟨G1,G2⟩:=Um (φ':=φ0) (new:=res rs (Array.replicate l.length false)) g1 (Below.refl _ _) (fun i hi=>if_pos hi) (fun j hj g hg=>by rw[hφ0]at hg;cases hg) (fun i j g hi hj e1 e2=>by rw[hφ0]at e1;cases e1) (fun j o hj=>by rw[hφ0];exact Sf j o hj)
 have hE1:∀t,AV.rel ⟨{w with drawn:=w.drawn+1},φ0,σ++res rs (Array.replicate l.length false),C.ok⟩ (look env t) (a.tmps.getD t undef):=fun t=>AV.rel_keeps G2 _ _ (AV.only_true _) (AV.rel_keeps g2 _ _ (AV.only_true _) (hE t))
 have hdd:∀(i:Nat) o t,l.toArray[i]?=some o→o.dst=some t→t<C.n:=fun i o t hi ht=>by rw[hn];exact Ng hd i o t (by simpa using hi) ht
 have inv0:HeadInv .any l.toArray n (Array.replicate l.length false):=
  ⟨by simp,fun j oj _ hl=>(by rw[getD_replicate_false]at hl;cases hl),fun t _ ht=>getD_in (by simpa using ht) (getD_replicate_false _ _)⟩
 have hmemH:∀p∈pick l head,l.toArray[p.1]?=some p.2:=fun p hp=>by simpa using Q1 hp
 have hsz:l.toArray.size=(pick l head).length+(l.length-n):=by simp;omega
 refine(show ∀m,m=l.toArray.size→wpAny P .any l.toArray (nrm (Fin P k R)) m (Array.replicate l.toArray.size false) a {w with drawn:=w.drawn+1} from ?_) _ rfl
 intro m hm
 obtain rfl:=hm.trans hsz
 have H:=B1 (P:=P) (C:=C) (σ:=σ) (md:=.any) (ops:=l.toArray) (g:=l.length-n) hpri hpn hsk hch (by simpa using hnl) (pick l head) (Array.replicate l.toArray.size false) (look env) hmemH (by simpa using inv0) (by simpa using hlex) h.run
 refine Np hpri (Region.noSelect_spec hsel) hnd hdd (fun listed' E' a'' w'' hL hS=>?_) _ _ (look env) a _ ⟨s1,s2,φ0,by simpa using G1,fun p r _ _=>hφ0 p,by simpa using hE1⟩ H
 obtain⟨hsq,hall,env'',rfl,hR⟩:=hL
 have hfl:=Sg (rs:=rs) (listed:=listed') fun r hr=>hall r.1 (hrs r hr)
 obtain⟨u1,u2,φ',G',_,hE''⟩:=hS
 rw[hfl]at G' hE''
 have:=wpAny_of_seq (md:=.any) (Q':=nrm (Fin P k R)) (l.drop n) n listed' a'' w'' (fun j=>by simp[List.getElem?_drop]) (by rw[List.length_drop];exact hsq) (hR.run a'' w'' ⟨u1,u2,φ',G',hE''⟩)
 rwa [List.length_drop]at this
theorem Y0{id:Nat}{l:List Oper}{k':List Item}{cn:Nat}(m:Nat)(pri head:List Nat)(n:Nat)(rs:Res)(hf:P.follows .mixedOrders=true)(hn:C.n=cn)(hc:Proofs.YtnecoghfhcimeaaGreat.ctls m k = .code (.region id l.toArray true)::k')(hB:A9 l pri head n=true)(hd:Th cn l=true)
  (hnd:(rs.map (·.1)).Nodup) (hrs:∀r∈rs,r.1<n)
  (h:RunsT P C l.toArray rs (l.drop n) (pick l head) k' R ⟨env,σ⟩):Runs P C k R ⟨env,σ⟩:=Zbf m hc (Za2 pri head n rs hf hn hB hd hnd hrs h)
end
section
variable{C:Ctx}{w w':World}{φ:Nat→Option Nat}{σ:List Ob}{q g sz:Nat}{e:TypeId}{cs:List AV}
theorem Rc(hb:Below w.heap.size w w')(hg:w.heap.size≤g)(hq:σ[q]?=some ⟨e,0,[]⟩)(hφ:φ q=none) :
  Wn (fun k=>k≠q) ⟨w,φ,σ,C.ok⟩ ⟨w',upd φ q (some g),σ.set q ⟨e,sz,cs⟩,C.ok⟩:=by
 have hql:q<σ.length:=(Za5.1 hq).1
 refine⟨⟨hb.size,fun b hlt hok=>⟨⟨hok.1,fun i hi he=>?_⟩,hb.block b hlt⟩⟩,fun i hi hil=>⟨by simpa using hil,Xd hi⟩,fun i ob hi ho=>⟨ob.cs,by simp only[List.getElem?_set_ne (Ne.symm hi)];exact ho,rfl⟩,fun i b us t hi hil he hh=>⟨us,(hb.block b (Array.getElem?_eq_some_iff.1 hh).1).trans hh,rfl⟩⟩
 by_cases hiq:i=q
 ·subst hiq;simp only[Xg,Option.some.injEq]at he;subst he;simp only at hlt;omega
 ·simp only[Xd hiq]at he;exact hok.2 i (by simpa using hi) he
mutual
theorem Lj(hq:σ[q]?=some ⟨e,0,[]⟩)(hφ:φ q=none):∀(v:AV) (u:Value),AV.rel ⟨w,φ,σ,C.ok⟩ v u→v.only (fun k=>k≠q)
 | .ro r,u,h=>by simp[AV.only]
 | .junk,u,_=>by simp[AV.only]
 | .obj i off,u,h=>by
  simp only[AV.rel]at h
  obtain⟨_,g,h2,_⟩:=h
  simp only[AV.only]
  rintro rfl;rw[hφ]at h2;cases h2
 | .pin i off g,u,h=>by
  simp only[AV.rel]at h
  obtain⟨_,h2,_⟩:=h
  simp only[AV.only]
  rintro rfl;rw[hφ]at h2;cases h2
 | .own i,u,h=>by
  simp only[AV.rel]at h
  obtain⟨ob,n,h1,h2,h3,_⟩:=h
  simp only[AV.only]
  rintro rfl;rw[hq]at h1;injection h1 with h1;subst h1;exact absurd h3 (Nat.lt_irrefl 0)
 | .agg vs,u,h=>by
  simp only[AV.rel]at h
  obtain⟨us',_,h1⟩:=h
  simp only[AV.only];exact Qi hq hφ vs _ h1
 | .tup vs,u,h=>by
  simp only[AV.rel]at h
  obtain⟨us',_,h1⟩:=h
  simp only[AV.only];exact Qi hq hφ vs _ h1
 | .fn f a b,u,h=>by
  simp only[AV.rel]at h
  obtain⟨us',vs',_,h1,h2⟩:=h
  simp only[AV.only];exact⟨Qi hq hφ a _ h1,Qi hq hφ b _ h2⟩
theorem Qi(hq:σ[q]?=some ⟨e,0,[]⟩)(hφ:φ q=none):∀(vs:List AV) (us':List Value),AV.rels ⟨w,φ,σ,C.ok⟩ vs us'→AV.onlys (fun k=>k≠q) vs
 | [],us',h=>by simp[AV.onlys]
 |x::xs,us',h=>by
  simp only[AV.rels]at h
  obtain⟨u,us'',_,h1,h2⟩:=h
  simp only[AV.onlys];exact⟨Lj hq hφ x u h1,Qi hq hφ xs us'' h2⟩
end
theorem Jq(hb:Below w.heap.size w w')(hg:w.heap.size≤g)(hq:σ[q]?=some ⟨e,0,[]⟩)(hφ:φ q=none)(v:AV)(u:Value)(h:AV.rel ⟨w,φ,σ,C.ok⟩ v u):AV.rel ⟨w',upd φ q (some g),σ.set q ⟨e,sz,cs⟩,C.ok⟩ v u:=
 AV.rel_keeps (Rc hb hg hq hφ) v u (Lj hq hφ v u h) h
theorem A5(hG:Good C ⟨w,φ,σ,C.ok⟩)(hb:Below w.heap.size w w')(hg:w.heap.size≤g)(hq:σ[q]?=some ⟨e,0,[]⟩)(hφ:φ q=none)(hob:ObRel ⟨w',upd φ q (some g),σ.set q ⟨e,sz,cs⟩,C.ok⟩ ⟨e,sz,cs⟩ (some g)) :
  Good C ⟨w',upd φ q (some g),σ.set q ⟨e,sz,cs⟩,C.ok⟩:=by
 have hql:q<σ.length:=(Za5.1 hq).1
 refine⟨rfl,fun i j b hi hj e1 e2=>?_,fun i o hi=>?_,fun i b hi hbi=>?_,hG.frm.below hb⟩
 ·simp only[List.length_set]at hi hj
  by_cases hiq:i=q<;>by_cases hjq:j=q
  ·omega
  ·subst hiq;simp only[Xg,Option.some.injEq]at e1;simp only[Xd hjq]at e2
   have:=hG.lt hj e2;simp only at this;omega
  ·subst hjq;simp only[Xg,Option.some.injEq]at e2;simp only[Xd hiq]at e1
   have:=hG.lt hi e1;simp only at this;omega
  ·simp only[Xd hiq]at e1;simp only[Xd hjq]at e2
   exact hG.inj i j b hi hj e1 e2
 ·by_cases hiq:i=q
  ·subst hiq
   simp only[List.getElem?_set_self hql,Option.some.injEq]at hi
   subst hi
   simp only[Xg]
   exact hob
  ·simp only[List.getElem?_set_ne (Ne.symm hiq)]at hi
   have h:=hG.ob i o hi
   simp only[Xd hiq]
   simp only at h
   cases hgi:φ i with
   |none=>rw[hgi]at h;exact h
   |some b=>
    rw[hgi]at h
    obtain⟨vs,q1,q2,q3⟩:=h
    refine⟨vs,(hb.block b (Array.getElem?_eq_some_iff.1 q1).1).trans q1,q2,fun j v hj=>?_⟩
    obtain⟨x,k1,k2,k3⟩:=q3 j v hj
    exact⟨x,k1,k2,Jq hb hg hq hφ v x k3⟩
 ·simp only[List.length_set]at hi
  by_cases hiq:i=q
  ·subst hiq;simp only[Xg,Option.some.injEq]at hbi;subst hbi;exact .inr (Nat.le_trans hG.frm.size hg)
  ·simp only[Xd hiq]at hbi;exact hG.mine i b hi hbi
end
structure RE where
 idx:Nat
 pre:Option (Nat×Nat)
 t:TypeId
 sz:Nat
 cs:List RV
abbrev Bw:=List RE
def RE.ob(r:RE):Ob:=⟨r.t,r.sz,r.cs.map .ro⟩
def RE.all(r:RE):List Nat:=r.idx::match r.pre with
 |some p=>[p.1]
 |none=>[]
def Gu(listed:Array Bool)(r:RE):Ob:=
 if listed.getD r.idx false=true then r.ob else match r.pre with
  |some p=>if listed.getD p.1 false=true then⟨r.t,r.sz,[]⟩ else⟨r.t,0,[]⟩
  |none=>⟨r.t,0,[]⟩
def Kb(rs:Bw)(listed:Array Bool):List Ob:=rs.map (Gu listed)
def fullU(rs:Bw):List Ob:=rs.map RE.ob
def MkN(P:Program)(C:Ctx)(o:Oper)(E:EE)(ob:Ob)(q:Nat)(v:AV):Prop:=
 (v = .own q∨v = .obj q 0)∧∀(a:Act) (w:World) (φ:Nat→Option Nat) (σ:List Ob),Good C ⟨w,φ,σ,C.ok⟩→σ[q]?=some ⟨ob.t,0,[]⟩→φ q=none→(∀x∈o.op.operands,AV.rel ⟨w,φ,σ,C.ok⟩ (evE E x) (a.eval x))→∀(K:Act→World→Prop) (Q:Exit→Act→World→Prop),
  (∀u w' g,Below w.heap.size w w'→w.heap.size≤g→ObRel ⟨w',upd φ q (some g),σ.set q ob,C.ok⟩ ob (some g)→AV.rel ⟨w',upd φ q (some g),σ.set q ob,C.ok⟩ v u→K (a.put o.dst u) w')→o.wp P a w K Q
def MkQ(P:Program)(C:Ctx)(o:Oper)(E:EE)(r:RE)(s q:Nat):Prop:=
 ∀(a:Act) (w:World) (φ:Nat→Option Nat) (σ:List Ob),Good C ⟨w,φ,σ,C.ok⟩→σ[q]?=some ⟨r.t,r.sz,[]⟩→AV.rel ⟨w,φ,σ,C.ok⟩ (.own q) (a.tmps.getD s undef)→(∀(j:Nat) ob,σ[j]?=some ob→AV.onlys (fun k=>k≠q) ob.cs) →
  (∀x∈o.op.operands,AV.rel ⟨w,φ,σ,C.ok⟩ (evE E x) (a.eval x))→∀(K:Act→World→Prop) (Q:Exit→Act→World→Prop),
  (∀u w' b,Good C ⟨w',upd φ q b,σ.set q r.ob,C.ok⟩→Wn (fun k=>k≠q) ⟨w,φ,σ,C.ok⟩ ⟨w',upd φ q b,σ.set q r.ob,C.ok⟩→AV.rel ⟨w',upd φ q b,σ.set q r.ob,C.ok⟩ (.own q) u→K (a.put o.dst u) w')→o.wp P a w K Q
theorem MkN.congr{P:Program}{C:Ctx}{o:Oper}{E E':EE}{ob:Ob}{q:Nat}{v:AV}(h:MkN P C o E ob q v)(he:∀x∈o.op.operands,evE E' x=evE E x):MkN P C o E' ob q v:=
 ⟨h.1,fun a w φ σ hG h1 h2 hx=>h.2 a w φ σ hG h1 h2 fun x hm=>by rw[←he x hm];exact hx x hm⟩
theorem MkQ.congr{P:Program}{C:Ctx}{o:Oper}{E E':EE}{r:RE}{s q:Nat}(h:MkQ P C o E r s q)(he:∀x∈o.op.operands,evE E' x=evE E x):MkQ P C o E' r s q:=
 fun a w φ σ hG h1 h2 h3 hx=>h a w φ σ hG h1 h2 h3 fun x hm=>by rw[←he x hm];exact hx x hm
def Sd(rs:Bw)(n:Nat)(o:Oper)(v:AV):Prop:=∀p r,rs[p]?=some r→r.pre.isSome=true→v.only (fun k=>k≠n+p)∨(isMv o=false∧∃e∈o.after,(∀md,Region.binds md e=true)∧e.on=r.idx)
def YU(P:Program)(C:Ctx)(ops:Array Oper)(σ:List Ob)(rs:Bw)(i:Nat)(o:Oper)(v:AV)(E:EE):Prop:=
 ((∀r∈rs,i∉r.all)∧Sd rs σ.length o v∧((Kr ops E o.guard=some true∧∀more,PurF P C o E (σ++more) v)∨(Kr ops E o.guard=some false∧v = .ro (.c undef)))) ∨
 (∃p r,rs[p]?=some r∧r.idx=i∧r.pre=none∧o.guard=none∧o.dst.isSome=true∧MkN P C o E r.ob (σ.length+p) v) ∨
 (∃p r s,rs[p]?=some r∧r.pre=some (i,s)∧o.guard=none∧o.dst=some s∧MkN P C o E ⟨r.t,r.sz,[]⟩ (σ.length+p) (.own (σ.length+p))∧v = .junk) ∨
 (∃p r j s,rs[p]?=some r∧r.idx=i∧r.pre=some (j,s)∧o.guard=none∧o.dst.isSome=true∧MkQ P C o E r s (σ.length+p)∧v = .own (σ.length+p))
section
variable{P:Program}{C:Ctx}{ops:Array Oper}{σ:List Ob}{md:Region.Mode}{rs:Bw}{pri:List Nat}
theorem YU.put{i:Nat}{oi oj:Oper}{v u:AV}{E:EE}(hy:YU P C ops σ rs i oi v E)(h3:∀d,oj.dst=some d→d∉oi.looksAt ops):YU P C ops σ rs i oi v (Vx E oj.dst u):=by
 have hc:∀x∈oi.op.operands,evE (Vx E oj.dst u) x=evE E x:=fun x hx=>Tg fun t ht=>Vf (h3 t ht) x hx
 unfold YU at *
 rw[Lp h3]
 rcases hy with⟨h0,hs,⟨hw,hv⟩|hy⟩|⟨p,r,k1,k2,k3,k4,k5,k6⟩|⟨p,r,s,k1,k2,k3,k4,k5,k6⟩|⟨p,r,j,s,k1,k2,k3,k4,k5,k6,k7⟩
 ·exact .inl ⟨h0,hs,.inl ⟨hw,fun more=>(hv more).congr hc⟩⟩
 ·exact .inl ⟨h0,hs,.inr hy⟩
 ·exact .inr (.inl ⟨p,r,k1,k2,k3,k4,k5,k6.congr hc⟩)
 ·exact .inr (.inr (.inl ⟨p,r,s,k1,k2,k3,k4,k5.congr hc,k6⟩))
 ·exact .inr (.inr (.inr ⟨p,r,j,s,k1,k2,k3,k4,k5,k6.congr hc,k7⟩))
theorem YU.unput{i:Nat}{oi:Oper}{d:Option Nat}{v u:AV}{E:EE}(hy:YU P C ops σ rs i oi v (Vx E d u))(h3:∀t,d=some t→t∉oi.looksAt ops):YU P C ops σ rs i oi v E:=by
 have hc:∀x∈oi.op.operands,evE E x=evE (Vx E d u) x:=fun x hx=>(Tg fun t ht=>Vf (h3 t ht) x hx).symm
 unfold YU at *
 rw[Lp h3]at hy
 rcases hy with⟨h0,hs,⟨hw,hv⟩|hy⟩|⟨p,r,k1,k2,k3,k4,k5,k6⟩|⟨p,r,s,k1,k2,k3,k4,k5,k6⟩|⟨p,r,j,s,k1,k2,k3,k4,k5,k6,k7⟩
 ·exact .inl ⟨h0,hs,.inl ⟨hw,fun more=>(hv more).congr hc⟩⟩
 ·exact .inl ⟨h0,hs,.inr hy⟩
 ·exact .inr (.inl ⟨p,r,k1,k2,k3,k4,k5,k6.congr hc⟩)
 ·exact .inr (.inr (.inl ⟨p,r,s,k1,k2,k3,k4,k5.congr hc,k6⟩))
 ·exact .inr (.inr (.inr ⟨p,r,j,s,k1,k2,k3,k4,k5,k6.congr hc,k7⟩))
def aOpV(P:Program)(C:Ctx)(ops:Array Oper)(σ:List Ob)(rs:Bw)(i:Nat)(K:EE→Prop)(E:EE):Prop:=∃o v,ops[i]?=some o∧YU P C ops σ rs i o v E∧K (Vx E o.dst v)
theorem O7{i:Nat}{E:EE}{K K':EE→Prop}(h:∀E,K E→K' E)(hh:aOpV P C ops σ rs i K E):aOpV P C ops σ rs i K' E:=by
 obtain⟨o,v,h1,h2,h3⟩:=hh
 exact⟨o,v,h1,h2,h _ h3⟩
theorem Fs{i j:Nat}{oi oj:Oper}{v:AV}(hj:ops[j]?=some oj)(hap:oi.apart ops oj=true){K:EE→Prop}{E:EE}(hy:YU P C ops σ rs i oi v E)(h:aOpV P C ops σ rs j K (Vx E oi.dst v)) :
  aOpV P C ops σ rs j (fun E'=>YU P C ops σ rs i oi v E'∧K (Vx E' oi.dst v)) E:=by
 obtain⟨h1,h2,h3⟩:=Oper.apart_spec hap
 obtain⟨o,u,k1,k2,k3⟩:=h
 rw[hj]at k1;injection k1 with k1;subst k1
 refine⟨oj,u,hj,k2.unput h1,hy.put h3,?_⟩
 rw[←M0 h2];exact k3
def Mp(P:Program)(C:Ctx)(md:Region.Mode)(ops:Array Oper)(σ:List Ob)(rs:Bw)(pri:List Nat)(n:Nat)(L:Array Bool→EE→Prop):Nat→Array Bool→EE→Prop
 |0,listed,E=>L listed E
 |f+1,listed,E=>(∃e∈pri,e∈Region.ready md ops listed∧e<n∧aOpV P C ops σ rs e (Mp P C md ops σ rs pri n L f (listed.setIfInBounds e true)) E) ∨
   ((∀e∈pri,e∉Region.ready md ops listed)∧Region.ready md ops listed≠[]∧∀i∈Region.ready md ops listed,i<n∧aOpV P C ops σ rs i (Mp P C md ops σ rs pri n L f (listed.setIfInBounds i true)) E)
def wpLexV(P:Program)(C:Ctx)(ops:Array Oper)(σ:List Ob)(rs:Bw)(Q:EE→Prop):List (Nat×Oper)→EE→Prop
 | [],E=>Q E
 |(i,o)::rest,E=>∃v,YU P C ops σ rs i o v E∧wpLexV P C ops σ rs Q rest (Vx E o.dst v)
theorem V_any{n:Nat}{L:Array Bool→EE→Prop}(hpri:∀e∈pri,V6 md ops e=true)(hdone:∀listed E,L listed E→∀j∈Region.ready md ops listed,n≤j) :
  ∀(f:Nat) (listed:Array Bool) (E:EE),Mp P C md ops σ rs pri n L f listed E→∀j∈Region.ready md ops listed,j<n→∃f',f=f'+1∧aOpV P C ops σ rs j (Mp P C md ops σ rs pri n L f' (listed.setIfInBounds j true)) E
 |0,listed,E,h,j,hj,hjn=>by have:=hdone _ _ h j hj;omega
 |f+1,listed,E,h,j,hj,hjn=>by
  rcases h with⟨e,he,her,hen,o,v,ho,hy,hK⟩|⟨_,_,h⟩
  ·by_cases hej:e=j
   ·subst hej;exact⟨f,rfl,o,v,ho,hy,hK⟩
   ·obtain⟨f',rfl,h2⟩:=V_any hpri hdone f _ _ hK j (ready_mono hj (Ne.symm hej)) hjn
    refine⟨f'+1,rfl,?_⟩
    obtain⟨_,oj,hoj,_⟩:=mem_ready.1 hj
    have hap:=(Q6 ho (hpri e he)).2 j oj hoj (Ne.symm hej) (Ki her hj hoj) (Ki hj her ho)
    refine O7 (fun E' h3=>.inl ⟨e,he,ready_mono her hej,hen,o,v,ho,h3.1,?_⟩) (Fs hoj hap hy h2)
    rw[Array.setIfInBounds_comm _ _ (Ne.symm hej)]
    exact h3.2
  ·exact⟨f,rfl,(h j hj).2⟩
theorem V_first{n i:Nat}{oi:Oper}{v:AV}{L:Array Bool→EE→Prop}(hi:ops[i]?=some oi)(hpri:∀e∈pri,V6 md ops e=true)
  (hs:Pl md ops pri n=true) (hc:Region.chainB md ops n=true) (hn:n<ops.size) (hin:i<n) (hpn:∀e∈pri,e<n)
  (hdone:∀listed E,L listed E→∀j∈Region.ready md ops listed,n≤j) :
  ∀(f:Nat) (listed:Array Bool) (E:EE),HeadInv md ops n listed →
   (∀j oj,ops[j]?=some oj→j≠i→listed.getD j true=false→(∀e∈oj.after,Region.binds md e=true→e.on≠i)→oi.apart ops oj=true) →
   i∈Region.ready md ops listed→YU P C ops σ rs i oi v E →
   Mp P C md ops σ rs pri n L f (listed.setIfInBounds i true) (Vx E oi.dst v)→Mp P C md ops σ rs pri n L (f+1) listed E:=by
 intro f
 induction f with
 |zero=>
  intro listed E inv hfree hr hy H
  by_cases hp:i∈pri
  ·exact .inl ⟨i,hp,hr,hin,oi,v,hi,hy,H⟩
  ·have no:∀j∈Region.ready md ops listed,j<n→j=i:=fun j hj hjn=>by
    apply Classical.byContradiction
    intro hji
    have:=hdone _ _ H j (ready_mono hj hji)
    omega
   have hnp:∀e∈pri,e∉Region.ready md ops listed:=fun e he her=>hp (no e her (hpn e he)▸he)
   refine .inr ⟨hnp,fun h=>(by rw[h]at hr;cases hr),fun j hj=>?_⟩
   have hjn:j<n:=by
    rcases Nat.lt_or_ge j n with h|h
    ·exact h
    ·exact absurd hj (Ky hs hc hn inv hnp hin (mem_ready.1 hr).1 j h)
   obtain rfl:=no j hj hjn
   exact⟨hjn,oi,v,hi,hy,H⟩
 |succ f ih=>
  intro listed E inv hfree hr hy H
  by_cases hp:i∈pri
  ·exact .inl ⟨i,hp,hr,hin,oi,v,hi,hy,H⟩
  ·have step:∀j∈Region.ready md ops listed,j<n→j≠i→aOpV P C ops σ rs j (Mp P C md ops σ rs pri n L (f+1) (listed.setIfInBounds j true)) E:=fun j hj hjn hji=>by
    obtain⟨f',hf,h1⟩:=V_any hpri hdone _ _ _ H j (ready_mono hj hji) hjn
    injection hf with hf
    have hf:f'=f:=hf.symm
    subst hf
    obtain⟨hjun,oj,hoj,hall⟩:=mem_ready.1 hj
    have hfree':∀k ok,ops[k]?=some ok→k≠i→(listed.setIfInBounds j true).getD k true=false →
      (∀e∈ok.after,Region.binds md e=true→e.on≠i)→oi.apart ops ok=true:=fun k ok hk hki hun hno=>by
     refine hfree k ok hk hki ?_ hno
     by_cases hjk:j=k
     ·subst hjk;exact hjun
     ·rw[getD_set_ne true hjk]at hun;exact hun
    refine O7 (fun E' h3=>ih (listed.setIfInBounds j true) E' (inv.set hj hjn) hfree' (ready_mono hr (Ne.symm hji)) h3.1 ?_) (Fs hoj (hfree j oj hoj hji hjun (Ki hr hj hoj)) hy h1)
    rw[Array.setIfInBounds_comm _ _ hji]
    exact h3.2
   by_cases he:∃e∈pri,e∈Region.ready md ops listed
   ·obtain⟨e,he,her⟩:=he
    exact .inl ⟨e,he,her,hpn e he,step e her (hpn e he) (by rintro rfl;exact hp he)⟩
   ·have hnp:∀e∈pri,e∉Region.ready md ops listed:=fun e h1 h2=>he ⟨e,h1,h2⟩
    refine .inr ⟨hnp,fun h=>(by rw[h]at hr;cases hr),fun j hj=>?_⟩
    have hjn:j<n:=by
     rcases Nat.lt_or_ge j n with h|h
     ·exact h
     ·exact absurd hj (Ky hs hc hn inv hnp hin (mem_ready.1 hr).1 j h)
    refine⟨hjn,?_⟩
    by_cases hji:j=i
    ·subst hji;exact⟨oi,v,hi,hy,H⟩
    ·exact step j hj hjn hji
theorem Bz{n g:Nat}{Lq:EE→Prop}(hpri:∀e∈pri,V6 md ops e=true)(hpn:∀e∈pri,e<n)(hs:Pl md ops pri n=true)(hc:Region.chainB md ops n=true)(hn:n<ops.size) :
  ∀(l:List (Nat×Oper)) (listed:Array Bool) (E:EE),(∀p∈l,ops[p.1]?=some p.2)→HeadInv md ops n listed →
  Jd md ops g n (l.map (·.1)) listed=true→wpLexV P C ops σ rs Lq l E →
  Mp P C md ops σ rs pri n (fun listed' E'=>Region.seqB md ops g n listed'=true∧(∀j,j<n→listed'.getD j false=true)∧Lq E') l.length listed E
 | [],listed,E,_,_,hB,h=>by
  simp only[List.map_nil,Jd,Bool.and_eq_true]at hB
  exact⟨hB.1,fun j hj=>List.all_eq_true.1 hB.2 j (List.mem_range.2 hj),h⟩
 |(k,o)::l,listed,E,hl,inv,hB,h=>by
  have h0:ops[k]?=some o:=hl (k,o) (by simp)
  simp only[List.map_cons,Jd,Bool.and_eq_true,decide_eq_true_eq]at hB
  obtain⟨⟨⟨hr,hf⟩,hkn⟩,hB'⟩:=hB
  have hr':k∈Region.ready md ops listed:=by simpa using hr
  obtain⟨v,hy,hK⟩:=h
  exact V_first h0 hpri hs hc hn hkn hpn (fun listed' E' hL=>seqB_ready hL.1) l.length listed E inv (Region.free_spec h0 hf) hr' hy
   (Bz hpri hpn hs hc hn l _ _ (fun p hp=>hl p (by simp[hp])) (inv.set hr' hkn) hB' hK)
end
structure WfU (md:Region.Mode) (ops:Array Oper) (rs:Bw):Prop where
 one:∀(p:Nat) r (p':Nat) r' i,rs[p]?=some r→rs[p']?=some r'→i∈r.all→i∈r'.all→p=p'
 two:∀(p:Nat) r j s,rs[p]?=some r→r.pre=some (j,s)→r.idx≠j
 edge:∀(p:Nat) r j s,rs[p]?=some r→r.pre=some (j,s)→∃o,ops[r.idx]?=some o∧∃e∈o.after,Region.binds md e=true∧e.on=j
 slot:∀(p:Nat) r j s,rs[p]?=some r→r.pre=some (j,s)→∀i o,ops[i]?=some o→o.dst=some s→i=j
theorem RE.mem_idx(r:RE):r.idx∈r.all:=by simp[RE.all]
theorem Xp{r:RE}{j s:Nat}(h:r.pre=some (j,s)):j∈r.all:=by simp[RE.all,h]
structure StU (C:Ctx) (σ:List Ob) (rs:Bw) (listed:Array Bool) (a:Act) (w:World) (φ:Nat→Option Nat):Prop where
 made:∀(p:Nat) r,rs[p]?=some r→listed.getD r.idx false=false→(∀j s,r.pre=some (j,s)→listed.getD j false=true→AV.rel ⟨w,φ,σ++Kb rs listed,C.ok⟩ (.own (σ.length+p)) (a.tmps.getD s undef)) ∧
  ((∀j s,r.pre=some (j,s)→listed.getD j false=false)→φ (σ.length+p)=none)
structure SimU (C:Ctx) (σ:List Ob) (rs:Bw) (listed:Array Bool) (E:EE) (a:Act) (w:World):Prop where
 defers:a.defers=[]
 size:a.tmps.size=C.n
 lsz:∀(p:Nat) r,rs[p]?=some r→∀i∈r.all,i<listed.size
 cl:∀(p:Nat) r j s,rs[p]?=some r→r.pre=some (j,s)→listed.getD r.idx false=true→listed.getD j false=true
 free:∀(p:Nat) r,rs[p]?=some r→r.pre.isSome=true→∀o∈σ,AV.onlys (fun k=>k≠σ.length+p) o.cs
 only:∀(p:Nat) r,rs[p]?=some r→r.pre.isSome=true→listed.getD r.idx false=false→∀t,(E t).only (fun k=>k≠σ.length+p)
 mem:∃φ,Good C ⟨w,φ,σ++Kb rs listed,C.ok⟩∧StU C σ rs listed a w φ∧∀t,AV.rel ⟨w,φ,σ++Kb rs listed,C.ok⟩ (E t) (a.tmps.getD t undef)
theorem Sk{listed:Array Bool}{r:RE}{i:Nat}(h:i∉r.all):Gu (listed.setIfInBounds i true) r=Gu listed r:=by
 have h1:i≠r.idx:=fun e=>h (e▸r.mem_idx)
 unfold Gu
 rw[getD_set_ne false h1]
 cases hp:r.pre with
 |none=>rfl
 |some p=>
  obtain⟨j,s⟩:=p
  have h2:i≠j:=fun e=>h (e▸Xp hp)
  simp only[getD_set_ne false h2]
theorem E3{rs:Bw}{listed:Array Bool}{i:Nat}(h:∀r∈rs,i∉r.all):Kb rs (listed.setIfInBounds i true)=Kb rs listed:=by
 unfold Kb
 exact List.map_congr_left fun r hr=>Sk (h r hr)
theorem Xr{listed:Array Bool}{i:Nat}(hi:i<listed.size):(listed.setIfInBounds i true).getD i false=true:=by simp[hi]
theorem Gq{md:Region.Mode}{ops:Array Oper}{rs:Bw}{listed:Array Bool}{i p:Nat}{r:RE}{ob:Ob}(hw:WfU md ops rs)(hp:rs[p]?=some r)(hm:i∈r.all)(ho:Gu (listed.setIfInBounds i true) r=ob) :
  Kb rs (listed.setIfInBounds i true)=(Kb rs listed).set p ob:=by
 apply List.ext_getElem?
 intro j
 rw[List.getElem?_set]
 unfold Kb
 rw[List.getElem?_map]
 by_cases e:p=j
 ·subst e
  have hlt:p<rs.length:=(Za5.1 hp).1
  rw[hp]
  simp[hlt,ho]
 ·rw[if_neg e,List.getElem?_map]
  cases hj:rs[j]? with
  |none=>rfl
  |some r'=>
   simp only[Option.map_some,Option.some.injEq]
   exact Sk fun hm'=>e (hw.one p r j r' i hp hj hm hm')
theorem Iw{p:Nat→Prop}{o:Ob}{listed:Array Bool}{rs:Bw}(h:o∈Kb rs listed):AV.onlys p o.cs:=by
 unfold Kb at h
 obtain⟨r,_,rfl⟩:=List.mem_map.1 h
 unfold Gu RE.ob
 split
 ·exact Yg _ _
 ·split
  ·split<;>exact Yg _ []
  ·exact Yg _ []
section
variable{P:Program}{C:Ctx}{ops:Array Oper}{σ:List Ob}{md:Region.Mode}{rs:Bw}{pri:List Nat}{listed:Array Bool}{E:EE}{a:Act}{w:World}
theorem SimU.op{Q:Exit→Act→World→Prop}{i:Nat}{o:Oper}{v:AV}{K:Act→World→Prop}(hw:WfU md ops rs)(hs:SimU C σ rs listed E a w)(hi:i∈Region.ready md ops listed)(ho:ops[i]?=some o)(hd:∀t,o.dst=some t→t<C.n)
  (hy:YU P C ops σ rs i o v E) (hK:∀a' w',SimU C σ rs (listed.setIfInBounds i true) (Vx E o.dst v) a' w'→K a' w'):wpOp P ops Q i K a w:=by
 obtain⟨s1,s2,s3,scl,s4,s5,φ,hG,hst,hE⟩:=hs
 have hi0:=(mem_ready.1 hi).1
 obtain⟨dst,op,ty,pos,after,g⟩:=o
 simp only at hd
 have putA:∀(u:Value) (t:Nat),dst≠some t→(a.put dst u).tmps.getD t undef=a.tmps.getD t undef:=by
  intro u t hne
  cases dst with
  |none=>rfl
  |some s=>rw[Wb a s t u (by rw[s2];exact hd s rfl),if_neg fun e=>hne (by rw[e])]
 have putR:∀{φ':Nat→Option Nat} {σ':List Ob} {w':World} {u:Value},(∀t,AV.rel ⟨w',φ',σ',C.ok⟩ (E t) (a.tmps.getD t undef))→AV.rel ⟨w',φ',σ',C.ok⟩ v u→∀t,AV.rel ⟨w',φ',σ',C.ok⟩ (Vx E dst v t) ((a.put dst u).tmps.getD t undef):=by
  intro φ' σ' w' u h1 h2 t
  cases dst with
  |none=>exact h1 t
  |some s=>
   rw[Wb a s t u (by rw[s2];exact hd s rfl)]
   simp only[Vx]
   split
   ·exact h2
   ·exact h1 t
 have putJ:∀{φ':Nat→Option Nat} {σ':List Ob} {w':World} {u:Value},(∀t,AV.rel ⟨w',φ',σ',C.ok⟩ (E t) (a.tmps.getD t undef))→∀t,AV.rel ⟨w',φ',σ',C.ok⟩ (Vx E dst .junk t) ((a.put dst u).tmps.getD t undef):=by
  intro φ' σ' w' u h1 t
  cases dst with
  |none=>exact h1 t
  |some s=>
   rw[Wb a s t u (by rw[s2];exact hd s rfl)]
   simp only[Vx]
   split
   ·simp[AV.rel]
   ·exact h1 t
 have szR:∀u,(a.put dst u).tmps.size=C.n:=fun u=>by cases dst<;>simp[Act.put,s2]
 have dfR:∀u,(a.put dst u).defers=[]:=fun u=>by cases dst<;>exact s1
 have s3':∀(p:Nat) r,rs[p]?=some r→∀k∈r.all,k<(listed.setIfInBounds i true).size:=fun p r hp k hk=>by simpa using s3 p r hp k hk
 have scl':∀(p:Nat) r j s,rs[p]?=some r→r.pre=some (j,s)→(listed.setIfInBounds i true).getD r.idx false=true→(listed.setIfInBounds i true).getD j false=true:=by
  intro p r j s hp hpr hl
  have hjs:=s3 p r hp j (Xp hpr)
  by_cases hij:i=j
  ·rw[hij];exact Xr hjs
  rw[getD_set_ne false hij]
  by_cases hir:i=r.idx
  ·obtain⟨o',ho',e,he,hb,hon⟩:=hw.edge p r j s hp hpr
   obtain⟨_,o'',ho'',hall⟩:=mem_ready.1 hi
   have:o''=o':=Option.some.inj (ho''.symm.trans (hir▸ho'))
   subst this
   have:=hall e he hb
   rw[hon]at this
   exact this
  ·rw[getD_set_ne false hir]at hl
   exact scl p r j s hp hpr hl
 have onlyR:∀{v':AV},(∀(p:Nat) r,rs[p]?=some r→r.pre.isSome=true→(listed.setIfInBounds i true).getD r.idx false=false→v'.only (fun k=>k≠σ.length+p))→∀(p:Nat) r,rs[p]?=some r→r.pre.isSome=true→(listed.setIfInBounds i true).getD r.idx false=false→∀t,(Vx E dst v' t).only (fun k=>k≠σ.length+p):=by
  intro v' h p r hp hpr hl t
  have hl0:listed.getD r.idx false=false:=by
   by_cases e:i=r.idx
   ·rw[e,Xr (s3 p r hp _ r.mem_idx)]at hl;cases hl
   ·rwa [getD_set_ne false e]at hl
  cases dst with
  |none=>exact s5 p r hp hpr hl0 t
  |some s=>
   simp only[Vx]
   split
   ·exact h p r hp hpr hl
   ·exact s5 p r hp hpr hl0 t
 -- other places' rows lie where they lay
 have slotR:∀(p:Nat) r j s,rs[p]?=some r→r.pre=some (j,s)→i≠j→∀u,(a.put dst u).tmps.getD s undef=a.tmps.getD s undef:=fun p r j s hp hpr hij u=>putA u s fun e=>hij (hw.slot p r j s hp hpr i _ ho e)
 unfold wpOp
 simp only[ho]
 rcases hy with⟨h0,hsg,⟨hg,hv⟩|⟨hg,rfl⟩⟩|⟨p,r,hp,hri,hrp,hgd,hds,hmk⟩|⟨p,r,s,hp,hrp,hgd,hds,hmk,rfl⟩|⟨p,r,j,s,hp,hri,hrp,hgd,hds,hmk,rfl⟩
 ·have hres:=E3 (listed:=listed) (fun r hr=>h0 r hr)
  have hne:∀(p:Nat) r,rs[p]?=some r→i≠r.idx:=fun p r hp e=>h0 r (Zba hp) (e▸r.mem_idx)
  have hnj:∀(p:Nat) r j s,rs[p]?=some r→r.pre=some (j,s)→i≠j:=fun p r j s hp hpr e=>h0 r (Zba hp) (e▸Xp hpr)
  rw[if_pos (Eh hg a _ hE)]
  refine .inl (hv (Kb rs listed) a ⟨w,φ,σ++Kb rs listed,C.ok⟩ hG rfl (fun x _=>Jx hE x) _ _ fun u w' hb hu=>hK _ _ ?_)
  obtain⟨g1,g2⟩:=Y8 hG hb
  refine⟨dfR u,szR u,s3',scl',s4,onlyR (fun p r hp hpr hl=>(hsg p r hp hpr).resolve_right fun⟨_,e,he,hb,hon⟩=>by
   rw[getD_set_ne false (hne p r hp)]at hl
   obtain⟨_,o',ho',hall'⟩:=mem_ready.1 hi
   rw[ho]at ho';injection ho' with ho';subst ho'
   have:=hall' e he (hb md)
   rw[hon,hl]at this;cases this),φ,by rw[hres];exact g1,⟨fun p r hp hl=>?_⟩,by rw[hres];exact putR (fun t=>AV.rel_keeps g2 _ _ (AV.only_true _) (hE t)) hu⟩
  rw[getD_set_ne false (hne p r hp)]at hl
  obtain⟨k1,k2⟩:=hst.made p r hp hl
  refine⟨fun j s hpr hj=>?_,fun h=>k2 fun j s hpr=>?_⟩
  ·rw[getD_set_ne false (hnj p r j s hp hpr)]at hj
   rw[hres,slotR p r j s hp hpr (hnj p r j s hp hpr)]
   exact AV.rel_keeps g2 _ _ (AV.only_true _) (k1 j s hpr hj)
  ·have:=h j s hpr
   rwa [getD_set_ne false (hnj p r j s hp hpr)]at this
 ·have hres:=E3 (listed:=listed) (fun r hr=>h0 r hr)
  have hne:∀(p:Nat) r,rs[p]?=some r→i≠r.idx:=fun p r hp e=>h0 r (Zba hp) (e▸r.mem_idx)
  have hnj:∀(p:Nat) r j s,rs[p]?=some r→r.pre=some (j,s)→i≠j:=fun p r j s hp hpr e=>h0 r (Zba hp) (e▸Xp hpr)
  rw[He hg a _ hE,if_neg (by simp)]
  refine hK _ _ ⟨dfR _,szR _,s3',scl',s4,onlyR (fun p r hp hpr hl=>(hsg p r hp hpr).resolve_right fun⟨_,e,he,hb,hon⟩=>by
   rw[getD_set_ne false (hne p r hp)]at hl
   obtain⟨_,o',ho',hall'⟩:=mem_ready.1 hi
   rw[ho]at ho';injection ho' with ho';subst ho'
   have:=hall' e he (hb md)
   rw[hon,hl]at this;cases this),φ,by rw[hres];exact hG,⟨fun p r hp hl=>?_⟩,by rw[hres];exact putR hE (by simp[AV.rel,RV.rel])⟩
  rw[getD_set_ne false (hne p r hp)]at hl
  obtain⟨k1,k2⟩:=hst.made p r hp hl
  refine⟨fun j s hpr hj=>?_,fun h=>k2 fun j s hpr=>?_⟩
  ·rw[getD_set_ne false (hnj p r j s hp hpr)]at hj
   rw[hres,slotR p r j s hp hpr (hnj p r j s hp hpr)]
   exact k1 j s hpr hj
  ·have:=h j s hpr
   rwa [getD_set_ne false (hnj p r j s hp hpr)]at this
 ·
  simp only at hgd hds
  subst hgd;subst hri
  have his:=s3 p r hp _ r.mem_idx
  have hlf:listed.getD r.idx false=false:=getD_both hi0
  have hpl:p<rs.length:=(Za5.1 hp).1
  have hob0:Gu listed r=⟨r.t,0,[]⟩:=by unfold Gu;rw[hlf];simp[hrp]
  have hq:(σ++Kb rs listed)[σ.length+p]?=some ⟨r.ob.t,0,[]⟩:=by
   rw[Zbd (by omega),show σ.length+p-σ.length=p by omega]
   unfold Kb
   rw[List.getElem?_map,hp]
   simp only[Option.map_some,hob0,RE.ob]
  have hφq:φ (σ.length+p)=none:=(hst.made p r hp hlf).2 fun j s h=>by rw[hrp]at h;cases h
  have hset:=Gq (ob:=r.ob) (listed:=listed) hw hp r.mem_idx (by unfold Gu;rw[Xr his];rfl)
  have hσ:(σ++Kb rs listed).set (σ.length+p) r.ob=σ++Kb rs (listed.setIfInBounds r.idx true):=by
   rw[List.set_append_right _ _ (by omega),show σ.length+p-σ.length=p by omega,hset]
  rw[if_pos (by simp[Region.wanted])]
  refine .inl (hmk.2 a w φ _ hG hq hφq (fun x _=>Jx hE x) _ _ fun u w' g hb hg hor hu=>hK _ _ ?_)
  have g1:=A5 hG hb hg hq hφq hor
  have hall:∀t,AV.rel ⟨w',upd φ (σ.length+p) (some g),(σ++Kb rs listed).set (σ.length+p) r.ob,C.ok⟩ (E t) (a.tmps.getD t undef):=fun t=>Jq hb hg hq hφq _ _ (hE t)
  have hoth:∀p' r',rs[p']?=some r'→p'≠p→r.idx∉r'.all:=fun p' r' hp' hne hm=>hne (hw.one p' r' p r r.idx hp' hp hm r.mem_idx)
  refine⟨dfR u,szR u,s3',scl',s4,onlyR fun p' r' hp' hpr' hl=>?_,upd φ (σ.length+p) (some g),by rw[←hσ];exact g1,⟨fun p' r' hp' hl=>?_⟩,by rw[←hσ];exact putR hall hu⟩
  ·have hne:p'≠p:=by
    rintro rfl
    rw[hp]at hp';injection hp' with hp';subst hp'
    rw[hrp]at hpr';cases hpr'
   rcases hmk.1 with rfl|rfl<;>(simp only[AV.only];omega)
  ·by_cases hpp:p'=p
   ·subst hpp
    rw[hp]at hp';injection hp' with hp';subst hp'
    rw[Xr his]at hl;cases hl
   ·have hno:=hoth p' r' hp' hpp
    have hri:r.idx≠r'.idx:=fun e=>hno (e▸r'.mem_idx)
    rw[getD_set_ne false hri]at hl
    obtain⟨k1,k2⟩:=hst.made p' r' hp' hl
    refine⟨fun j s hpr hj=>?_,fun h=>?_⟩
    ·have hij:r.idx≠j:=fun e=>hno (e▸Xp hpr)
     rw[getD_set_ne false hij]at hj
     rw[←hσ,slotR p' r' j s hp' hpr hij]
     exact Jq hb hg hq hφq _ _ (k1 j s hpr hj)
    ·rw[Xd (by omega)]
     refine k2 fun j s hpr=>?_
     have hij:r.idx≠j:=fun e=>hno (e▸Xp hpr)
     have:=h j s hpr
     rwa [getD_set_ne false hij]at this
 ·
  simp only at hgd hds
  subst hgd;subst hds
  have his:=s3 p r hp _ (Xp hrp)
  have hlf:listed.getD i false=false:=getD_both hi0
  have hij:=hw.two p r i s hp hrp
  have hlx:listed.getD r.idx false=false:=by
   cases hh:listed.getD r.idx false with
   |false=>rfl
   |true=>rw[scl p r i s hp hrp hh]at hlf;cases hlf
  have hlx':(listed.setIfInBounds i true).getD r.idx false=false:=by rw[getD_set_ne false (Ne.symm hij)];exact hlx
  have hob0:Gu listed r=⟨r.t,0,[]⟩:=by unfold Gu;rw[hlx];simp[hrp,hlf]
  have hob1:Gu (listed.setIfInBounds i true) r=⟨r.t,r.sz,[]⟩:=by unfold Gu;rw[hlx'];simp only[hrp,Xr his];rfl
  have hq:(σ++Kb rs listed)[σ.length+p]?=some ⟨r.t,0,[]⟩:=by
   rw[Zbd (by omega),show σ.length+p-σ.length=p by omega]
   unfold Kb
   rw[List.getElem?_map,hp]
   simp only[Option.map_some,hob0]
  have hφq:φ (σ.length+p)=none:=(hst.made p r hp hlx).2 fun j s' h=>by rw[hrp]at h;injection h with h;injection h with h;subst h;exact hlf
  have hset:=Gq (listed:=listed) hw hp (Xp hrp) hob1
  have hσ:(σ++Kb rs listed).set (σ.length+p) ⟨r.t,r.sz,[]⟩=σ++Kb rs (listed.setIfInBounds i true):=by
   rw[List.set_append_right _ _ (by omega),show σ.length+p-σ.length=p by omega,hset]
  rw[if_pos (by simp[Region.wanted])]
  refine .inl (hmk.2 a w φ _ hG hq hφq (fun x _=>Jx hE x) _ _ fun u w' g hb hg hor hu=>hK _ _ ?_)
  have g1:=A5 hG hb hg hq hφq hor
  have hall:∀t,AV.rel ⟨w',upd φ (σ.length+p) (some g),(σ++Kb rs listed).set (σ.length+p) ⟨r.t,r.sz,[]⟩,C.ok⟩ (E t) (a.tmps.getD t undef):=fun t=>Jq hb hg hq hφq _ _ (hE t)
  refine⟨dfR u,szR u,s3',scl',s4,onlyR fun p' r' hp' hpr' hl=>by simp[AV.only],upd φ (σ.length+p) (some g),by rw[←hσ];exact g1,⟨fun p' r' hp' hl=>?_⟩,by rw[←hσ];exact putJ hall⟩
  by_cases hpp:p'=p
  ·subst hpp
   rw[hp]at hp';injection hp' with hp';subst hp'
   refine⟨fun j s' hpr hj=>?_,fun h=>?_⟩
   ·rw[hrp]at hpr;injection hpr with hpr;injection hpr with e1 e2;subst e2
    rw[←hσ,Wb a s s u (by rw[s2];exact hd s rfl),if_pos rfl]
    exact hu
   ·have:=h i s hrp
    rw[Xr his]at this;cases this
  ·have hno:i∉r'.all:=fun hm=>hpp (hw.one p' r' p r i hp' hp hm (Xp hrp))
   have hri:i≠r'.idx:=fun e=>hno (e▸r'.mem_idx)
   rw[getD_set_ne false hri]at hl
   obtain⟨k1,k2⟩:=hst.made p' r' hp' hl
   refine⟨fun j s' hpr hj=>?_,fun h=>?_⟩
   ·have hij':i≠j:=fun e=>hno (e▸Xp hpr)
    rw[getD_set_ne false hij']at hj
    rw[←hσ,slotR p' r' j s' hp' hpr hij']
    exact Jq hb hg hq hφq _ _ (k1 j s' hpr hj)
   ·rw[Xd (by omega)]
    refine k2 fun j s' hpr=>?_
    have hij':i≠j:=fun e=>hno (e▸Xp hpr)
    have:=h j s' hpr
    rwa [getD_set_ne false hij']at this
 ·
  simp only at hgd hds
  subst hgd;subst hri
  have his:=s3 p r hp _ r.mem_idx
  have hlf:listed.getD r.idx false=false:=getD_both hi0
  have hij:=hw.two p r j s hp hrp
  have hpl:p<rs.length:=(Za5.1 hp).1
  have hlj:listed.getD j false=true:=by
   have:=scl' p r j s hp hrp (Xr his)
   rwa [getD_set_ne false hij]at this
  have hob0:Gu listed r=⟨r.t,r.sz,[]⟩:=by unfold Gu;rw[hlf];simp[hrp,hlj]
  have hq:(σ++Kb rs listed)[σ.length+p]?=some ⟨r.t,r.sz,[]⟩:=by
   rw[Zbd (by omega),show σ.length+p-σ.length=p by omega]
   unfold Kb
   rw[List.getElem?_map,hp]
   simp only[Option.map_some,hob0]
  have hset:=Gq (ob:=r.ob) (listed:=listed) hw hp r.mem_idx (by unfold Gu;rw[Xr his];rfl)
  have hσ:(σ++Kb rs listed).set (σ.length+p) r.ob=σ++Kb rs (listed.setIfInBounds r.idx true):=by
   rw[List.set_append_right _ _ (by omega),show σ.length+p-σ.length=p by omega,hset]
  have hfr:∀(k:Nat) ob,(σ++Kb rs listed)[k]?=some ob→AV.onlys (fun z=>z≠σ.length+p) ob.cs:=fun k ob hk=>by
   rcases List.mem_append.1 (Zba hk) with h|h
   ·exact s4 p r hp (by rw[hrp];rfl) ob h
   ·exact Iw h
  have hE5:=s5 p r hp (by rw[hrp];rfl) hlf
  rw[if_pos (by simp[Region.wanted])]
  refine .inl (hmk a w φ _ hG hq ((hst.made p r hp hlf).1 j s hrp hlj) hfr (fun x _=>Jx hE x) _ _ fun u w' b g1 g2 hu=>hK _ _ ?_)
  have hall:∀t,AV.rel ⟨w',upd φ (σ.length+p) b,(σ++Kb rs listed).set (σ.length+p) r.ob,C.ok⟩ (E t) (a.tmps.getD t undef):=fun t=>AV.rel_keeps g2 _ _ (hE5 t) (hE t)
  have hoth:∀p' r',rs[p']?=some r'→p'≠p→r.idx∉r'.all:=fun p' r' hp' hne hm=>hne (hw.one p' r' p r r.idx hp' hp hm r.mem_idx)
  refine⟨dfR u,szR u,s3',scl',s4,onlyR fun p' r' hp' hpr' hl=>?_,upd φ (σ.length+p) b,by rw[←hσ];exact g1,⟨fun p' r' hp' hl=>?_⟩,by rw[←hσ];exact putR hall hu⟩
  ·have hne:p'≠p:=by
    rintro rfl
    rw[hp]at hp';injection hp' with hp';subst hp'
    rw[Xr his]at hl;cases hl
   simp only[AV.only];omega
  ·by_cases hpp:p'=p
   ·subst hpp
    rw[hp]at hp';injection hp' with hp';subst hp'
    rw[Xr his]at hl;cases hl
   ·have hno:=hoth p' r' hp' hpp
    have hri:r.idx≠r'.idx:=fun e=>hno (e▸r'.mem_idx)
    rw[getD_set_ne false hri]at hl
    obtain⟨k1,k2⟩:=hst.made p' r' hp' hl
    refine⟨fun j' s' hpr hj=>?_,fun h=>?_⟩
    ·have hij':r.idx≠j':=fun e=>hno (e▸Xp hpr)
     rw[getD_set_ne false hij']at hj
     rw[←hσ,slotR p' r' j' s' hp' hpr hij']
     exact AV.rel_keeps g2 _ _ (by simp only[AV.only];omega) (k1 j' s' hpr hj)
    ·rw[Xd (by omega)]
     refine k2 fun j' s' hpr=>?_
     have hij':r.idx≠j':=fun e=>hno (e▸Xp hpr)
     have:=h j' s' hpr
     rwa [getD_set_ne false hij']at this
theorem SimU.mv{i:Nat}{o:Oper}{v:AV}(hw:WfU md ops rs)(hs:SimU C σ rs listed E a w)(ho:ops[i]?=some o)(hd:∀t,o.dst=some t→t<C.n)(hm:isMv o=true)(hmr:∀r∈rs,i∉r.all)
  (hy:YU P C ops σ rs i o v E):∃u,YA P ops o u a∧SimU C σ rs (listed.setIfInBounds i true) (Vx E o.dst v) (a.put o.dst u) w:=by
 obtain⟨s1,s2,s3,scl,s4,s5,φ,hG,hst,hE⟩:=hs
 obtain⟨dst,op,ty,pos,after,g⟩:=o
 obtain⟨t,rfl,rfl⟩:∃t,dst=some t∧g=none:=by
  unfold isMv at hm
  split at hm
  ·rename_i he;injection he with e1 e2 e3 e4 e5 e6;exact⟨_,e1,e6⟩
  ·rename_i he;injection he with e1 e2 e3 e4 e5 e6;exact⟨_,e1,e6⟩
  ·cases hm
 have htn:=hd t rfl
 have hres:=E3 (listed:=listed) hmr
 have hne:∀(p:Nat) r,rs[p]?=some r→i≠r.idx:=fun p r hp e=>hmr r (Zba hp) (e▸r.mem_idx)
 have hnj:∀(p:Nat) r j s,rs[p]?=some r→r.pre=some (j,s)→i≠j:=fun p r j s hp hpr e=>hmr r (Zba hp) (e▸Xp hpr)
 have bad:∀(p:Nat) r,rs[p]?=some r→i∈r.all→False:=fun p r hp hm=>hmr r (Zba hp) hm
 rcases hy with⟨h0,hsg,⟨hg,hv⟩|⟨hg,_⟩⟩|⟨p,r,hp,hri,_⟩|⟨p,r,s,hp,hrp,_⟩|⟨p,r,j,s,hp,hri,_⟩
 ·have hwp:=hv (Kb rs listed) a ⟨w,φ,σ++Kb rs listed,C.ok⟩ hG rfl (fun x _=>Jx hE x) (fun a' w'=>∃u,a'=a.put (some t) u∧AV.rel ⟨w',φ,σ++Kb rs listed,C.ok⟩ v u) (fun _ _ _=>False) fun u w' hb hu=>⟨u,rfl,hu⟩
  rcases isMv_ya (P:=P) (ops:=ops) hm a with⟨u,hya⟩|hno
  ·refine⟨u,hya,?_⟩
   unfold Oper.wp at hwp
   rw[hya.2 w]at hwp
   simp only[Oper.upon]at hwp
   obtain⟨u',he,hu⟩:=hwp
   have hu':u=u':=by
    have h1:=Wb a t t u (by rw[s2];exact htn)
    have h2:=Wb a t t u' (by rw[s2];exact htn)
    rw[if_pos rfl]at h1 h2
    rw[←h1,←h2,he]
   subst hu'
   refine⟨s1,by simp[Act.put,s2],fun p r hp k hk=>by simpa using s3 p r hp k hk,fun p r j s hp hpr hl=>?_,s4,fun p r hp hpr hl s=>?_,φ,by rw[hres];exact hG,⟨fun p r hp hl=>?_⟩,fun s=>?_⟩
   ·rw[getD_set_ne false (hne p r hp)]at hl
    rw[getD_set_ne false (hnj p r j s hp hpr)]
    exact scl p r j s hp hpr hl
   ·rw[getD_set_ne false (hne p r hp)]at hl
    simp only[Vx]
    split
    ·exact(hsg p r hp hpr).resolve_right fun h=>by rw[hm]at h;exact absurd h.1 (by decide)
    ·exact s5 p r hp hpr hl s
   ·rw[getD_set_ne false (hne p r hp)]at hl
    obtain⟨k1,k2⟩:=hst.made p r hp hl
    refine⟨fun j s hpr hj=>?_,fun h=>k2 fun j s hpr=>?_⟩
    ·rw[getD_set_ne false (hnj p r j s hp hpr)]at hj
     rw[hres,Wb a t s u (by rw[s2];exact htn),if_neg fun e=>hnj p r j s hp hpr (hw.slot p r j s hp hpr i _ ho (by rw[e]))]
     exact k1 j s hpr hj
    ·have:=h j s hpr
     rwa [getD_set_ne false (hnj p r j s hp hpr)]at this
   ·rw[hres,Wb a t s u (by rw[s2];exact htn)]
    simp only[Vx]
    split
    ·exact hu
    ·exact hE s
  ·exfalso
   unfold Oper.wp at hwp
   cases hr:(execOp a.eval (⟨some t,op,ty,pos,after,none⟩:Oper)).run P w with
   |ok x w'=>exact(hno w x w').1 hr
   |halt q w'=>
    rw[hr]at hwp
    cases q<;>first|exact hwp|exact(hno w .skip w').2 _ hr
 ·simp[Kr]at hg
 ·exact(bad p r hp (hri▸r.mem_idx)).elim
 ·exact(bad p r hp (Xp hrp)).elim
 ·exact(bad p r hp (hri▸r.mem_idx)).elim
theorem Nn{n g:Nat}{L:Array Bool→EE→Prop}{F:Act→World→Prop}(hpri:∀e∈pri,V6 md ops e=true)(hsel:∀(j:Nat) (o:Oper) cs b,ops[j]?=some o→o.op ≠ .select cs b)(hw:WfU md ops rs)(hpm:∀e∈pri,∀r∈rs,e∉r.all)(hd:∀(i:Nat) o t,ops[i]?=some o→o.dst=some t→t<C.n)
  (hL:∀listed E a w,L listed E→SimU C σ rs listed E a w→wpAny P md ops (nrm F) g listed a w) :
  ∀(f:Nat) (listed:Array Bool) (E:EE) (a:Act) (w:World),SimU C σ rs listed E a w→Mp P C md ops σ rs pri n L f listed E→wpAny P md ops (nrm F) (f+g) listed a w
 |0,listed,E,a,w,hs,h=>by rw[Nat.zero_add];exact hL _ _ _ _ h hs
 |f+1,listed,E,a,w,hs,h=>by
  rw[show f+1+g=(f+g)+1 by omega]
  rcases h with⟨e,he,her,hen,o,v,ho,hy,hK⟩|⟨_,h0,h⟩
  ·obtain⟨hmv,hap⟩:=Q6 ho (hpri e he)
   obtain⟨u,hya,hs'⟩:=SimU.mv hw hs ho (fun t ht=>hd e o t ho ht) hmv (hpm e he) hy
   exact R9 ho hsel _ listed a w hya (fun j oj hj hje hun hno=>hap j oj hj hje hno fun ed hed hb hon=>by
    obtain⟨_,o',ho',hall⟩:=mem_ready.1 her
    have:o'=o:=Option.some.inj (ho'.symm.trans ho)
    subst this
    have h1:=hall ed hed hb
    rw[hon,getD_both hun]at h1
    cases h1) her (Nn hpri hsel hw hpm hd hL f _ _ _ w hs' hK)
  ·refine⟨fun h1=>absurd h1 h0,fun i hi=>?_⟩
   obtain⟨o,v,ho,hy,hK⟩:=(h i hi).2
   exact SimU.op hw hs hi ho (fun t ht=>hd i o t ho ht) hy fun a' w' hs'=>Nn hpri hsel hw hpm hd hL f _ _ a' w' hs' hK
end
def Du(k:Nat×Option (Nat×Nat)):List Nat:=k.1::match k.2 with
 |some p=>[p.1]
 |none=>[]
def wfB(l:List Oper)(pri:List Nat)(n:Nat)(keys:List (Nat×Option (Nat×Nat))):Bool:=
 decide (keys.flatMap Du).Nodup&&(keys.flatMap Du).all (fun i=>decide (i<n) && !pri.contains i)&&keys.all fun k=>match k.2 with
  |none=>true
  |some p=>(match l[k.1]? with
   |some o=>o.after.any fun e=>Region.binds .any e&&decide (e.on=p.1)
   |none=>false)&&(List.range l.length).all fun i=>match l[i]? with
    |some o=>decide (o.dst≠some p.2) || decide (i=p.1)
    |none=>true
theorem nd_flat{κ:Type}{f:κ→List Nat}:∀{l:List κ},(l.flatMap f).Nodup→∀(p:Nat) a (p':Nat) a' i,l[p]?=some a→l[p']?=some a'→i∈f a→i∈f a'→p=p'
 | [],_,p,a,_,_,_,h,_,_,_=>by simp at h
 |x::l,hn,p,a,p',a',i,h,h',hi,hi'=>by
  rw[List.flatMap_cons,List.nodup_append]at hn
  obtain⟨_,h2,h3⟩:=hn
  cases p with
  |zero=>
   cases p' with
   |zero=>rfl
   |succ p'=>
    simp only[List.getElem?_cons_zero,Option.some.injEq,List.getElem?_cons_succ]at h h'
    subst h
    exact absurd rfl (h3 i hi i (List.mem_flatMap.2 ⟨a',Zba h',hi'⟩))
  |succ p=>
   cases p' with
   |zero=>
    simp only[List.getElem?_cons_zero,Option.some.injEq,List.getElem?_cons_succ]at h h'
    subst h'
    exact absurd rfl (h3 i hi' i (List.mem_flatMap.2 ⟨a,Zba h,hi⟩))
   |succ p'=>
    simp only[List.getElem?_cons_succ]at h h'
    rw[nd_flat h2 p a p' a' i h h' hi hi']
theorem nd_in{κ:Type}{f:κ→List Nat}:∀{l:List κ},(l.flatMap f).Nodup→∀a∈l,(f a).Nodup
 | [],_,a,h=>by cases h
 |x::l,hn,a,h=>by
  rw[List.flatMap_cons,List.nodup_append]at hn
  rcases List.mem_cons.1 h with rfl|h
  ·exact hn.1
  ·exact nd_in hn.2.1 a h
def RE.key(r:RE):Nat×Option (Nat×Nat):=(r.idx,r.pre)
theorem RE.all_key(r:RE):r.all=Du r.key:=by
 unfold RE.all Du RE.key
 cases r.pre<;>rfl
theorem wf_of{l:List Oper}{rs:Bw}{pri:List Nat}{n:Nat}{keys:List (Nat×Option (Nat×Nat))}(hk:rs.map RE.key=keys)(h:wfB l pri n keys=true) :
  WfU .any l.toArray rs∧(∀r∈rs,∀i∈r.all,i<n)∧∀e∈pri,∀r∈rs,e∉r.all:=by
 subst hk
 unfold wfB at h
 simp only[Bool.and_eq_true,decide_eq_true_eq]at h
 obtain⟨⟨h1,h2⟩,h3⟩:=h
 have hin:∀r∈rs,∀i∈r.all,i<n∧i∉pri:=fun r hr i hi=>by
  have:=List.all_eq_true.1 h2 i (List.mem_flatMap.2 ⟨r.key,List.mem_map_of_mem hr,r.all_key▸hi⟩)
  simpa using this
 have at_:∀(p:Nat) r,rs[p]?=some r→(rs.map RE.key)[p]?=some r.key:=fun p r hp=>by rw[List.getElem?_map,hp];rfl
 have h4:∀(p:Nat) r j s,rs[p]?=some r→r.pre=some (j,s)→(∃o,l[r.idx]?=some o∧∃e∈o.after,Region.binds .any e=true∧e.on=j)∧∀i o,l[i]?=some o→o.dst=some s→i=j:=by
  intro p r j s hp hpr
  have:=List.all_eq_true.1 h3 r.key (List.mem_map_of_mem (Zba hp))
  simp only[RE.key,hpr,Bool.and_eq_true]at this
  obtain⟨k1,k2⟩:=this
  refine⟨?_,fun i o hi hd=>?_⟩
  ·split at k1
   ·rename_i o ho
    rw[Array.any_eq_true']at k1
    obtain⟨e,he,hb⟩:=k1
    simp only[Bool.and_eq_true,decide_eq_true_eq]at hb
    exact⟨o,ho,e,he,hb.1,hb.2⟩
   ·cases k1
  ·have:=List.all_eq_true.1 k2 i (List.mem_range.2 (Za5.1 hi).1)
   rw[hi]at this
   simp only[Bool.or_eq_true,decide_eq_true_eq]at this
   rcases this with h|h
   ·exact absurd hd h
   ·exact h
 refine⟨⟨fun p r p' r' i hp hp' hm hm'=>nd_flat h1 p r.key p' r'.key i (at_ p r hp) (at_ p' r' hp') (r.all_key▸hm) (r'.all_key▸hm'),fun p r j s hp hpr he=>?_,fun p r j s hp hpr=>?_,fun p r j s hp hpr i o hi hd=>(h4 p r j s hp hpr).2 i o (by simpa using hi) hd⟩,fun r hr i hi=>(hin r hr i hi).1,fun e he r hr hm=>(hin r hr e hm).2 he⟩
 ·have:=nd_in h1 r.key (Zba (at_ p r hp))
  rw[←r.all_key]at this
  unfold RE.all at this
  simp[hpr]at this
  exact this he
 ·obtain⟨o,ho,he⟩:=(h4 p r j s hp hpr).1
  exact⟨o,by simpa using ho,he⟩
theorem Aj{m:Nat}(r:RE):Gu (Array.replicate m false) r=⟨r.t,0,[]⟩:=by
 unfold Gu
 rw[getD_replicate_false]
 simp only[Bool.false_eq_true,if_false]
 split
 ·rw[getD_replicate_false];rfl
 ·rfl
theorem resU_full{rs:Bw}{listed:Array Bool}(h:∀r∈rs,listed.getD r.idx false=true):Kb rs listed=fullU rs:=by
 unfold Kb fullU
 refine List.map_congr_left fun r hr=>?_
 unfold Gu
 rw[if_pos (h r hr)]
section
variable{P:Program}{C:Ctx}{k:List Item}{R:Act→World→Prop}{env:Env}{σ:List Ob}
structure RunsU (P:Program) (C:Ctx) (ops:Array Oper) (rs:Bw) (tail:List Oper) (l:List (Nat×Oper)) (k:List Item) (R:Act→World→Prop) (S:St):Prop where
 run:wpLexV P C ops S.σ rs (fun E=>∃env',E=look env'∧RunsL P C ops tail k R ⟨env',S.σ++fullU rs⟩) l (look S.env)
theorem Za0{id:Nat}{l:List Oper}{cn:Nat}{keys:List (Nat×Option (Nat×Nat))}(pri head:List Nat)(n:Nat)(rs:Bw)(hf:P.follows .mixedOrders=true)(hn:C.n=cn)(hB:A9 l pri head n=true)(hd:Th cn l=true)
  (hk:rs.map RE.key=keys) (hwf:wfB l pri n keys=true)
  (h:RunsU P C l.toArray rs (l.drop n) (pick l head) k R ⟨env,σ⟩):Runs P C (.code (.region id l.toArray true)::k) R ⟨env,σ⟩:=by
 refine⟨fun a w hs=>Vv (wp_region_any hf ?_)⟩
 unfold A9 at hB
 simp only[Bool.and_eq_true,decide_eq_true_eq]at hB
 obtain⟨⟨⟨⟨⟨⟨hsel,hnl⟩,hsk⟩,hch⟩,hlen⟩,hpr⟩,hlex⟩:=hB
 obtain⟨hw,hin,hpm⟩:=wf_of (l:=l) (pri:=pri) (n:=n) hk hwf
 have hpri:∀e∈pri,V6 .any l.toArray e=true:=fun e he=>by have:=List.all_eq_true.1 hpr e he;simp only[Bool.and_eq_true]at this;exact this.2
 have hpn:∀e∈pri,e<n:=fun e he=>by have:=List.all_eq_true.1 hpr e he;simp only[Bool.and_eq_true,decide_eq_true_eq]at this;exact this.1
 obtain⟨s1,s2,φ,hG,hE⟩:=hs
 have hb:Below w.heap.size w {w with drawn:=w.drawn+1}:=⟨rfl,rfl,rfl,Nat.le_refl _,fun _ _=>rfl⟩
 obtain⟨g1,g2⟩:=Y8 hG hb
 let φ0:Nat→Option Nat:=fun i=>if i<σ.length then φ i else none
 have hφ0:∀j,φ0 (σ.length+j)=none:=fun j=>if_neg (by omega)
 have hblank:∀(j:Nat) r,rs[j]?=some r→(Kb rs (Array.replicate l.length false))[j]?=some ⟨r.t,0,[]⟩:=fun j r hj=>by unfold Kb;rw[List.getElem?_map,hj];simp only[Option.map_some,Aj]
 obtain⟨G1,G2⟩:=Um (φ':=φ0) (new:=Kb rs (Array.replicate l.length false)) g1 (Below.refl _ _) (fun i hi=>if_pos hi) (fun j hj g hg=>by rw[hφ0]at hg;cases hg) (fun i j g hi hj e1 e2=>by rw[hφ0]at e1;cases e1) (fun j o hj=>by
  rw[hφ0]
  unfold Kb at hj
  rw[List.getElem?_map,Option.map_eq_some_iff]at hj
  obtain⟨r,_,rfl⟩:=hj
  rw[Aj];rfl)
 have hE1:∀t,AV.rel ⟨{w with drawn:=w.drawn+1},φ0,σ++Kb rs (Array.replicate l.length false),C.ok⟩ (look env t) (a.tmps.getD t undef):=fun t=>AV.rel_keeps G2 _ _ (AV.only_true _) (AV.rel_keeps g2 _ _ (AV.only_true _) (hE t))
 have hplace:∀(p:Nat) r,rs[p]?=some r→(σ++Kb rs (Array.replicate l.length false))[σ.length+p]?=some ⟨r.t,0,[]⟩:=fun p r hp=>by
  rw[Zbd (by omega),show σ.length+p-σ.length=p by omega]
  exact hblank p r hp
 have hdd:∀(i:Nat) o t,l.toArray[i]?=some o→o.dst=some t→t<C.n:=fun i o t hi ht=>by rw[hn];exact Ng hd i o t (by simpa using hi) ht
 have inv0:HeadInv .any l.toArray n (Array.replicate l.length false):=
  ⟨by simp,fun j oj _ hl=>(by rw[getD_replicate_false]at hl;cases hl),fun t _ ht=>getD_in (by simpa using ht) (getD_replicate_false _ _)⟩
 have hmemH:∀p∈pick l head,l.toArray[p.1]?=some p.2:=fun p hp=>by simpa using Q1 hp
 have hsz:l.toArray.size=(pick l head).length+(l.length-n):=by simp;omega
 refine(show ∀m,m=l.toArray.size→wpAny P .any l.toArray (nrm (Fin P k R)) m (Array.replicate l.toArray.size false) a {w with drawn:=w.drawn+1} from ?_) _ rfl
 intro m hm
 obtain rfl:=hm.trans hsz
 have H:=Bz (P:=P) (C:=C) (σ:=σ) (md:=.any) (ops:=l.toArray) (g:=l.length-n) hpri hpn hsk hch (by simpa using hnl) (pick l head) (Array.replicate l.toArray.size false) (look env) hmemH (by simpa using inv0) (by simpa using hlex) h.run
 have hS0:SimU C σ rs (Array.replicate l.length false) (look env) a {w with drawn:=w.drawn+1}:=by
  refine⟨s1,s2,fun p r hp i hi=>?_,fun p r j s hp hpr hl=>?_,fun p r hp hpr o ho=>?_,fun p r hp hpr hl t=>?_,φ0,G1,⟨fun p r hp hl=>⟨fun j s hpr hj=>?_,fun _=>hφ0 p⟩⟩,hE1⟩
  ·have:=hin r (Zba hp) i hi
   simp only[Array.size_replicate];omega
  ·rw[getD_replicate_false]at hl;cases hl
  ·obtain⟨i,hi⟩:=List.getElem?_of_mem ho
   have hil:=(Za5.1 hi).1
   have hob:=G1.ob i o (by rw[show(⟨{w with drawn:=w.drawn+1},φ0,σ++Kb rs (Array.replicate l.length false),C.ok⟩:Mem).σ=σ++Kb rs (Array.replicate l.length false) from rfl,Zbc hil];exact hi)
   refine Su fun j v hj=>?_
   cases hg:φ0 i with
   |none=>simp only[hg,ObRel]at hob;rw[hob]at hj;simp at hj
   |some g=>
    simp only[hg,ObRel]at hob
    obtain⟨us,_,_,q3⟩:=hob
    obtain⟨x,_,_,k3⟩:=q3 j v hj
    exact Lj (hplace p r hp) (hφ0 p) v x k3
  ·exact Lj (hplace p r hp) (hφ0 p) _ _ (hE1 t)
  ·rw[getD_replicate_false]at hj;cases hj
 refine Nn hpri (Region.noSelect_spec hsel) hw hpm hdd (fun listed' E' a'' w'' hL hS=>?_) _ _ (look env) a _ (by simpa using hS0) H
 obtain⟨hsq,hall,env'',rfl,hR⟩:=hL
 have hfl:=resU_full (rs:=rs) (listed:=listed') fun r hr=>hall r.idx (hin r hr _ r.mem_idx)
 obtain⟨u1,u2,_,_,_,_,φ',G',_,hE''⟩:=hS
 rw[hfl]at G' hE''
 have:=wpAny_of_seq (md:=.any) (Q':=nrm (Fin P k R)) (l.drop n) n listed' a'' w'' (fun j=>by simp[List.getElem?_drop]) (by rw[List.length_drop];exact hsq) (hR.run a'' w'' ⟨u1,u2,φ',G',hE''⟩)
 rwa [List.length_drop]at this
theorem J4{id:Nat}{l:List Oper}{k':List Item}{cn:Nat}{keys:List (Nat×Option (Nat×Nat))}(m:Nat)(pri head:List Nat)(n:Nat)(rs:Bw)(hf:P.follows .mixedOrders=true)(hn:C.n=cn)(hc:Proofs.YtnecoghfhcimeaaGreat.ctls m k = .code (.region id l.toArray true)::k')(hB:A9 l pri head n=true)(hd:Th cn l=true)
  (hk:rs.map RE.key=keys) (hwf:wfB l pri n keys=true)
  (h:RunsU P C l.toArray rs (l.drop n) (pick l head) k' R ⟨env,σ⟩):Runs P C k R ⟨env,σ⟩:=Zbf m hc (Za0 pri head n rs hf hn hB hd hk hwf h)
variable{ops:Array Oper}{rs:Bw}{tail:List Oper}{rest:List (Nat×Oper)}{i t:Nat}{o:Oper}
theorem RunsU.nil(h:RunsL P C ops tail k R ⟨env,σ++fullU rs⟩):RunsU P C ops rs tail [] k R ⟨env,σ⟩:=⟨⟨env,rfl,h⟩⟩
theorem RunsU.pur{v:AV}(h:∀more,Pur P C o env (σ++more) v)(hi:((rs.map RE.key).flatMap Du).contains i=false)(hs:Sd rs σ.length o v)(hg:gsay ops env o.guard=some true)(hd:o.dst=some t)(hk:RunsU P C ops rs tail rest k R ⟨(t,v)::env,σ⟩):RunsU P C ops rs tail ((i,o)::rest) k R ⟨env,σ⟩:=by
 refine⟨v,.inl ⟨fun r hr hm=>?_,hs,.inl ⟨hg,fun more=>(h more).toF⟩⟩,?_⟩
 ·have:i∈(rs.map RE.key).flatMap Du:=List.mem_flatMap.2 ⟨r.key,List.mem_map_of_mem hr,r.all_key▸hm⟩
  rw[←List.contains_iff_mem]at this
  rw[this]at hi;cases hi
 ·rw[hd,show(⟨env,σ⟩:St).env=env from rfl,←Vo]
  exact hk.run
theorem RunsU.step{T:Tab}(hT:TabOk P T){v:AV}(hd:o.dst=some t)(hg:gsay ops env o.guard=some true)(h:∀more,aop T env (σ++more) o.op=some v)(hi:((rs.map RE.key).flatMap Du).contains i=false)(hs:Sd rs σ.length o v)(hk:RunsU P C ops rs tail rest k R ⟨(t,v)::env,σ⟩):RunsU P C ops rs tail ((i,o)::rest) k R ⟨env,σ⟩:=by
 obtain⟨dst,op,ty,pos,after,g⟩:=o
 simp only at hd;subst hd
 exact RunsU.pur (fun more=>Yw hT (h more)) hi hs hg rfl hk
theorem RunsU.made{p:Nat}{r:RE}{v:AV}(hr:rs[p]?=some r)(hi:r.idx=i)(hp:r.pre=none)(hg:o.guard=none)(hd:o.dst=some t)(hm:MkN P C o (look env) r.ob (σ.length+p) v)(hk:RunsU P C ops rs tail rest k R ⟨(t,v)::env,σ⟩):RunsU P C ops rs tail ((i,o)::rest) k R ⟨env,σ⟩:=by
 refine⟨v,.inr (.inl ⟨p,r,hr,hi,hp,hg,by rw[hd];rfl,hm⟩),?_⟩
 rw[hd,show(⟨env,σ⟩:St).env=env from rfl,←Vo]
 exact hk.run
theorem RunsU.lay{p:Nat}{r:RE}(hr:rs[p]?=some r)(hp:r.pre=some (i,t))(hg:o.guard=none)(hd:o.dst=some t)(hm:MkN P C o (look env) ⟨r.t,r.sz,[]⟩ (σ.length+p) (.own (σ.length+p)))(hk:RunsU P C ops rs tail rest k R ⟨(t,.junk)::env,σ⟩):RunsU P C ops rs tail ((i,o)::rest) k R ⟨env,σ⟩:=by
 refine⟨.junk,.inr (.inr (.inl ⟨p,r,t,hr,hp,hg,hd,hm,rfl⟩)),?_⟩
 rw[hd,show(⟨env,σ⟩:St).env=env from rfl,←Vo]
 exact hk.run
variable{E:EE}{q:Nat}{ty:TypeId}{pos:String}{after:Array Edge}
end
set_option maxRecDepth 100000 in
instance tb_value:TB Tryz.prog 36 [(0,1),(1,1),(2,1)] [.int .i64 0,.slice none 0 0,.slice none 0 0]:=⟨_,_,_,rfl,rfl,rfl,rfl,by kernel_rfl,by decide⟩
def VldI(d:Des)(r:Int)(v:Tre):Prop:=Kn d r∧Vld d r.toNat v
noncomputable instance (d:Des) (r:Int) (v:Tre):Decidable (VldI d r v):=Classical.propDecidable _
def tb(r:Nat):Nat:=16*4 ^ r
structure MkV (d:Des) (r:Nat) (v:Tre):Prop where
 vld:Vld d r v
 ok:v.Ok
 total:v.total≤tb r
def treRR(v:Tre):RR:=.agg [.ro (.int v.number),.row 5 1 (v.bytes.map RV.u8),.row 36 3 (v.items.flatMap Tre.cells)]
theorem treRR_ok(v:Tre):Seals (treRR v) (Gj v):=by
 have h1:=Qc 5 v.bytes
 have h2:=B9 36 3 v.items Tre.cells fun x _=>Tre.cells_len x
 rw[←List.flatMap_def]at h2
 unfold treRR
 rw[Seals]
 refine⟨_,rfl,?_⟩
 rw[Wc]
 refine⟨_,_,rfl,by rw[Seals],?_⟩
 rw[Wc]
 refine⟨_,_,rfl,h1,?_⟩
 rw[Wc]
 refine⟨_,_,rfl,h2,?_⟩
 rw[Wc]
def rowT(l:List Tre):Ob:=⟨36,3,(l.flatMap Tre.cells).map .ro⟩
theorem harv_tre{σ:List Ob}{v:Tre}{a b:Nat}(h1:σ[a]?=some (rowU v.bytes))(h2:σ[b]?=some (rowT v.items)):Kx σ (treRR v) (.agg [.int v.number,.own a,.own b]) [a,b]:=by
 simp only[treRR,Kx,Vy,rowU,rowT]at *
 exact⟨_,rfl,_,_,[],_,rfl,rfl,⟨rfl,rfl⟩,_,_,[a],_,rfl,rfl,⟨a,rfl,h1,rfl⟩,_,_,[b],_,rfl,rfl,⟨b,rfl,h2,rfl⟩,rfl,rfl⟩
def Ge(p:Tre→Prop)(rr:RR):Prop:=∃v,Seals rr (Gj v)∧p v
theorem N6{p:Tre→Prop}:∀rr,Ge p rr→∃r,Seals rr r∧∃v,r=Gj v∧p v:=by
 rintro _ ⟨v,hs,hv⟩
 exact⟨_,hs,v,rfl,hv⟩
theorem Ue{C:Ctx}{fn:Func}{ct:TypeId}{b:List UInt8}{g:Nat}{u:Value}{p:Tre→Prop}{env:Env}{σ:List Ob}{i h:Int}{more:List Ob}{t j:Nat}{v:Tre}{tt:TypeId}{x y:Nat}(hm:∀x,C.mu x→x=g)(hr:fn.results=#[.cell t 36])(hσ:σ=Yp ct u i h::more)(ht:look env 0 = .pin 0 0 g)(hi:X8 b i)
  (h1:look env t = .obj j 0) (h2:σ[j]?=some ⟨tt,0,[.int v.number,.own x,.own y]⟩) (k1:σ[x]?=some (rowU v.bytes)) (k2:σ[y]?=some (rowT v.items)) (hn:[x,y].Nodup) (h0:0∉[x,y]) (hQ:p v):∀a w,Sim C ⟨env,σ⟩ a w→Hz Tryz.prog C fn ct b g u (Ge p) a w:=
 A8 hm hr hσ ht hi (.agg [.int v.number,.own x,.own y]) (by
  simp only[H3]
  exact⟨j,0,_,h1,h2,.inr ⟨3,by infer_instance,Nat.le_refl _,rfl⟩⟩) (treRR v) [x,y] (harv_tre k1 k2) hn h0 ⟨v,treRR_ok v,hQ⟩
theorem D5{C:Ctx}{fn:Func}{ct:TypeId}{b:List UInt8}{g:Nat}{u:Value}{p:Tre→Prop}{env:Env}{σ:List Ob}{i h:Int}{more:List Ob}{t j:Nat}{v:Tre}{tt:TypeId}{x:Nat}(hm:∀x,C.mu x→x=g)(hr:fn.results=#[.cell t 36])(hσ:σ=Yp ct u i h::more)(ht:look env 0 = .pin 0 0 g)(hi:X8 b i)
  (h1:look env t = .obj j 0) (h2:σ[j]?=some ⟨tt,0,[.int v.number,.own x,.ro (X3 v.items)]⟩) (k1:σ[x]?=some (rowU v.bytes)) (h0:0∉[x]) (hQ:p v):∀a w,Sim C ⟨env,σ⟩ a w→Hz Tryz.prog C fn ct b g u (Ge p) a w:=
 A8 hm hr hσ ht hi (.agg [.int v.number,.own x,.ro (X3 v.items)]) (by
  simp only[H3]
  exact⟨j,0,_,h1,h2,.inr ⟨3,by infer_instance,Nat.le_refl _,rfl⟩⟩) (.agg [.ro (.int v.number),.row 5 1 (v.bytes.map RV.u8),.ro (X3 v.items)]) [x] (by
  simp only[Kx,Vy,rowU]at *
  exact⟨_,rfl,_,_,[],_,rfl,rfl,⟨rfl,rfl⟩,_,_,[x],_,rfl,rfl,⟨x,rfl,k1,rfl⟩,_,_,[],_,rfl,rfl,⟨rfl,rfl⟩,rfl,rfl⟩) (by simp) h0 ⟨v,by
  have h1:=Qc 5 v.bytes
  rw[Seals]
  refine⟨_,rfl,?_⟩
  rw[Wc]
  refine⟨_,_,rfl,by rw[Seals],?_⟩
  rw[Wc]
  refine⟨_,_,rfl,h1,?_⟩
  rw[Wc]
  refine⟨_,_,rfl,by rw[Seals],?_⟩
  rw[Wc],hQ⟩
theorem pow8_ge{s:Int}(h:1≤s∧s≤4):256≤Bs s:=by
 rcases(show s=1∨s=2∨s=3∨s=4 by omega) with rfl|rfl|rfl|rfl<;>decide
theorem mk_number{d:Des}{r:Nat}{x:Rul}(hx:d[r]?=some x)(k:x.kind=1)(hs:1≤x.size∧x.size≤4){n:Int}(h:0≤n∧n<mn (Bs x.size) 70000):MkV d r (.mk n [] []):=by
 have h1:n≤Bs x.size-1∧n<70000:=by unfold mn at h;split at h<;>omega
 refine⟨(Eq hx).2 ⟨?_,by simp[Tre.items]⟩,by simp[Tre.Ok,Tre.OkL,I64,maxLen];omega,by simp[Tre.total,Tre.totalL]⟩
 unfold Nl
 rw[if_pos k]
 exact⟨⟨h.1,h1.1⟩,rfl,rfl⟩
set_option maxHeartbeats 8000000 in
theorem l9Make1_d(b:List UInt8)(hb:b.length≤1048576)(d:Des)(hD:DrawD d)(r:Nat)(x:Rul)(hx:d[(r:Int).toNat]?=some x)(k:x.kind=1)(most:Int):Drw Tryz.prog 60 25 b [X1 d,.int (r:Int),.int most] (Ge (MkV d r)):=by
 have hx':d[r]?=some x:=hx
 obtain⟨k',_,_,hr,hk',_,_⟩:=hD.kinds hx'
 have hs:1≤x.size∧x.size≤4:=by have:=hr.hsize.1 (by omega);omega
 have hP:=Lm x.size hs
 have hM:=T7 (Bs x.size) 70000
 refine Ys Tryz.func25 rfl _ Tryz.ntmps25 (by simp) fun C g u i h hn hm hu hi=>?_
 have hp:1≤mn (Bs x.size) 70000∧mn (Bs x.size) 70000≤70000:=by have:=pow8_ge hs;unfold mn;split<;>omega
 repeat' (first
|(refine Yt (Yr b hb _ (by omega)) rfl hu hi rfl (Z6 [.int _]) rfl (by first|rfl|repeat' (first|rfl|exact Z0 _|refine Zt ?_ ?_)) (tl hn rfl) ?_;intro i h y hi hy;obtain⟨hya,hyb⟩:=hy.2 (by omega))
|refine Zbg Zk hn rfl ?_
|refine Zbh ?_
|refine Za 30 rfl ?_
|(refine Zc hn rfl rfl rfl ?_;first
|refine⟨_,Zi hP rfl,?_⟩
|refine⟨_,Zi hM rfl,?_⟩
|refine⟨_,Z2 rfl,?_⟩)
|(refine Zbf 30 rfl ?_;first|(refine Zd rfl ?_ ?_;·first|omega|rfl|assumption)|refine Zbe (Zj hm rfl rfl ?_)|exact Zbe (Zf hm rfl rfl rfl (nbT rfl) rfl rfl))
|refine Zs rfl (tl hn rfl) ?_
|refine Z5 rfl rfl rfl rfl (nbT rfl) ?_
|refine Zx (tl hn rfl) ?_
|refine Zr rfl rfl rfl rfl (nbT rfl) ?_
|(refine Zc hn rfl rfl rfl ?_;first
|refine⟨_,Zb rfl rfl (by omega) (by assumption),?_⟩)
  )
 refine Z4 (e:=5) (sz:=1) 2 1 (by decide) rfl rfl ?_
 refine Z4 (e:=36) (sz:=3) 2 2 (by decide) rfl rfl ?_
 exact Zbf 30 rfl (Zbe (Ue (v:=.mk y [] []) (j:=2) (x:=5) (y:=6) hm rfl rfl rfl hi rfl rfl rfl rfl (by decide) (by decide) (mk_number hx' k hs ⟨hya,hyb⟩)))
theorem Di{d:Des}{r:Nat}{x:Rul}(hx:d[r]?=some x){l:List UInt8}(hl:l.length≤10)(ho:Nl d x (.mk 0 l [])):MkV d r (.mk 0 l []):=by
 have h4:0<4 ^ r:=Nat.pow_pos (by omega)
 exact⟨(Eq hx).2 ⟨ho,by simp[Tre.items]⟩,by simp[Tre.Ok,Tre.OkL,I64,maxLen];omega,by simp[Tre.total,Tre.totalL,tb];omega⟩
set_option maxHeartbeats 8000000 in
theorem l9Make2_d(b:List UInt8)(hb:b.length≤1048576)(d:Des)(hD:DrawD d)(r:Nat)(x:Rul)(hx:d[(r:Int).toNat]?=some x)(k:x.kind=2)(most:Int):Drw Tryz.prog 60 25 b [X1 d,.int (r:Int),.int most] (Ge (MkV d r)):=by
 have hx':d[r]?=some x:=hx
 refine Ys Tryz.func25 rfl _ Tryz.ntmps25 (by simp) fun C g u i h hn hm hu hi=>?_
 repeat' (first
|refine Zbg Zk hn rfl ?_
|refine Zbh ?_
|refine Za 30 rfl ?_
|(refine Zc hn rfl rfl rfl ?_;first
|refine⟨_,Z2 rfl,?_⟩)
|(refine Zbf 30 rfl ?_;first|(refine Ze rfl ?_ ?_;·first|omega|rfl|assumption)|refine Zbe (Zj hm rfl rfl ?_)|exact Zbe (Zf hm rfl rfl rfl (nbT rfl) rfl rfl))
|refine Zs rfl (tl hn rfl) ?_
|refine Zx (tl hn rfl) ?_
|refine Zr rfl rfl rfl rfl (nbT rfl) ?_
|(refine Zc hn rfl rfl rfl ?_;first
|refine⟨_,Zb rfl rfl (by omega) (by assumption),?_⟩)
  )
 refine Z4 (e:=5) (sz:=1) 2 1 (by decide) rfl rfl ?_
 refine Z4 (e:=36) (sz:=3) 2 2 (by decide) rfl rfl ?_
 exact Zbf 30 rfl (Zbe (Ue (v:=.mk 0 [] []) (j:=2) (x:=5) (y:=6) hm rfl rfl rfl hi rfl rfl rfl rfl (by decide) (by decide) (Di hx' (by simp) (by unfold Nl;rw[if_neg (by omega),if_pos k];exact⟨rfl,rfl,rfl⟩))))
set_option maxHeartbeats 8000000 in
theorem l9Make3_d(b:List UInt8)(hb:b.length≤1048576)(d:Des)(hD:DrawD d)(r:Nat)(x:Rul)(hx:d[(r:Int).toNat]?=some x)(k:x.kind=3)(most:Int):Drw Tryz.prog 60 25 b [X1 d,.int (r:Int),.int most] (Ge (MkV d r)):=by
 have hx':d[r]?=some x:=hx
 obtain⟨k',_,_,hr,hk',_,_⟩:=hD.kinds hx'
 have hs:1≤x.size∧x.size≤4:=hr.hsize.2.1 (by omega)
 obtain⟨n3,hn3⟩:∃n3:Nat,x.size=n3:=⟨x.size.toNat,by omega⟩
 have hB:=Kl b hb n3 (by omega)
 rw[←hn3]at hB
 refine Ys Tryz.func25 rfl _ Tryz.ntmps25 (by simp) fun C g u i h hn hm hu hi=>?_
 repeat' (first
|(refine K1 hB rfl hu hi rfl rfl rfl (by first|rfl|repeat' (first|rfl|exact Z0 _|refine Zt ?_ ?_)) (tl hn rfl) ?_;rintro i h _ hi ⟨z,rfl,hz⟩)
|refine Zbg Zk hn rfl ?_
|refine Zbh ?_
|refine Za 30 rfl ?_
|(refine Zc hn rfl rfl rfl ?_;first
|refine⟨_,Z2 rfl,?_⟩)
|(refine Zbf 30 rfl ?_;first|(refine Zd rfl ?_ ?_;·first|omega|rfl|assumption)|(refine Ze rfl ?_ ?_;·first|omega|rfl|assumption)|refine Zbe (Zj hm rfl rfl ?_)|exact Zbe (Zf hm rfl rfl rfl (nbT rfl) rfl rfl))
|refine Zs rfl (tl hn rfl) ?_
|refine Z5 rfl rfl rfl rfl (nbT rfl) ?_
|refine Zx (tl hn rfl) ?_
|refine Zr rfl rfl rfl rfl (nbT rfl) ?_
|(refine Zc hn rfl rfl rfl ?_;first
|refine⟨_,Zb rfl rfl (by omega) (by assumption),?_⟩)
  )
 refine Z4 (e:=36) (sz:=3) 2 2 (by decide) rfl rfl ?_
 exact Zbf 30 rfl (Zbe (Ue (v:=.mk 0 z []) (j:=2) (x:=5) (y:=6) hm rfl rfl rfl hi rfl rfl rfl rfl (by decide) (by decide) (Di hx' (by omega) (by unfold Nl;rw[if_neg (by omega),if_neg (by omega),if_pos k];exact⟨rfl,by show(z.length:Int)=_;omega,rfl⟩))))
set_option maxHeartbeats 8000000 in
theorem l9Make4_d(b:List UInt8)(hb:b.length≤1048576)(d:Des)(hD:DrawD d)(r:Nat)(x:Rul)(hx:d[(r:Int).toNat]?=some x)(k:x.kind=4)(most:Int)(hmo:0≤most):Drw Tryz.prog 60 25 b [X1 d,.int (r:Int),.int most] (Ge (MkV d r)):=by
 have hx':d[r]?=some x:=hx
 obtain⟨k',_,_,hr,hk',_,_⟩:=hD.kinds hx'
 obtain⟨x0,hI,hkd⟩:=hr.hkids.1 (by omega)
 have hlim:=hD.int hI.up.1
 have hM:=T7 most 6
 have hm6:0≤mn most 6∧mn most 6≤6:=by unfold mn;split<;>omega
 refine Ys Tryz.func25 rfl _ Tryz.ntmps25 (by simp) fun C g u i h hn hm hu hi=>?_
 repeat' (first
|(refine Yt (Yr b hb _ (by omega)) rfl hu hi rfl (Z6 [.int _]) rfl (by first|rfl|repeat' (first|rfl|exact Z0 _|refine Zt ?_ ?_)) (tl hn rfl) ?_;intro i h y hi hy;obtain⟨n3,rfl,hn3⟩:∃n3:Nat,y=n3∧n3≤6:=⟨y.toNat,by unfold Bel at hy;omega,by unfold Bel at hy;omega⟩)
|(refine K1 (Kl b hb n3 (by omega)) rfl hu hi rfl rfl rfl (by first|rfl|repeat' (first|rfl|exact Z0 _|refine Zt ?_ ?_)) (tl hn rfl) ?_;rintro i h _ hi ⟨z,rfl,hz⟩)
|refine Zbg Zk hn rfl ?_
|refine Zbh ?_
|refine Za 30 rfl ?_
|(refine Zc hn rfl rfl rfl ?_;first
|refine⟨_,Z2 rfl,?_⟩
|refine⟨_,Zi hM rfl,?_⟩)
|(refine Zbf 30 rfl ?_;first|refine Zg rfl ?_|refine Zm rfl ?_|(refine Zd rfl ?_ ?_;·first|omega|rfl|assumption)|(refine Ze rfl ?_ ?_;·first|omega|rfl|assumption)|refine Zbe (Zj hm rfl rfl ?_)|exact Zbe (Zf hm rfl rfl rfl (nbT rfl) rfl rfl))
|refine Zs rfl (tl hn rfl) ?_
|refine Z5 rfl rfl rfl rfl (nbT rfl) ?_
|refine Zx (tl hn rfl) ?_
|refine Zr rfl rfl rfl rfl (nbT rfl) ?_
|(refine Zc hn rfl rfl rfl ?_;first
|refine⟨_,Zq rfl rfl (by omega),?_⟩
|refine⟨_,Zb rfl rfl (by omega) (by assumption),?_⟩)
|(refine Zh rfl rfl rfl ?_ ?_<;>intro h<;>try(exfalso;first|omega|contradiction)))
 refine Z4 (e:=36) (sz:=3) 2 2 (by decide) rfl rfl ?_
 exact Zbf 30 rfl (Zbe (Ue (v:=.mk 0 z []) (j:=2) (x:=5) (y:=6) hm rfl rfl rfl hi rfl rfl rfl rfl (by decide) (by decide) (Di hx' (by omega) (by
  unfold Nl;rw[if_neg (by omega),if_neg (by omega),if_neg (by omega),if_pos k]
  refine⟨rfl,?_,rfl⟩
  show(z.length:Int)≤_
  rw[hkd]
  show(z.length:Int)≤mn 400 (lim d x0)
  unfold mn;split<;>omega))))
theorem MkV.bound{d:Des}{r q:Nat}{v:Tre}(h:MkV d q v)(hq:q<r):4*v.total≤tb r:=by
 have h1:=h.total
 have h2:4 ^ (q+1)≤4 ^ r:=Nat.pow_le_pow_right (by omega) hq
 unfold tb at *
 rw[Nat.pow_succ]at h2
 omega
theorem mk_one{d:Des}{r q:Nat}{x:Rul}(hx:d[r]?=some x){v:Tre}(hv:MkV d q v)(hq:q<r)(ho:Nl d x (.mk 0 [] [v]))(hi:Xb x 0 0=q):MkV d r (.mk 0 [] [v]):=by
 have hb:=hv.bound hq
 have h4:0<4 ^ r:=Nat.pow_pos (by omega)
 refine⟨(Eq hx).2 ⟨ho,fun i y hy=>?_⟩,?_,?_⟩
 ·have hi0:i=0:=by
   have:=(Za5.1 hy).1
   simp[Tre.items]at this;omega
  subst hi0
  simp[Tre.items]at hy
  subst hy
  show Vld d (Xb x 0 0).toNat v
  rw[hi];exact hv.vld
 ·simp only[Tre.Ok,Tre.OkL];exact⟨by unfold I64;omega,by simp[maxLen],by simp[maxLen],hv.ok,trivial⟩
 ·simp only[Tre.total,Tre.totalL,Za9,Za8]
  have:16≤tb r:=by unfold tb;omega
  omega
set_option maxHeartbeats 8000000 in
theorem l9Make9_d(b:List UInt8)(hb:b.length≤1048576)(d:Des)(hD:DrawD d)(r:Nat)(x:Rul)(hx:d[(r:Int).toNat]?=some x)(k:x.kind=9)(most:Int)(hmo:0≤most∧most≤1048576)
  (ih:∀q:Nat,q<r→∀m:Int,0≤m∧m≤1048576→Drw Tryz.prog 60 25 b [X1 d,.int (q:Int),.int m] (Ge (MkV d q))):Drw Tryz.prog 60 25 b [X1 d,.int (r:Int),.int most] (Ge (MkV d r)):=by
 have hx':d[r]?=some x:=hx
 obtain⟨k',_,_,hr,hk',_,_⟩:=hD.kinds hx'
 obtain⟨z,hz,hkd⟩:=hr.hkids.2.2.2.2.1 (by omega)
 have hzr:=hD.kid hx' z (by rw[hkd];simp)
 obtain⟨q,rfl⟩:∃q:Nat,z=q:=⟨z.toNat,by omega⟩
 have hk0:x.kids[(0:Int).toNat]?=some (q:Int):=by rw[hkd];rfl
 have hI:=ih q (by omega) (most / 2) (by omega)
 refine Ys Tryz.func25 rfl _ Tryz.ntmps25 (by simp) fun C g u i h hn hm hu hi=>?_
 repeat' (first
|refine Xo (id:=31) 30 [0,1,2,3,4,5,6,7] [8,9,10,11] Yc rfl rfl (by kernel_rfl) (by kernel_rfl) (by kernel_rfl) ?_
|(refine V8 (t:=174) hI N6 rfl hu hi rfl rfl (by first|rfl|repeat' (first|rfl|exact Z0 _|refine Zt ?_ ?_)) (tl hn rfl) ?_;rintro i h _ hi ⟨v,rfl,hv⟩)
|refine RunsH.pur (fun _ _=>Yw Zk rfl) rfl (tl hn rfl) rfl ?_
|refine RunsH.pur (fun _ _=>Z2 rfl) rfl (tl hn rfl) rfl ?_
|refine RunsH.pur (fun _ _=>Qe rfl rfl (by omega)) rfl (tl hn rfl) rfl ?_
|refine RunsH.pur (fun _ _=>Zw rfl rfl rfl rfl rfl rfl) rfl (tl hn rfl) rfl ?_
|refine RunsH.pur (fun _ _=>Zb rfl rfl (by omega) (by assumption)) rfl (tl hn rfl) rfl ?_
|refine RunsH.pur (fun _ _=>Zw rfl rfl rfl rfl rfl rfl) rfl (tl hn rfl) rfl ?_
|refine RunsH.nil ?_
|refine RunsP.pur (Yw Zk rfl) rfl rfl (tl hn rfl) (by first|rfl|repeat' (first|rfl|exact Z0 _|refine Zt ?_ ?_)) ?_
|refine RunsP.pur (Z2 rfl) rfl rfl (tl hn rfl) (by first|rfl|repeat' (first|rfl|exact Z0 _|refine Zt ?_ ?_)) ?_
|refine RunsP.pur (Qe rfl rfl (by omega)) rfl rfl (tl hn rfl) (by first|rfl|repeat' (first|rfl|exact Z0 _|refine Zt ?_ ?_)) ?_
|refine RunsP.pur (Zw rfl rfl rfl rfl rfl rfl) rfl rfl (tl hn rfl) (by first|rfl|repeat' (first|rfl|exact Z0 _|refine Zt ?_ ?_)) ?_
|refine RunsP.pur (Zb rfl rfl (by omega) (by assumption)) rfl rfl (tl hn rfl) (by first|rfl|repeat' (first|rfl|exact Z0 _|refine Zt ?_ ?_)) ?_
|refine RunsP.pur (Zw rfl rfl rfl rfl rfl rfl) rfl rfl (tl hn rfl) (by first|rfl|repeat' (first|rfl|exact Z0 _|refine Zt ?_ ?_)) ?_
|refine Zbg Zk hn rfl ?_
|refine Zbh ?_
|refine Za 30 rfl ?_
|refine X2 11 rfl (nbT rfl) (by kernel_rfl) (by kernel_rfl) ?_
|(refine Zc hn rfl rfl rfl ?_;first
|refine⟨_,Z2 rfl,?_⟩
|refine⟨_,Qe rfl rfl (by omega),?_⟩
|refine⟨_,Zw rfl rfl rfl rfl rfl rfl,?_⟩)
|(refine Zbf 30 rfl ?_;first|(refine Zd rfl ?_ ?_;·first|omega|rfl|assumption)|(refine Ze rfl ?_ ?_;·first|omega|rfl|assumption)|refine Zbe (Zj hm rfl rfl ?_)|exact Zbe (Zf hm rfl rfl rfl (nbT rfl) rfl rfl))
|refine Zs rfl (tl hn rfl) ?_
|refine Z5 rfl rfl rfl rfl (nbT rfl) ?_
|refine Zx (tl hn rfl) ?_
|refine Zr rfl rfl rfl rfl (nbT rfl) ?_
|(refine Zc hn rfl rfl rfl ?_;first
|refine⟨_,Zb rfl rfl (by omega) (by assumption),?_⟩
|refine⟨_,Zw rfl rfl rfl rfl rfl rfl,?_⟩)
  )
 refine Z4 (e:=5) (sz:=1) 2 1 (by decide) rfl rfl ?_
 have hv1:X3 [v] = .seq 3 [[.int v.number,Ya v.bytes,X3 v.items]]:=by unfold X3;simp[Tre.cells_eq,X3]
 refine Zbf 30 rfl (Zbe (D5 (tt:=36) (v:=.mk 0 [] [v]) (j:=2) (x:=5) hm rfl rfl rfl hi rfl ?_ rfl (by decide) (mk_one hx' hv (by omega) ?_ ?_)))
 ·show _=some (Ob.mk _ _ [_,_,AV.ro (X3 [v])])
  rw[hv1];rfl
 ·unfold Nl
  rw[if_neg (by omega),if_neg (by omega),if_neg (by omega),if_neg (by omega),if_neg (by omega),if_neg (by omega),if_neg (by omega),if_neg (by omega),if_neg (by omega)]
  exact⟨rfl,rfl,rfl⟩
 ·unfold Xb
  rw[if_neg (by omega),if_neg (by omega),if_neg (by omega),if_pos (.inr k),hkd];rfl
theorem ACo.data{P:Program}{f:FuncId}{args:List RV}{ov:OV}{r:RV}(h:ACo P f args ov)(hs:OV.Seal ov r):ACv P f args r:=
 fun w ok us h0 hu=>(h w us (RV.rels_mono ⟨Nat.le_refl _,fun b _ hb=>⟨trivial,rfl⟩⟩ _ _ hu)).mono fun _ _ ⟨u,bs,e,h1,h2,h3,h4⟩=>⟨u,.ro r,[],e,rfl,by
  simp only[RR.rel]
  exact⟨OV.seal_rel _ _ _ _ hs h1 fun b hb=>⟨h0 b (h3 b hb).1,by simp⟩,trivial⟩,by simp,by simp,h4⟩
theorem Tj(l:List Tre):(l.flatMap Tre.cells).length=l.length*3:=by
 induction l with
 |nil=>rfl
 |cons x l ih=>rw[List.flatMap_cons,Za7,ih,Tre.cells_len,Za8];omega
theorem P4{d:Des}{r:Nat}{x:Rul}{n:Int}{vs:List Tre}(hx:d[r]?=some x)(hn:I64 n)(hl:vs.length≤3)
  (hv:∀(i:Nat) y,vs[i]?=some y→∃q:Nat,q<r∧Xb x n i=q∧MkV d q y) (ho:Nl d x (.mk n [] vs)):MkV d r (.mk n [] vs):=by
 have h4:0<4 ^ r:=Nat.pow_pos (by omega)
 have hm:∀y∈vs,∃q:Nat,q<r∧MkV d q y:=fun y hy=>by
  obtain⟨i,hi⟩:=List.getElem?_of_mem hy
  obtain⟨q,h1,_,h2⟩:=hv i y hi
  exact⟨q,h1,h2⟩
 refine⟨(Eq hx).2 ⟨ho,fun i y hy=>?_⟩,?_,?_⟩
 ·obtain⟨q,h1,h2,h3⟩:=hv i y hy
  show Vld d (Xb x n i).toNat y
  rw[h2];exact h3.vld
 ·simp only[Tre.Ok]
  refine⟨hn,by simp[maxLen],by unfold maxLen;omega,Tre.OkL_iff.2 fun y hy=>?_⟩
  obtain⟨q,_,h⟩:=hm y hy
  exact h.ok
 ·have hs:=La Tre.total (4*4 ^ r) vs fun y hy=>by
   obtain⟨q,h1,h2⟩:=hm y hy
   have h3:=h2.bound h1
   unfold tb at h3;omega
  have he:=Tre.total_eq (.mk n [] vs)
  have hle:vs.length*(4*4 ^ r)≤3*(4*4 ^ r):=Nat.mul_le_mul_right _ hl
  simp only[Tre.bytes,Tre.items,Za9]at he
  unfold tb
  omega
theorem ownV8{d:Des}{x:Rul}{l:List Tre}(k:x.kind=8)(h:l.length≤1):Nl d x (.mk 0 [] l):=by
 unfold Nl
 rw[if_neg (by omega),if_neg (by omega),if_neg (by omega),if_neg (by omega),if_neg (by omega),if_neg (by omega),if_neg (by omega),if_neg (by omega),if_pos k]
 exact⟨rfl,rfl,h⟩
set_option maxHeartbeats 8000000 in
theorem l9Make8_d(b:List UInt8)(hb:b.length≤1048576)(d:Des)(hD:DrawD d)(r:Nat)(x:Rul)(hx:d[(r:Int).toNat]?=some x)(k:x.kind=8)(most:Int)(hmo:0≤most∧most≤1048576)
  (ih:∀q:Nat,q<r→∀m:Int,0≤m∧m≤1048576→Drw Tryz.prog 60 25 b [X1 d,.int (q:Int),.int m] (Ge (MkV d q))):Drw Tryz.prog 60 25 b [X1 d,.int (r:Int),.int most] (Ge (MkV d r)):=by
 have hx':d[r]?=some x:=hx
 obtain⟨k',_,_,hr,hk',_,_⟩:=hD.kinds hx'
 obtain⟨z,hz,hkd⟩:=hr.hkids.2.2.2.2.1 (by omega)
 have hzr:=hD.kid hx' z (by rw[hkd];simp)
 obtain⟨q,rfl⟩:∃q:Nat,z=q:=⟨z.toNat,by omega⟩
 have hk0:x.kids[(0:Int).toNat]?=some (q:Int):=by rw[hkd];rfl
 have hI:=ih q (by omega) (most / 2) (by omega)
 refine Ys Tryz.func25 rfl _ Tryz.ntmps25 (by simp) fun C g u i h hn hm hu hi=>?_
 repeat' (first
|(refine T9 (Ee b hb 2 (by decide)) rfl hu hi rfl (Z6 [.int 2]) rfl (by first|rfl|repeat' (first|rfl|exact Z0 _|refine Zt ?_ ?_)) (tl hn rfl) ?_;intro i h y hi;cases y)
|refine Xo (id:=29) 30 [0,1,2,3,4,5,6,7] [8,9,10,11] Yc rfl rfl (by kernel_rfl) (by kernel_rfl) (by kernel_rfl) ?_
|(refine V8 (t:=161) hI N6 rfl hu hi rfl rfl (by first|rfl|repeat' (first|rfl|exact Z0 _|refine Zt ?_ ?_)) (tl hn rfl) ?_;rintro i h _ hi ⟨v,rfl,hv⟩)
|refine RunsH.pur (fun _ _=>Yw Zk rfl) rfl (tl hn rfl) rfl ?_
|refine RunsH.pur (fun _ _=>Z2 rfl) rfl (tl hn rfl) rfl ?_
|refine RunsH.pur (fun _ _=>Qe rfl rfl (by omega)) rfl (tl hn rfl) rfl ?_
|refine RunsH.pur (fun _ _=>Zw rfl rfl rfl rfl rfl rfl) rfl (tl hn rfl) rfl ?_
|refine RunsH.pur (fun _ _=>Zb rfl rfl (by omega) (by assumption)) rfl (tl hn rfl) rfl ?_
|refine RunsH.pur (fun _ _=>Zw rfl rfl rfl rfl rfl rfl) rfl (tl hn rfl) rfl ?_
|refine RunsH.nil ?_
|refine RunsP.pur (Yw Zk rfl) rfl rfl (tl hn rfl) (by first|rfl|repeat' (first|rfl|exact Z0 _|refine Zt ?_ ?_)) ?_
|refine RunsP.pur (Z2 rfl) rfl rfl (tl hn rfl) (by first|rfl|repeat' (first|rfl|exact Z0 _|refine Zt ?_ ?_)) ?_
|refine RunsP.pur (Qe rfl rfl (by omega)) rfl rfl (tl hn rfl) (by first|rfl|repeat' (first|rfl|exact Z0 _|refine Zt ?_ ?_)) ?_
|refine RunsP.pur (Zw rfl rfl rfl rfl rfl rfl) rfl rfl (tl hn rfl) (by first|rfl|repeat' (first|rfl|exact Z0 _|refine Zt ?_ ?_)) ?_
|refine RunsP.pur (Zb rfl rfl (by omega) (by assumption)) rfl rfl (tl hn rfl) (by first|rfl|repeat' (first|rfl|exact Z0 _|refine Zt ?_ ?_)) ?_
|refine RunsP.pur (Zw rfl rfl rfl rfl rfl rfl) rfl rfl (tl hn rfl) (by first|rfl|repeat' (first|rfl|exact Z0 _|refine Zt ?_ ?_)) ?_
|refine Zbg Zk hn rfl ?_
|refine Zbh ?_
|refine Za 30 rfl ?_
|refine X2 11 rfl (nbT rfl) (by kernel_rfl) (by kernel_rfl) ?_
|(refine Zc hn rfl rfl rfl ?_;first
|refine⟨_,Z2 rfl,?_⟩
|refine⟨_,Qe rfl rfl (by omega),?_⟩
|refine⟨_,Zw rfl rfl rfl rfl rfl rfl,?_⟩)
|(refine Zbf 30 rfl ?_;first|refine Zg rfl ?_|refine Zm rfl ?_|(refine Zd rfl ?_ ?_;·first|omega|rfl|assumption)|(refine Ze rfl ?_ ?_;·first|omega|rfl|assumption)|refine Zbe (Zj hm rfl rfl ?_)|exact Zbe (Zf hm rfl rfl rfl (nbT rfl) rfl rfl))
|refine Zs rfl (tl hn rfl) ?_
|refine Z5 rfl rfl rfl rfl (nbT rfl) ?_
|refine Zx (tl hn rfl) ?_
|refine Zr rfl rfl rfl rfl (nbT rfl) ?_
|(refine Zc hn rfl rfl rfl ?_;first
|refine⟨_,Zb rfl rfl (by omega) (by assumption),?_⟩
|refine⟨_,Zw rfl rfl rfl rfl rfl rfl,?_⟩)
  )
 ·refine Z4 (e:=5) (sz:=1) 2 1 (by decide) rfl rfl ?_
  refine Z4 (e:=36) (sz:=3) 2 2 (by decide) rfl rfl ?_
  exact Zbf 30 rfl (Zbe (Ue (v:=.mk 0 [] []) (j:=2) (x:=5) (y:=6) hm rfl rfl rfl hi rfl rfl rfl rfl (by decide) (by decide) (Di hx' (by simp) (ownV8 k (by simp)))))
 ·refine Z4 (e:=5) (sz:=1) 2 1 (by decide) rfl rfl ?_
  have hv1:X3 [v] = .seq 3 [[.int v.number,Ya v.bytes,X3 v.items]]:=by unfold X3;simp[Tre.cells_eq,X3]
  refine Zbf 30 rfl (Zbe (D5 (tt:=36) (v:=.mk 0 [] [v]) (j:=2) (x:=5) hm rfl rfl rfl hi rfl ?_ rfl (by decide) (mk_one hx' hv (by omega) (ownV8 k (by simp)) ?_)))
  ·show _=some (Ob.mk _ _ [_,_,AV.ro (X3 [v])])
   rw[hv1];rfl
  ·unfold Xb
   rw[if_neg (by omega),if_neg (by omega),if_neg (by omega),if_pos (.inl k),hkd];rfl
set_option maxHeartbeats 8000000 in
theorem l9Make7_d(b:List UInt8)(hb:b.length≤1048576)(d:Des)(hD:DrawD d)(r:Nat)(x:Rul)(hx:d[(r:Int).toNat]?=some x)(k:x.kind=7)(most:Int)(hmo:0≤most∧most≤1048576)
  (ih:∀q:Nat,q<r→∀m:Int,0≤m∧m≤1048576→Drw Tryz.prog 60 25 b [X1 d,.int (q:Int),.int m] (Ge (MkV d q))):Drw Tryz.prog 60 25 b [X1 d,.int (r:Int),.int most] (Ge (MkV d r)):=by
 have hx':d[r]?=some x:=hx
 obtain⟨k',_,_,hr,hk',_,_⟩:=hD.kinds hx'
 obtain⟨z,kl,hz,hkl,hkz,hkd⟩:=hr.hkids.2.2.2.1 (by omega)
 obtain⟨ht1,ht3,htg⟩:=hr.htags.1 (by omega)
 have htl:(x.tags.map fun z=>[RV.int z]).length=x.tags.length:=lmT ..
 have hki:∀j:Nat,j<x.tags.length→∃q:Nat,q<r∧x.kids[((j:Int)+1).toNat]?=some (q:Int):=fun j hj=>by
  have hj2:j<kl.length:=by omega
  have hm:=List.getElem_mem hj2
  have hb2:=hD.kid hx' kl[j] (by rw[hkd];exact List.mem_cons_of_mem _ hm)
  refine⟨(kl[j]).toNat,by omega,?_⟩
  have e:((j:Int)+1).toNat=j+1:=by omega
  rw[e,hkd,List.getElem?_cons_succ,Za6 hj2]
  congr 1;omega
 refine Ys Tryz.func25 rfl _ Tryz.ntmps25 (by simp) fun C g u i h hn hm hu hi=>?_
 repeat' (first
|(refine Yt (Yr b hb _ (by omega)) rfl hu hi rfl (Z6 [.int _]) rfl (by first|rfl|repeat' (first|rfl|exact Z0 _|refine Zt ?_ ?_)) (tl hn rfl) ?_;intro i h y hi hy;have hyB:=hy.2 (by omega);obtain⟨n3,rfl,hn3⟩:∃n3:Nat,y=n3∧n3<x.tags.length:=⟨y.toNat,by omega,by omega⟩;obtain⟨tg,htgx⟩:∃tg,x.tags[(n3:Int).toNat]?=some tg:=⟨_,Za6 hn3⟩;obtain⟨q,hqr,hkq⟩:=hki n3 hn3;have hI:=ih q hqr (most / 2) (by omega))
|refine Xo (id:=26) 30 [0,1,2,3,4,5,6,7,8,9] [10,11,12,13] Yc rfl rfl (by kernel_rfl) (by kernel_rfl) (by kernel_rfl) ?_
|(refine V8 (t:=146) hI N6 rfl hu hi rfl rfl (by first|rfl|repeat' (first|rfl|exact Z0 _|refine Zt ?_ ?_)) (tl hn rfl) ?_;rintro i h _ hi ⟨v,rfl,hv⟩)
|refine RunsH.pur (fun _ _=>Yw Zk rfl) rfl (tl hn rfl) rfl ?_
|refine RunsH.pur (fun _ _=>Zu x.tags.length rfl htl) rfl (tl hn rfl) rfl ?_
|refine RunsH.pur (fun _ _=>Z2 rfl) rfl (tl hn rfl) rfl ?_
|refine RunsH.pur (fun _ _=>Qe rfl rfl (by omega)) rfl (tl hn rfl) rfl ?_
|refine RunsH.pur (fun _ _=>Zq rfl rfl (by omega)) rfl (tl hn rfl) rfl ?_
|refine RunsH.pur (fun _ _=>Zw rfl rfl rfl rfl rfl rfl) rfl (tl hn rfl) rfl ?_
|refine RunsH.pur (fun _ _=>Zq rfl rfl (by omega)) rfl (tl hn rfl) rfl ?_
|refine RunsH.pur (fun _ _=>Zb rfl rfl (by omega) (by assumption)) rfl (tl hn rfl) rfl ?_
|refine RunsH.pur (fun _ _=>Zw rfl rfl rfl rfl rfl rfl) rfl (tl hn rfl) rfl ?_
|refine RunsH.nil ?_
|refine RunsP.pur (Yw Zk rfl) rfl rfl (tl hn rfl) (by first|rfl|repeat' (first|rfl|exact Z0 _|refine Zt ?_ ?_)) ?_
|refine RunsP.pur (Zu x.tags.length rfl htl) rfl rfl (tl hn rfl) (by first|rfl|repeat' (first|rfl|exact Z0 _|refine Zt ?_ ?_)) ?_
|refine RunsP.pur (Z2 rfl) rfl rfl (tl hn rfl) (by first|rfl|repeat' (first|rfl|exact Z0 _|refine Zt ?_ ?_)) ?_
|refine RunsP.pur (Qe rfl rfl (by omega)) rfl rfl (tl hn rfl) (by first|rfl|repeat' (first|rfl|exact Z0 _|refine Zt ?_ ?_)) ?_
|refine RunsP.pur (Zq rfl rfl (by omega)) rfl rfl (tl hn rfl) (by first|rfl|repeat' (first|rfl|exact Z0 _|refine Zt ?_ ?_)) ?_
|refine RunsP.pur (Zw rfl rfl rfl rfl rfl rfl) rfl rfl (tl hn rfl) (by first|rfl|repeat' (first|rfl|exact Z0 _|refine Zt ?_ ?_)) ?_
|refine RunsP.pur (Zq rfl rfl (by omega)) rfl rfl (tl hn rfl) (by first|rfl|repeat' (first|rfl|exact Z0 _|refine Zt ?_ ?_)) ?_
|refine RunsP.pur (Zb rfl rfl (by omega) (by assumption)) rfl rfl (tl hn rfl) (by first|rfl|repeat' (first|rfl|exact Z0 _|refine Zt ?_ ?_)) ?_
|refine RunsP.pur (Zw rfl rfl rfl rfl rfl rfl) rfl rfl (tl hn rfl) (by first|rfl|repeat' (first|rfl|exact Z0 _|refine Zt ?_ ?_)) ?_
|(refine Zc hn rfl rfl rfl ?_;first
|refine⟨_,Zu x.tags.length rfl htl,?_⟩)
|refine Zbg Zk hn rfl ?_
|refine Zbh ?_
|refine Za 30 rfl ?_
|refine X2 13 rfl (nbT rfl) (by kernel_rfl) (by kernel_rfl) ?_
|(refine Zc hn rfl rfl rfl ?_;first
|refine⟨_,Z2 rfl,?_⟩
|refine⟨_,Qe rfl rfl (by omega),?_⟩
|refine⟨_,Zq rfl rfl (by omega),?_⟩
|refine⟨_,Zw rfl rfl rfl rfl rfl rfl,?_⟩)
|(refine Zbf 30 rfl ?_;first|(refine Zd rfl ?_ ?_;·first|omega|rfl|assumption|(simp only[lmT];omega))|(refine Ze rfl ?_ ?_;·first|omega|rfl|assumption|(simp only[lmT];omega))|refine Zbe (Zj hm rfl rfl ?_)|exact Zbe (Zf hm rfl rfl rfl (nbT rfl) rfl rfl))
|refine Zs rfl (tl hn rfl) ?_
|refine Z5 rfl rfl rfl rfl (nbT rfl) ?_
|refine Zx (tl hn rfl) ?_
|refine Zr rfl rfl rfl rfl (nbT rfl) ?_
|(refine Zc hn rfl rfl rfl ?_;first
|refine⟨_,Zq rfl rfl (by omega),?_⟩
|refine⟨_,Zb rfl rfl (by omega) (by assumption),?_⟩
|refine⟨_,Zw rfl rfl rfl rfl rfl rfl,?_⟩)
  )
 refine Z4 (e:=5) (sz:=1) 2 1 (by decide) rfl rfl ?_
 have hv1:X3 [v] = .seq 3 [[.int v.number,Ya v.bytes,X3 v.items]]:=by unfold X3;simp[Tre.cells_eq,X3]
 have htgb:=htg n3 tg htgx
 have hti:Xb x tg 0=q:=by
  unfold Xb
  rw[if_neg (by omega),if_neg (by omega),if_pos k,Et htgx fun k2 t2 hk2 ht2 e=>by have:=htg k2 t2 ht2;omega]
  have e:((n3:Int)+1).toNat=n3+1:=by omega
  rw[e]at hkq
  rw[Int.toNat_natCast,hkq];rfl
 refine Zbf 30 rfl (Zbe (D5 (tt:=36) (v:=.mk tg [] [v]) (j:=2) (x:=5) hm rfl rfl rfl hi rfl ?_ rfl (by decide) (P4 hx' (by constructor<;>omega) (by simp) (fun i y hy=>?_) ?_)))
 ·show _=some (Ob.mk _ _ [_,_,AV.ro (X3 [v])])
  rw[hv1];rfl
 ·obtain rfl:i=0:=by
   have:=(Za5.1 hy).1
   simp at this;omega
  simp at hy
  subst hy
  exact⟨q,hqr,hti,hv⟩
 ·unfold Nl
  rw[if_neg (by omega),if_neg (by omega),if_neg (by omega),if_neg (by omega),if_neg (by omega),if_neg (by omega),if_neg (by omega),if_pos k]
  exact⟨rfl,rfl,by show 0≤Xb x tg 0;omega⟩
theorem O1(l:List Tre)(v:Tre):(l.flatMap Tre.cells++[[RV.int v.number,Ya v.bytes,X3 v.items]].flatten)=(l++[v]).flatMap Tre.cells:=by
 rw[List.flatMap_append]
 simp[Tre.cells_eq,X3]
def mkS(d:Des)(x:Rul)(u:Value)(i h:Int)(l:List Tre):List Ob:=[Yp 60 u i h,⟨26,0,[.ro (Wa d)]⟩,⟨36,0,[.int 0,.nil,.nil]⟩,⟨78,0,(Xz x).map .ro⟩,⟨36,0,[.int 0,.nil,.own 5]⟩,⟨36,3,(l.flatMap Tre.cells).map .ro⟩]
set_option maxHeartbeats 8000000 in
theorem l9Make5_d(b:List UInt8)(hb:b.length≤1048576)(d:Des)(hD:DrawD d)(r:Nat)(x:Rul)(hx:d[(r:Int).toNat]?=some x)(k:x.kind=5)(most:Int)(hmo:0≤most∧most≤1048576)
  (ih:∀q:Nat,q<r→∀m:Int,0≤m∧m≤1048576→Drw Tryz.prog 60 25 b [X1 d,.int (q:Int),.int m] (Ge (MkV d q))):Drw Tryz.prog 60 25 b [X1 d,.int (r:Int),.int most] (Ge (MkV d r)):=by
 have hx':d[r]?=some x:=hx
 obtain⟨k',_,_,hr,hk',_,_⟩:=hD.kinds hx'
 obtain⟨x0,z,hI0,hz,hkd⟩:=hr.hkids.2.1 (by omega)
 have hzr:=hD.kid hx' z (by rw[hkd];simp)
 have hlim:=hD.int hI0.up.1
 obtain⟨q,rfl⟩:∃q:Nat,z=q:=⟨z.toNat,by omega⟩
 have hk1:x.kids[(1:Int).toNat]?=some (q:Int):=by rw[hkd];rfl
 have hI:=ih q (by omega) (most / 2) (by omega)
 have hM:=T7 most 3
 have hm3:0≤mn most 3∧mn most 3≤3:=by unfold mn;split<;>omega
 refine Ys Tryz.func25 rfl _ Tryz.ntmps25 (by simp) fun C g u i h hn hm hu hi=>?_
 repeat' (first
|(refine Yt (Yr b hb _ (by omega)) rfl hu hi rfl (Z6 [.int _]) rfl (by first|rfl|repeat' (first|rfl|exact Z0 _|refine Zt ?_ ?_)) (tl hn rfl) ?_;intro i h y hi hy;obtain⟨c,rfl,hc⟩:∃c:Nat,y=c∧c≤3:=⟨y.toNat,by unfold Bel at hy;omega,by unfold Bel at hy;omega⟩)
|refine Zbg Zk hn rfl ?_
|refine Zbh ?_
|refine Za 30 rfl ?_
|(refine Zc hn rfl rfl rfl ?_;first
|refine⟨_,Zi hM rfl,?_⟩
|refine⟨_,Z2 rfl,?_⟩
|refine⟨_,Zq rfl rfl (by omega),?_⟩)
|(refine Zbf 30 rfl ?_;first|(refine Zd rfl ?_ ?_;·first|omega|rfl|assumption)|(refine Ze rfl ?_ ?_;·first|omega|rfl|assumption)|refine Zbe (Zj hm rfl rfl ?_)|exact Zbe (Zf hm rfl rfl rfl (nbT rfl) rfl rfl))
|refine Zs rfl (tl hn rfl) ?_
|refine Z5 rfl rfl rfl rfl (nbT rfl) ?_
|refine Zx (tl hn rfl) ?_
|refine Zr rfl rfl rfl rfl (nbT rfl) ?_
|(refine Zc hn rfl rfl rfl ?_;first
|refine⟨_,Zq rfl rfl (by omega),?_⟩
|refine⟨_,Zb rfl rfl (by omega) (by assumption),?_⟩
|refine⟨_,Z7 rfl rfl (by omega),?_⟩
|refine⟨_,Zw rfl rfl rfl rfl rfl rfl,?_⟩)
  )
 refine Z4 (e:=36) (sz:=3) 4 2 (by decide) rfl rfl ?_
 refine W5 30 rfl (fun m E s=>∃(l:List Tre) (i h:Int),l.length+m=c∧(∀y∈l,MkV d q y)∧X8 b i∧E=[(0,.pin 0 0 g),(3,.int most),(5,.obj 1 0),(8,.obj 2 0),(9,.obj 3 0),(10,.obj 4 0),(11,.int m)]∧s=mkS d x u i h l) c [(0,.pin 0 0 g),(3,.int most),(5,.obj 1 0),(8,.obj 2 0),(9,.obj 3 0),(10,.obj 4 0),(11,.int c)] ⟨rfl,rfl,rfl,rfl,rfl,rfl,rfl,trivial⟩ ⟨[],i,h,by simp,by simp,hi,rfl,rfl⟩ fun m E s ⟨l,i,h,hlc,hl,hi,hE,hs⟩ next=>?_
 subst hE;subst hs
 by_cases hm0:0<m
 ·repeat' (first
|refine Xo (id:=17) 30 [0,1,2,3,4,5,6,7,8,9] [10,11,12,13,14] Yc rfl rfl (by kernel_rfl) (by kernel_rfl) (by kernel_rfl) ?_
|(refine V8 (t:=95) hI N6 rfl hu hi rfl rfl (by first|rfl|repeat' (first|rfl|exact Z0 _|refine Zt ?_ ?_)) (tl hn rfl) ?_;rintro i h _ hi ⟨v,rfl,hv⟩)
|refine RunsH.pur (fun _ _=>Yw Zk rfl) rfl (tl hn rfl) rfl ?_
|refine RunsH.pur (fun _ _=>Qe rfl rfl (by omega)) rfl (tl hn rfl) rfl ?_
|refine RunsH.pur (fun _ _=>Zw rfl rfl rfl rfl rfl rfl) rfl (tl hn rfl) rfl ?_
|refine RunsH.pur (fun _ _=>Zq rfl rfl (by omega)) rfl (tl hn rfl) rfl ?_
|refine RunsH.pur (fun _ _=>Zb rfl rfl (by omega) (by assumption)) rfl (tl hn rfl) rfl ?_
|refine RunsH.pur (fun _ _=>Z7 rfl rfl (by omega)) rfl (tl hn rfl) rfl ?_
|refine RunsH.pur (fun _ _=>Zw rfl rfl rfl rfl rfl rfl) rfl (tl hn rfl) rfl ?_
|refine RunsH.nil ?_
|refine RunsP.pur (Yw Zk rfl) rfl rfl (tl hn rfl) (by first|rfl|repeat' (first|rfl|exact Z0 _|refine Zt ?_ ?_)) ?_
|refine RunsP.pur (Qe rfl rfl (by omega)) rfl rfl (tl hn rfl) (by first|rfl|repeat' (first|rfl|exact Z0 _|refine Zt ?_ ?_)) ?_
|refine RunsP.pur (Zw rfl rfl rfl rfl rfl rfl) rfl rfl (tl hn rfl) (by first|rfl|repeat' (first|rfl|exact Z0 _|refine Zt ?_ ?_)) ?_
|refine RunsP.pur (Zq rfl rfl (by omega)) rfl rfl (tl hn rfl) (by first|rfl|repeat' (first|rfl|exact Z0 _|refine Zt ?_ ?_)) ?_
|refine RunsP.pur (Zb rfl rfl (by omega) (by assumption)) rfl rfl (tl hn rfl) (by first|rfl|repeat' (first|rfl|exact Z0 _|refine Zt ?_ ?_)) ?_
|refine RunsP.pur (Z7 rfl rfl (by omega)) rfl rfl (tl hn rfl) (by first|rfl|repeat' (first|rfl|exact Z0 _|refine Zt ?_ ?_)) ?_
|refine RunsP.pur (Zw rfl rfl rfl rfl rfl rfl) rfl rfl (tl hn rfl) (by first|rfl|repeat' (first|rfl|exact Z0 _|refine Zt ?_ ?_)) ?_
|refine Zbg Zk hn rfl ?_
|refine Zbh ?_
|refine Za 30 rfl ?_
|refine X2 12 rfl (nbT rfl) (by kernel_rfl) (by kernel_rfl) ?_
|(refine Zc hn rfl rfl rfl ?_;first
|refine⟨_,Qe rfl rfl (by omega),?_⟩
|refine⟨_,Zw rfl rfl rfl rfl rfl rfl,?_⟩)
|(refine Zbf 30 rfl ?_;first|(refine Zd rfl ?_ ?_;·first|omega|rfl|assumption)|(refine Ze rfl ?_ ?_;·first|omega|rfl|assumption)|refine Zbe (Zj hm rfl rfl ?_)|exact Zbe (Zf hm rfl rfl rfl (nbT rfl) rfl rfl))
|refine Zs rfl (tl hn rfl) ?_
|refine Z5 rfl rfl rfl rfl (nbT rfl) ?_
|refine Zx (tl hn rfl) ?_
|refine Zr rfl rfl rfl rfl (nbT rfl) ?_
|(refine Zc hn rfl rfl rfl ?_;first
|refine⟨_,Zq rfl rfl (by omega),?_⟩
|refine⟨_,Zb rfl rfl (by omega) (by assumption),?_⟩
|refine⟨_,Z7 rfl rfl (by omega),?_⟩
|refine⟨_,Zw rfl rfl rfl rfl rfl rfl,?_⟩)
  )
  refine RunsL.junk 4 2 rfl (Yl (t:=97) (i:=5) (n:=l.length) (rs:=l.flatMap Tre.cells) (els:=[[.int v.number,Ya v.bytes,X3 v.items]]) rfl rfl rfl rfl rfl rfl (Tj l) (FreeI.at_ (i:=5) ⟨by simp[Yp,AV.onlys,AV.only],by simp[AV.onlys,AV.only],by simp[AV.onlys,AV.only],Yg _ _,by simp[AV.onlys,AV.only],Yg _ _,trivial⟩) (by simp;omega) (by simp;omega) (tl hn rfl) ?_)
  repeat' (first
|refine Zbg Zk hn rfl ?_
|refine Zbh ?_
|refine Za 30 rfl ?_
|(refine Zbf 30 rfl ?_;first|(refine Zd rfl ?_ ?_;·first|omega|rfl|assumption)|(refine Ze rfl ?_ ?_;·first|omega|rfl|assumption)|refine Zbe (Zj hm rfl rfl ?_)|exact Zbe (Zf hm rfl rfl rfl (nbT rfl) rfl rfl))
|refine Zs rfl (tl hn rfl) ?_
|refine Z5 rfl rfl rfl rfl (nbT rfl) ?_
|refine Zx (tl hn rfl) ?_
|refine Zr rfl rfl rfl rfl (nbT rfl) ?_
|(refine Zc hn rfl rfl rfl ?_;first
|refine⟨_,Zq rfl rfl (by omega),?_⟩
|refine⟨_,Zb rfl rfl (by omega) (by assumption),?_⟩
|refine⟨_,Z7 rfl rfl (by omega),?_⟩
|refine⟨_,Zw rfl rfl rfl rfl rfl rfl,?_⟩)
   )
  refine next (m-1) _ _ _ (by omega) ⟨l++[v],i,h,by simp;omega,fun y hy=>?_,hi,rfl,?_⟩ ⟨rfl,rfl,rfl,rfl,rfl,rfl,?_,trivial⟩
  ·rcases List.mem_append.1 hy with h1|h1
   ·exact hl y h1
   ·simp at h1;subst h1;exact hv
  ·unfold mkS
   rw[←O1]
   rfl
  ·show AV.int _=AV.int _
   congr 1;omega
 ·have em:m=0:=by omega
  repeat' (first
|refine Zbg Zk hn rfl ?_
|refine Zbh ?_
|refine Za 30 rfl ?_
|(refine Zbf 30 rfl ?_;first|(refine Zd rfl ?_ ?_;·first|omega|rfl|assumption)|(refine Ze rfl ?_ ?_;·first|omega|rfl|assumption)|refine Zbe (Zj hm rfl rfl ?_)|exact Zbe (Zf hm rfl rfl rfl (nbT rfl) rfl rfl))
|refine Zs rfl (tl hn rfl) ?_
|refine Z5 rfl rfl rfl rfl (nbT rfl) ?_
|refine Zx (tl hn rfl) ?_
|refine Zr rfl rfl rfl rfl (nbT rfl) ?_
|(refine Zc hn rfl rfl rfl ?_;first
|refine⟨_,Zq rfl rfl (by omega),?_⟩
|refine⟨_,Zb rfl rfl (by omega) (by assumption),?_⟩
|refine⟨_,Z7 rfl rfl (by omega),?_⟩
|refine⟨_,Zw rfl rfl rfl rfl rfl rfl,?_⟩)
   )
  refine Z4 (e:=5) (sz:=1) 2 1 (by decide) rfl rfl ?_
  refine Zbf 30 rfl (Zbe (Ue (v:=.mk 0 [] l) (j:=2) (x:=6) (y:=5) hm rfl rfl rfl hi rfl rfl rfl rfl (by decide) (by decide) (P4 hx' (by constructor<;>omega) (by omega) (fun i y hy=>⟨q,by omega,?_,hl y (Zba hy)⟩) ?_)))
  ·unfold Xb
   rw[if_pos k,hkd];rfl
  ·unfold Nl
   rw[if_neg (by omega),if_neg (by omega),if_neg (by omega),if_neg (by omega),if_neg (by omega),if_pos k]
   refine⟨rfl,rfl,?_⟩
   show(l.length:Int)≤_
   rw[hkd]
   show(l.length:Int)≤mn 40 (lim d x0)
   unfold mn;split<;>omega
set_option maxHeartbeats 8000000 in
theorem l9Make6_d(b:List UInt8)(hb:b.length≤1048576)(d:Des)(hD:DrawD d)(r:Nat)(x:Rul)(hx:d[(r:Int).toNat]?=some x)(k:x.kind=6)(most:Int)(hmo:0≤most∧most≤1048576)
  (ih:∀q:Nat,q<r→∀m:Int,0≤m∧m≤1048576→Drw Tryz.prog 60 25 b [X1 d,.int (q:Int),.int m] (Ge (MkV d q))):Drw Tryz.prog 60 25 b [X1 d,.int (r:Int),.int most] (Ge (MkV d r)):=by
 have hx':d[r]?=some x:=hx
 obtain⟨k',_,_,hr,hk',_,_⟩:=hD.kinds hx'
 obtain⟨hkl,hkz⟩:=hr.hkids.2.2.1 (by omega)
 have hnl:=hr.hnames.1 (by omega)
 have hkk:(x.kids.map fun z=>[RV.int z]).length=x.kids.length:=lmT ..
 refine Ys Tryz.func25 rfl _ Tryz.ntmps25 (by simp) fun C g u i h hn hm hu hi=>?_
 repeat' (first
|refine Zbg Zk hn rfl ?_
|refine Zbh ?_
|refine Za 30 rfl ?_
|(refine Zc hn rfl rfl rfl ?_;first
|refine⟨_,Z2 rfl,?_⟩)
|(refine Zbf 30 rfl ?_;first|(refine Zd rfl ?_ ?_;·first|omega|rfl|assumption|(simp only[lmT];omega))|(refine Ze rfl ?_ ?_;·first|omega|rfl|assumption|(simp only[lmT];omega))|refine Zbe (Zj hm rfl rfl ?_)|exact Zbe (Zf hm rfl rfl rfl (nbT rfl) rfl rfl))
|refine Zs rfl (tl hn rfl) ?_
|refine Z5 rfl rfl rfl rfl (nbT rfl) ?_
|refine Zx (tl hn rfl) ?_
|refine Zr rfl rfl rfl rfl (nbT rfl) ?_
|(refine Zc hn rfl rfl rfl ?_;first
|refine⟨_,Zq rfl rfl (by omega),?_⟩
|refine⟨_,Zb rfl rfl (by omega) (by assumption),?_⟩
|refine⟨_,Zw rfl rfl rfl rfl rfl rfl,?_⟩)
  )
 refine Z4 (e:=36) (sz:=3) 4 2 (by decide) rfl rfl ?_
 refine W5 30 rfl (fun m E s=>∃(l:List Tre) (i h:Int),l.length+m=x.kids.length∧(∀(j:Nat) y,l[j]?=some y→∃q:Nat,q<r∧x.kids[j]?=some (q:Int)∧MkV d q y)∧X8 b i∧E=[(0,.pin 0 0 g),(3,.int most),(5,.obj 1 0),(8,.obj 2 0),(9,.obj 3 0),(10,.obj 4 0),(12,.int l.length)]∧s=mkS d x u i h l) x.kids.length [(0,.pin 0 0 g),(3,.int most),(5,.obj 1 0),(8,.obj 2 0),(9,.obj 3 0),(10,.obj 4 0),(12,.int 0)] ⟨rfl,rfl,rfl,rfl,rfl,rfl,rfl,trivial⟩ ⟨[],i,h,by simp,by simp,hi,rfl,rfl⟩ fun m E s ⟨l,i,h,hlc,hl,hi,hE,hs⟩ next=>?_
 subst hE;subst hs
 by_cases hm0:0<m
 ·obtain⟨z,hz⟩:∃z,x.kids[(l.length:Int).toNat]?=some z:=⟨_,Za6 (by omega)⟩
  have hz':x.kids[l.length]?=some z:=hz
  have hzr:=hD.kid hx' z (Zba hz')
  obtain⟨q,rfl⟩:∃q:Nat,z=q:=⟨z.toNat,by omega⟩
  have hI:=ih q (by omega) (most / 2) (by omega)
  repeat' (first
|refine Xo (id:=22) 30 [0,1,2,3,4,5,6,7,8,9,10] [11,12,13,14,15] Yc rfl rfl (by kernel_rfl) (by kernel_rfl) (by kernel_rfl) ?_
|(refine V8 (t:=119) hI N6 rfl hu hi rfl rfl (by first|rfl|repeat' (first|rfl|exact Z0 _|refine Zt ?_ ?_)) (tl hn rfl) ?_;rintro i h _ hi ⟨v,rfl,hv⟩)
|refine RunsH.pur (fun _ _=>Yw Zk rfl) rfl (tl hn rfl) rfl ?_
|refine RunsH.pur (fun _ _=>Zu x.kids.length rfl hkk) rfl (tl hn rfl) rfl ?_
|refine RunsH.pur (fun _ _=>Qe rfl rfl (by omega)) rfl (tl hn rfl) rfl ?_
|refine RunsH.pur (fun _ _=>Zw rfl rfl rfl rfl rfl rfl) rfl (tl hn rfl) rfl ?_
|refine RunsH.pur (fun _ _=>Zq rfl rfl (by omega)) rfl (tl hn rfl) rfl ?_
|refine RunsH.pur (fun _ _=>Zb rfl rfl (by omega) (by assumption)) rfl (tl hn rfl) rfl ?_
|refine RunsH.pur (fun _ _=>Zw rfl rfl rfl rfl rfl rfl) rfl (tl hn rfl) rfl ?_
|refine RunsH.nil ?_
|refine RunsP.pur (Yw Zk rfl) rfl rfl (tl hn rfl) (by first|rfl|repeat' (first|rfl|exact Z0 _|refine Zt ?_ ?_)) ?_
|refine RunsP.pur (Zu x.kids.length rfl hkk) rfl rfl (tl hn rfl) (by first|rfl|repeat' (first|rfl|exact Z0 _|refine Zt ?_ ?_)) ?_
|refine RunsP.pur (Qe rfl rfl (by omega)) rfl rfl (tl hn rfl) (by first|rfl|repeat' (first|rfl|exact Z0 _|refine Zt ?_ ?_)) ?_
|refine RunsP.pur (Zw rfl rfl rfl rfl rfl rfl) rfl rfl (tl hn rfl) (by first|rfl|repeat' (first|rfl|exact Z0 _|refine Zt ?_ ?_)) ?_
|refine RunsP.pur (Zq rfl rfl (by omega)) rfl rfl (tl hn rfl) (by first|rfl|repeat' (first|rfl|exact Z0 _|refine Zt ?_ ?_)) ?_
|refine RunsP.pur (Zb rfl rfl (by omega) (by assumption)) rfl rfl (tl hn rfl) (by first|rfl|repeat' (first|rfl|exact Z0 _|refine Zt ?_ ?_)) ?_
|refine RunsP.pur (Zw rfl rfl rfl rfl rfl rfl) rfl rfl (tl hn rfl) (by first|rfl|repeat' (first|rfl|exact Z0 _|refine Zt ?_ ?_)) ?_
|(refine Zc hn rfl rfl rfl ?_;first
|refine⟨_,Zu x.kids.length rfl hkk,?_⟩)
|refine Zbg Zk hn rfl ?_
|refine Zbh ?_
|refine Za 30 rfl ?_
|refine X2 13 rfl (nbT rfl) (by kernel_rfl) (by kernel_rfl) ?_
|(refine Zc hn rfl rfl rfl ?_;first
|refine⟨_,Qe rfl rfl (by omega),?_⟩
|refine⟨_,Zw rfl rfl rfl rfl rfl rfl,?_⟩)
|(refine Zbf 30 rfl ?_;first|(refine Zd rfl ?_ ?_;·first|omega|rfl|assumption|(simp only[lmT];omega))|(refine Ze rfl ?_ ?_;·first|omega|rfl|assumption|(simp only[lmT];omega))|refine Zbe (Zj hm rfl rfl ?_)|exact Zbe (Zf hm rfl rfl rfl (nbT rfl) rfl rfl))
|refine Zs rfl (tl hn rfl) ?_
|refine Z5 rfl rfl rfl rfl (nbT rfl) ?_
|refine Zx (tl hn rfl) ?_
|refine Zr rfl rfl rfl rfl (nbT rfl) ?_
|(refine Zc hn rfl rfl rfl ?_;first
|refine⟨_,Zq rfl rfl (by omega),?_⟩
|refine⟨_,Zb rfl rfl (by omega) (by assumption),?_⟩
|refine⟨_,Zw rfl rfl rfl rfl rfl rfl,?_⟩)
   )
  refine RunsL.junk 4 2 rfl (Yl (t:=121) (i:=5) (n:=l.length) (rs:=l.flatMap Tre.cells) (els:=[[.int v.number,Ya v.bytes,X3 v.items]]) rfl rfl rfl rfl rfl rfl (Tj l) (FreeI.at_ (i:=5) ⟨by simp[Yp,AV.onlys,AV.only],by simp[AV.onlys,AV.only],by simp[AV.onlys,AV.only],Yg _ _,by simp[AV.onlys,AV.only],Yg _ _,trivial⟩) (by simp;omega) (by simp;omega) (tl hn rfl) ?_)
  repeat' (first
|refine Zbg Zk hn rfl ?_
|refine Zbh ?_
|refine Za 30 rfl ?_
|(refine Zbf 30 rfl ?_;first|(refine Zd rfl ?_ ?_;·first|omega|rfl|assumption|(simp only[lmT];omega))|(refine Ze rfl ?_ ?_;·first|omega|rfl|assumption|(simp only[lmT];omega))|refine Zbe (Zj hm rfl rfl ?_)|exact Zbe (Zf hm rfl rfl rfl (nbT rfl) rfl rfl))
|refine Zs rfl (tl hn rfl) ?_
|refine Z5 rfl rfl rfl rfl (nbT rfl) ?_
|refine Zx (tl hn rfl) ?_
|refine Zr rfl rfl rfl rfl (nbT rfl) ?_
|(refine Zc hn rfl rfl rfl ?_;first
|refine⟨_,Zq rfl rfl (by omega),?_⟩
|refine⟨_,Zb rfl rfl (by omega) (by assumption),?_⟩
|refine⟨_,Zw rfl rfl rfl rfl rfl rfl,?_⟩)
   )
  refine next (m-1) _ _ _ (by omega) ⟨l++[v],i,h,by simp;omega,fun j y hy=>?_,hi,rfl,?_⟩ ⟨rfl,rfl,rfl,rfl,rfl,rfl,?_,trivial⟩
  ·rw[List.getElem?_append]at hy
   split at hy
   ·exact hl j y hy
   ·have hj':j-l.length=0:=by
     have:=(Za5.1 hy).1
     simp at this;omega
    rw[hj']at hy
    simp at hy
    subst hy
    have:j=l.length:=by omega
    subst this
    exact⟨q,by omega,hz',hv⟩
  ·unfold mkS
   rw[←O1]
   rfl
  ·show AV.int _=AV.int _
   congr 1;simp
 ·have em:m=0:=by omega
  repeat' (first
|(refine Zc hn rfl rfl rfl ?_;first
|refine⟨_,Zu x.kids.length rfl hkk,?_⟩)
|refine Zbg Zk hn rfl ?_
|refine Zbh ?_
|refine Za 30 rfl ?_
|(refine Zbf 30 rfl ?_;first|(refine Zd rfl ?_ ?_;·first|omega|rfl|assumption|(simp only[lmT];omega))|(refine Ze rfl ?_ ?_;·first|omega|rfl|assumption|(simp only[lmT];omega))|refine Zbe (Zj hm rfl rfl ?_)|exact Zbe (Zf hm rfl rfl rfl (nbT rfl) rfl rfl))
|refine Zs rfl (tl hn rfl) ?_
|refine Z5 rfl rfl rfl rfl (nbT rfl) ?_
|refine Zx (tl hn rfl) ?_
|refine Zr rfl rfl rfl rfl (nbT rfl) ?_
|(refine Zc hn rfl rfl rfl ?_;first
|refine⟨_,Zq rfl rfl (by omega),?_⟩
|refine⟨_,Zb rfl rfl (by omega) (by assumption),?_⟩
|refine⟨_,Zw rfl rfl rfl rfl rfl rfl,?_⟩)
   )
  refine Z4 (e:=5) (sz:=1) 2 1 (by decide) rfl rfl ?_
  refine Zbf 30 rfl (Zbe (Ue (v:=.mk 0 [] l) (j:=2) (x:=6) (y:=5) hm rfl rfl rfl hi rfl rfl rfl rfl (by decide) (by decide) (P4 hx' (by constructor<;>omega) (by omega) (fun i y hy=>?_) ?_)))
  ·obtain⟨q,h1,h2,h3⟩:=hl i y hy
   refine⟨q,h1,?_,h3⟩
   unfold Xb
   rw[if_neg (by omega),if_pos k,Int.toNat_natCast,h2];rfl
  ·unfold Nl
   rw[if_neg (by omega),if_neg (by omega),if_neg (by omega),if_neg (by omega),if_neg (by omega),if_neg (by omega),if_pos k]
   exact⟨rfl,rfl,by show l.length=_;omega⟩
end Go.Proofs.YtnecoghfhcimeaaGreat
