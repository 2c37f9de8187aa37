/- The law FnMachine holds: for every input the Go function returns true, and each argument reads as before. No condition. -/
import Derived.Test.YtnecoghfhcimeaaGreatRows
import Derived.Test.YtnecoghfhcimeaaGreatGat0
import Derived.Test.YtnecoghfhcimeaaGreatGat1
import Derived.Test.YtnecoghfhcimeaaGreatGat2
import Derived.Test.YtnecoghfhcimeaaGreatGat3
import Derived.Test.YtnecoghfhcimeaaGreatGat4
import Derived.Test.YtnecoghfhcimeaaGreatGat5
import Derived.Test.YtnecoghfhcimeaaGreatGat6
import Derived.Test.YtnecoghfhcimeaaGreatGat7
import Derived.Test.YtnecoghfhcimeaaGreatGat8
import Derived.WalkKit
import Derived.ProofKit
import Derived.OpenShut
import Derived.ShutString
import Derived.ChangeOld
import Derived.Below
import Derived.Outline
namespace Go.Proofs.YtnecoghfhcimeaaGreat.fnMachine
set_option linter.unusedSimpArgs false
set_option linter.unusedVariables false
set_option linter.unusedSectionVars false
open Go.ChangeShapes Go.WideShapes Go.ChangeAt Go.RowKit
open Go.ChangeMaps (open_string shut_string)
theorem own:ownKnob Tryz.prog.godebug=none:=by kernel_rfl
theorem laidOut:laidOutB Tryz.prog=true:=by kernel_rfl
theorem all_of{d:Des}(hD:DrawD d)(l:List UInt8)(hl:l.length≤60):∃(v:Tre) (nx:Int) (m:Mch),ACv Tryz.prog 7 [X1 d,Ya l] (.tup [Gj v,.int nx,.int (Uv d l)]) ∧
  ACv Tryz.prog 9 [Tm (cdF d),Pe m0,Ya l] (Pe (Qq (cdF d) true m0 l))∧ACv Tryz.prog 8 [Tm (cdF d),Pe (Qq (cdF d) true m0 l)] (.tup [Pe m,.int (Uv d l)]) ∧
  ACv Tryz.prog 11 [Tm (cdF d),Ya l] (.int (Uv d l))∧m.read≤l.length∧(Uv d l=0→m.state=1∧m.stack=[]∧m.sums=[]∧m.read=l.length):=by
 obtain⟨v,nx,hR⟩:=Pr hD l (by omega)
 obtain⟨hf1,hf2⟩:=file_sm hD l (by omega)
 have hPB:=safe_big hD
 have hnd:=Ea hD
 have hmo:=hD.most
 have hfit:Nc (cdF d)=true:=by unfold Nc;exact decide_eq_true ⟨safe_cdF hD,by omega⟩
 have h0:Uu m0:=⟨by decide,by decide⟩
 have hF:=(Lz (cdF d) m0 l hPB h0 (by omega)).shut (r:=Pe (Qq (cdF d) (Nc (cdF d)) m0 l)) (by rintro _ rfl;exact Mt _)
 have hN:=(Q5 (cdF d) (Qq (cdF d) (Nc (cdF d)) m0 l) hPB (Nd l h0)).shut (r:=.tup [Pe (Uq (cdF d) (Nc (cdF d)) (Qq (cdF d) (Nc (cdF d)) m0 l)),.int (I6 (Uq (cdF d) (Nc (cdF d)) (Qq (cdF d) (Nc (cdF d)) m0 l)))]) (by
  rintro _ rfl
  simp only[Seals,Wc]
  exact⟨_,rfl,_,_,rfl,Mt _,_,_,rfl,rfl,rfl⟩)
 have hP:=T3 (cdF d) l hPB (by omega)
 rw[hfit]at hF hN hP
 have e:Uq (cdF d) true (Qq (cdF d) true m0 l)=fin (cdF d) m0 l:=rfl
 have hr:(fin (cdF d) m0 l).read≤l.length:=by
  have:=(A7 (p:=cdF d) (f:=true) l m0 0 ⟨by decide,by decide⟩ (by omega)).2
  rw[←e,I8]
  omega
 rw[e,hf1]at hN hP
 exact⟨v,nx,_,hR,hF,hN,hP,hr,hf2⟩
set_option maxRecDepth 100000 in
set_option maxHeartbeats 16000000 in
theorem law_ac(code:List UInt8)(wl:code.length≤maxLen):ACv Tryz.prog 3 [Ya code] (.bool true):=by
 have hB:=big_ac code
 refine Zz Tryz.func3 rfl _ Tryz.ntmps3 (by simp) fun C hn hm=>?_
 by_cases hbig:(1048576:Int)<code.length
 ·repeat' (first
  |refine Zbg Zk hn rfl ?_
  |refine Zbh ?_
  |refine Za 30 rfl ?_
  |(refine Zc hn rfl rfl rfl ?_;first
   |refine⟨_,Zi hB rfl,?_⟩)
  |(refine Zbf 30 rfl ?_;first|(refine Zd rfl ?_ ?_;·first|omega|rfl|assumption|(simp only[lmT];omega))|(refine Ze rfl ?_ ?_;·first|omega|rfl|assumption|(simp only[lmT];omega))|refine Z1 rfl (fun h=>?_) (fun h=>?_)|refine Zbe (Zj hm rfl rfl ?_)|exact Zbe (Zf hm rfl rfl rfl (nbT rfl) rfl rfl))
  |refine Zx (tl hn rfl) ?_
  |refine Zr rfl rfl rfl rfl (nbT rfl) ?_
  |((first|refine Zh rfl rfl rfl ?_ ?_|refine Zy rfl rfl rfl ?_ ?_)<;>intro h<;>try(exfalso;first|omega|contradiction|(simp only[lmT]at h;omega))))
  all_goals exact Z3 rfl
 have hl:code.length≤1048576:=by omega
 repeat' (first
  |(refine op_callQ (Rk code hl) qfim_ok rfl (tl hn rfl) ?_;rintro _ ⟨d,bs,rfl,hD,hbl⟩)
  |refine Zbg Zk hn rfl ?_
  |refine Zbh ?_
  |refine Za 30 rfl ?_
  |(refine Zc hn rfl rfl rfl ?_;first
   |refine⟨_,Zi hB rfl,?_⟩)
  |(refine Zbf 30 rfl ?_;first|(refine Zd rfl ?_ ?_;·first|omega|rfl|assumption|(simp only[lmT];omega))|(refine Ze rfl ?_ ?_;·first|omega|rfl|assumption|(simp only[lmT];omega))|refine Z1 rfl (fun h=>?_) (fun h=>?_)|refine Zbe (Zj hm rfl rfl ?_)|exact Zbe (Zf hm rfl rfl rfl (nbT rfl) rfl rfl))
  |refine Zx (tl hn rfl) ?_
  |refine Zr rfl rfl rfl rfl (nbT rfl) ?_
  |((first|refine Zh rfl rfl rfl ?_ ?_|refine Zy rfl rfl rfl ?_ ?_)<;>intro h<;>try(exfalso;first|omega|contradiction|(simp only[lmT]at h;omega))))
 all_goals
  have hG:=hD.good
  have hd6:=hD.most
  have hdo:=hD.desOk
  have hdt:Wi d≤1048576:=by have:=hD.total;omega
  have hbm:(bs.map fun z=>[RV.u8 z]).length=bs.length:=lmT ..
  have hC:=(K5 d hdo hdt).shut (r:=Tm (cdF d)) (by rintro _ rfl;exact seals_prg _)
  have hNM:=Jv
 ·rw[hbm]at h
  obtain⟨v,nx,m,hR,hF,hN,hP,hr,h0⟩:=all_of hD (bs.take 60) (by rw[List.length_take];omega)
  have hll:((bs.take 60).map fun z=>[RV.u8 z]).length=(bs.take 60).length:=lmT ..
  have hl1:(m.stack.map fun z=>[RV.int z]).length=m.stack.length:=lmT ..
  have hl2:(m.sums.map fun z=>[RV.int z]).length=m.sums.length:=lmT ..
  generalize Qq (cdF d) true m0 (bs.take 60)=q at hF hN
  generalize Uv d (bs.take 60)=r at hR hN hP h0
  have hst:r=0→m.state=1:=fun e=>(h0 e).1
  have hsk:r=0→m.stack.length=0:=fun e=>by rw[(h0 e).2.1];rfl
  have hsm:r=0→m.sums.length=0:=fun e=>by rw[(h0 e).2.2.1];rfl
  have hrd:r=0→m.read=(bs.take 60).length:=fun e=>(h0 e).2.2.2
  clear h0
  repeat' (first
   |refine Y0 (id:=8) 30 [8] [0,1,2,3,4,5,6,7,8,9] 10 [(9,40,[.int .i64 0,.int .i64 0,.slice none 0 0,.slice none 0 0,.int .i64 0,.bool false,.bool false,.int .i64 0,.int .i64 0,.int .i64 0])] Yc hn rfl (by kernel_rfl) rfl (by decide) (by decide) ?_
   |refine RunsT.nil ?_
   |refine RunsT.step Zk rfl rfl (fun _=>rfl) (by decide) ?_
   |refine RunsT.pur (fun _=>Xv rfl rfl (by omega) (by omega)) (by decide) rfl rfl ?_
   |refine RunsT.pur (fun _=>Zi hC rfl) (by decide) rfl rfl ?_
   |refine RunsT.pur (fun _=>Zi hNM rfl) (by decide) rfl rfl ?_
   |refine RunsT.pur (fun _=>Zi hR rfl) (by decide) rfl rfl ?_
   |refine RunsT.pur (fun _=>Zi hF rfl) (by decide) rfl rfl ?_
   |refine RunsT.pur (fun _=>Zi hN rfl) (by decide) rfl rfl ?_
   |refine RunsT.pur (fun _=>Zi hP rfl) (by decide) rfl rfl ?_
   |refine RunsT.alloc (p:=0) rfl inferInstance ?_
   |refine RunsT.alloc (p:=1) rfl inferInstance ?_
   |refine Zbg Zk hn rfl ?_
   |refine Zbh ?_
   |refine Za 30 rfl ?_
   |(refine Zc hn rfl rfl rfl ?_;first
    |refine⟨_,Xv rfl rfl (by omega) (by omega),?_⟩
    |refine⟨_,Zi hC rfl,?_⟩
    |refine⟨_,Zi hNM rfl,?_⟩
    |refine⟨_,Zi hR rfl,?_⟩
    |refine⟨_,Zi hF rfl,?_⟩
    |refine⟨_,Zi hN rfl,?_⟩
    |refine⟨_,Zi hP rfl,?_⟩)
   |(refine Zbf 30 rfl ?_;first|(refine Zd rfl ?_ ?_;·first|omega|rfl|assumption|(simp only[lmT];omega))|(refine Ze rfl ?_ ?_;·first|omega|rfl|assumption|(simp only[lmT];omega))|refine Z1 rfl (fun h=>?_) (fun h=>?_)|refine Zbe (Zj hm rfl rfl ?_)|exact Zbe (Zf hm rfl rfl rfl (nbT rfl) rfl rfl))
   |refine Zx (tl hn rfl) ?_
   |refine Zr rfl rfl rfl rfl (nbT rfl) ?_
   |((first|refine Zh rfl rfl rfl ?_ ?_|refine Zy rfl rfl rfl ?_ ?_)<;>intro h<;>try(exfalso;first|omega|contradiction|(simp only[lmT]at h;omega))))
  all_goals first
   |exact Z3 rfl
   |(refine Z3 (decide_eq_true ?_);rw[hl2,hsm (by assumption)];rfl)
   |(exfalso;simp only[lmT,List.length_take]at *;omega)
 ·rw[hbm]at h
  obtain⟨v,nx,m,hR,hF,hN,hP,hr,h0⟩:=all_of hD bs (by omega)
  have hll:(bs.map fun z=>[RV.u8 z]).length=bs.length:=lmT ..
  have hl1:(m.stack.map fun z=>[RV.int z]).length=m.stack.length:=lmT ..
  have hl2:(m.sums.map fun z=>[RV.int z]).length=m.sums.length:=lmT ..
  generalize Qq (cdF d) true m0 bs=q at hF hN
  generalize Uv d bs=r at hR hN hP h0
  have hst:r=0→m.state=1:=fun e=>(h0 e).1
  have hsk:r=0→m.stack.length=0:=fun e=>by rw[(h0 e).2.1];rfl
  have hsm:r=0→m.sums.length=0:=fun e=>by rw[(h0 e).2.2.1];rfl
  have hrd:r=0→m.read=bs.length:=fun e=>(h0 e).2.2.2
  clear h0
  repeat' (first
   |refine Y0 (id:=8) 30 [8] [0,1,2,3,4,5,6,7,8,9] 10 [(9,40,[.int .i64 0,.int .i64 0,.slice none 0 0,.slice none 0 0,.int .i64 0,.bool false,.bool false,.int .i64 0,.int .i64 0,.int .i64 0])] Yc hn rfl (by kernel_rfl) rfl (by decide) (by decide) ?_
   |refine RunsT.nil ?_
   |refine RunsT.step Zk rfl rfl (fun _=>rfl) (by decide) ?_
   |refine RunsT.pur (fun _=>Xv rfl rfl (by omega) (by omega)) (by decide) rfl rfl ?_
   |refine RunsT.pur (fun _=>Zi hC rfl) (by decide) rfl rfl ?_
   |refine RunsT.pur (fun _=>Zi hNM rfl) (by decide) rfl rfl ?_
   |refine RunsT.pur (fun _=>Zi hR rfl) (by decide) rfl rfl ?_
   |refine RunsT.pur (fun _=>Zi hF rfl) (by decide) rfl rfl ?_
   |refine RunsT.pur (fun _=>Zi hN rfl) (by decide) rfl rfl ?_
   |refine RunsT.pur (fun _=>Zi hP rfl) (by decide) rfl rfl ?_
   |refine RunsT.alloc (p:=0) rfl inferInstance ?_
   |refine RunsT.alloc (p:=1) rfl inferInstance ?_
   |refine Zbg Zk hn rfl ?_
   |refine Zbh ?_
   |refine Za 30 rfl ?_
   |(refine Zc hn rfl rfl rfl ?_;first
    |refine⟨_,Xv rfl rfl (by omega) (by omega),?_⟩
    |refine⟨_,Zi hC rfl,?_⟩
    |refine⟨_,Zi hNM rfl,?_⟩
    |refine⟨_,Zi hR rfl,?_⟩
    |refine⟨_,Zi hF rfl,?_⟩
    |refine⟨_,Zi hN rfl,?_⟩
    |refine⟨_,Zi hP rfl,?_⟩)
   |(refine Zbf 30 rfl ?_;first|(refine Zd rfl ?_ ?_;·first|omega|rfl|assumption|(simp only[lmT];omega))|(refine Ze rfl ?_ ?_;·first|omega|rfl|assumption|(simp only[lmT];omega))|refine Z1 rfl (fun h=>?_) (fun h=>?_)|refine Zbe (Zj hm rfl rfl ?_)|exact Zbe (Zf hm rfl rfl rfl (nbT rfl) rfl rfl))
   |refine Zx (tl hn rfl) ?_
   |refine Zr rfl rfl rfl rfl (nbT rfl) ?_
   |((first|refine Zh rfl rfl rfl ?_ ?_|refine Zy rfl rfl rfl ?_ ?_)<;>intro h<;>try(exfalso;first|omega|contradiction|(simp only[lmT]at h;omega))))
  all_goals first
   |exact Z3 rfl
   |(refine Z3 (decide_eq_true ?_);rw[hl2,hsm (by assumption)];rfl)
   |(exfalso;simp only[lmT,List.length_take]at *;omega)
set_option maxRecDepth 100000 in
theorem lifted(os:Os)(started:os.Started)(H:Type)(enc:TypeId×Value→H) :
  ReturnsInHanded {} Tryz.checked os 3 .any (Rows.fnMachineSpec.pre6 enc Tryz.prog Tryz.f3 Rows.fnMachineRow.domain false) (Rows.fnMachineSpec.post enc Tryz.prog Tryz.f3 false true false false):=by
 refine returnsInHanded_of_change (C:=Tryz.checked) own started (by kernel_rfl) Tryz.func3
  (ChangeSpec.witness6 (enc:=enc) (C:=Tryz.checked) false ⟨#[],#[.slice none 0 0],[]⟩ 8 (by kernel_rfl) (by kernel_rfl) (by kernel_rfl) (by kernel_rfl)) ?_
 intro W base args ds gs before hval0 hW hcnd _
 have hval:∀(j:Nat) t v,Tryz.f3.params[j]?=some t→args[j]?=some v→Value.okWide Tryz.prog W .any base t v:=hval0
 have hW':=hW
 obtain⟨p,q,hA0,hV,rfl,hfz,hnd⟩:=hW
 have hA:DataW.TrodAll enc Tryz.prog W 0 (fun _=>true) true Tryz.f3.params.toList args.toList ds p:=hA0
 rw[Tryz.params3]at hA hval
 obtain⟨v0,vs0,d0,ds0,p0,q0,hargs,rfl,rfl,h0,r0⟩:=trodAll_cons hA
 obtain⟨rfl,rfl,rfl⟩:=trodAll_nil r0
 obtain rfl:args=#[v0]:=by cases args;simp_all
 obtain⟨rfl,rfl⟩:=trodVars_none hV
 have k0:=h0
 have lt0:∀x∈p0,x.block<W.heap.size:=by obtain⟨m,hm⟩:=k0;exact DataW.trod_lt m _ _ _ hm
 obtain⟨r0',t0,e0⟩:=P3 plainsOk rfl Tryz.underlying22 (hval 0 22 v0 rfl rfl) h0
 obtain⟨a0,q0,w0⟩:=t0.bytes Tryz.underlying22 Tryz.underlying5 (by kernel_rfl)
 injection q0 with q0;subst q0
 clear hA0 hval0
 refine(AC.law (law_ac a0 w0) W _ (cons_rels e0 nil_rels)).mono fun e W' ⟨he,bel⟩=>?_
 subst he
 exact⟨_,rfl,_,_,_,[],_,[],hW',trodAll_mk1 (shut_bool Tryz.underlying4 _),(trodAll_cons_mk (Below.trod laidOut (by kernel_rfl) (of_decide_eq_true (by kernel_rfl)) k0 bel lt0) trodAll_mk0),rfl,bel.frame _,fun h=>by cases h⟩
theorem over:Rows.fnMachineRow.holds Tryz.pinned (OpenSpec.ofChange Rows.fnMachineSpec):=
 OpenClaim.holds_of_wide 3 Tryz.f3 rfl rfl rfl rfl rfl rfl rfl ⟨rfl,rfl,rfl,rfl,rfl⟩ rfl rfl rfl rfl rfl (by kernel_rfl) Tryz.func3 (by kernel_rfl)
  (of_decide_eq_true (by kernel_rfl)) (by unfold Func.isWrapper;rw[if_neg (of_decide_eq_false (by kernel_rfl))];exact⟨rfl,rfl⟩)
  (fun os started H enc _=>lifted os started H enc)
theorem proved:Rows.FnMachineSaid:=over
#print axioms proved
end Go.Proofs.YtnecoghfhcimeaaGreat.fnMachine
