/- Gathered texts. -/
import Derived.Test.YtnecoghfhcimeaaGreatGat0
import Derived.Test.YtnecoghfhcimeaaGreatGat1
import Derived.Test.YtnecoghfhcimeaaGreatGat2
import Derived.Test.YtnecoghfhcimeaaGreatGat3
import Derived.Test.YtnecoghfhcimeaaGreatGat4
/- The draw of a value of a rule: terminated content; any kind; a drawn value. -/
namespace Go.Proofs.YtnecoghfhcimeaaGreat
set_option linter.unusedSimpArgs false
set_option linter.unusedVariables false
set_option linter.unusedSectionVars false
open Go.RowKit
open AV (Mem Wn)
theorem mk_ten{d:Des}{r:Nat}{x:Rul}(hx:d[r]?=some x)(k:x.kind=10){l:List UInt8}(h:l.length≤6):MkV d r (.mk 0 l []):=
 Di hx (by omega) (by
  unfold Nl;rw[if_neg (by omega),if_neg (by omega),if_neg (by omega),if_neg (by omega),if_pos k]
  exact⟨rfl,by show l.length≤400;omega,rfl⟩)
set_option maxHeartbeats 8000000 in
theorem Zae(b:List UInt8)(hb:b.length≤1048576)(d:Des)(hD:DrawD d)(r:Nat)(x:Rul)(hx:d[(r:Int).toNat]?=some x)(k:x.kind=10)(most:Int)(hmo:0≤most):Drw Tryz.prog 60 25 b [X1 d,.int (r:Int),.int most] (Ge (MkV d r)):=by
 have hx':d[r]?=some x:=hx
 obtain⟨k',_,_,hr,hk',_,_⟩:=hD.kinds hx'
 obtain⟨y0,hy0,hbk⟩:=hr.hbytes.2.1 (by omega)
 have hby:x.bytes[(0:Int).toNat]?=some (u8i y0):=by rw[hbk];rfl
 have hM:=T7 most 6
 have hm6:0≤mn most 6∧mn most 6≤6:=by unfold mn;split<;>omega
 have hI1:=G5 b hb [((u8i y0).toNat:Int),92] (by simp) (by simp)
 refine Ys Tryz.func25 rfl _ Tryz.ntmps25 (by simp) fun C g u i h hn hm hu hi=>?_
 repeat' (first
|(refine Yt (Yr b hb _ (by omega)) rfl hu hi rfl (Z6 [.int _]) rfl (by first|rfl|repeat' (first|rfl|exact Z0 _|refine Zt ?_ ?_)) (tl hn rfl) ?_;intro i h y hi hy;obtain⟨n3,rfl,hn3⟩:∃n3:Nat,y=n3∧n3≤6:=⟨y.toNat,by unfold Bel at hy;omega,by unfold Bel at hy;omega⟩)
|(refine K1 (Kl b hb n3 (by omega)) rfl hu hi rfl rfl rfl (by first|rfl|repeat' (first|rfl|exact Z0 _|refine Zt ?_ ?_)) (tl hn rfl) ?_;rintro i h _ hi ⟨z,rfl,hz⟩;rcases z with _|⟨c0,z⟩)
|refine K9 rfl rfl rfl ?_
|(refine T9 (Ee b hb 2 (by decide)) rfl hu hi rfl (Z6 [.int 2]) rfl (by first|rfl|repeat' (first|rfl|exact Z0 _|refine Zt ?_ ?_)) (tl hn rfl) ?_;intro i h y1 hi;cases y1)
|refine Xo (id:=12) 30 [0,1,2,3,4,5,6,7] [8,9,10,11,12] Yc rfl rfl (by kernel_rfl) (by kernel_rfl) (by kernel_rfl) ?_
|(refine Qv (t:=71) hI1 rfl hu hi (fun _=>Z6 [Xe [((u8i y0).toNat:Int),92]]) rfl (by first|rfl|repeat' (first|rfl|exact Z0 _|refine Zt ?_ ?_)) (tl hn rfl) ?_;intro i h y2 hi hy2)
|refine RunsH.pur (fun _ _=>Yw Zk rfl) rfl (tl hn rfl) rfl ?_
|refine RunsH.pur (fun _ _=>Z2 rfl) rfl (tl hn rfl) rfl ?_
|refine RunsH.pur (fun _ _=>Zi hM rfl) rfl (tl hn rfl) rfl ?_
|refine RunsH.pur (fun _ _=>Zq rfl rfl (by omega)) rfl (tl hn rfl) rfl ?_
|refine RunsH.pur (fun _ _=>Yo (n:=0) rfl rfl rfl) rfl (tl hn rfl) rfl ?_
|refine RunsH.pur (fun _ _=>Yo (n:=z.length+1) rfl rfl (by simp)) rfl (tl hn rfl) rfl ?_
|refine RunsH.pur (fun _ _=>Zw rfl rfl rfl rfl rfl rfl) rfl (tl hn rfl) rfl ?_
|refine RunsH.pur (fun _ _=>Wv rfl) rfl (tl hn rfl) rfl ?_
|refine RunsH.pur (fun _ _=>Q8 rfl) rfl (tl hn rfl) rfl ?_
|refine RunsH.pur (fun _ _=>Yk (n:=z.length+1) rfl rfl rfl rfl (by first|(simp;done)|(simp;omega)) (by omega) (by omega)) rfl (tl hn rfl) rfl ?_
|refine RunsH.pur (fun _ _=>Zq rfl rfl (by omega)) rfl (tl hn rfl) rfl ?_
|refine RunsH.pur (fun _ _=>Zb rfl rfl (by omega) (by assumption)) rfl (tl hn rfl) rfl ?_
|refine RunsH.pur (fun _ _=>Zw rfl rfl rfl rfl rfl rfl) rfl (tl hn rfl) rfl ?_
|refine RunsH.nil ?_
|refine RunsP.pur (Yw Zk rfl) rfl rfl (tl hn rfl) (by first|rfl|repeat' (first|rfl|exact Z0 _|refine Zt ?_ ?_)) ?_
|refine RunsP.pur (Z2 rfl) rfl rfl (tl hn rfl) (by first|rfl|repeat' (first|rfl|exact Z0 _|refine Zt ?_ ?_)) ?_
|refine RunsP.pur (Zi hM rfl) rfl rfl (tl hn rfl) (by first|rfl|repeat' (first|rfl|exact Z0 _|refine Zt ?_ ?_)) ?_
|refine RunsP.pur (Zq rfl rfl (by omega)) rfl rfl (tl hn rfl) (by first|rfl|repeat' (first|rfl|exact Z0 _|refine Zt ?_ ?_)) ?_
|refine RunsP.pur (Yo (n:=0) rfl rfl rfl) rfl rfl (tl hn rfl) (by first|rfl|repeat' (first|rfl|exact Z0 _|refine Zt ?_ ?_)) ?_
|refine RunsP.pur (Yo (n:=z.length+1) rfl rfl (by simp)) rfl rfl (tl hn rfl) (by first|rfl|repeat' (first|rfl|exact Z0 _|refine Zt ?_ ?_)) ?_
|refine RunsP.pur (Zw rfl rfl rfl rfl rfl rfl) rfl rfl (tl hn rfl) (by first|rfl|repeat' (first|rfl|exact Z0 _|refine Zt ?_ ?_)) ?_
|refine RunsP.pur (Wv rfl) rfl rfl (tl hn rfl) (by first|rfl|repeat' (first|rfl|exact Z0 _|refine Zt ?_ ?_)) ?_
|refine RunsP.pur (Q8 rfl) rfl rfl (tl hn rfl) (by first|rfl|repeat' (first|rfl|exact Z0 _|refine Zt ?_ ?_)) ?_
|refine RunsP.pur (Yk (n:=z.length+1) rfl rfl rfl rfl (by first|(simp;done)|(simp;omega)) (by omega) (by omega)) rfl rfl (tl hn rfl) (by first|rfl|repeat' (first|rfl|exact Z0 _|refine Zt ?_ ?_)) ?_
|refine RunsP.pur (Zq rfl rfl (by omega)) rfl rfl (tl hn rfl) (by first|rfl|repeat' (first|rfl|exact Z0 _|refine Zt ?_ ?_)) ?_
|refine RunsP.pur (Zb rfl rfl (by omega) (by assumption)) rfl rfl (tl hn rfl) (by first|rfl|repeat' (first|rfl|exact Z0 _|refine Zt ?_ ?_)) ?_
|refine RunsP.pur (Zw rfl rfl rfl rfl rfl rfl) rfl rfl (tl hn rfl) (by first|rfl|repeat' (first|rfl|exact Z0 _|refine Zt ?_ ?_)) ?_
|refine Zbg Zk hn rfl ?_
|refine Zbh ?_
|refine Za 30 rfl ?_
|refine Z5 rfl rfl rfl rfl (by first|(simp;done)|(simp;omega)) ?_
|refine X2 12 rfl (nbT rfl) (by kernel_rfl) (by kernel_rfl) ?_
|(refine Zc hn rfl rfl rfl ?_;first
|refine⟨_,Z2 rfl,?_⟩
|refine⟨_,Zi hM rfl,?_⟩
|refine⟨_,Zq rfl rfl (by omega),?_⟩
|refine⟨_,Yo (n:=0) rfl rfl rfl,?_⟩
|refine⟨_,Yo (n:=z.length+1) rfl rfl (by simp),?_⟩
|refine⟨_,Zw rfl rfl rfl rfl rfl rfl,?_⟩
|refine⟨_,Wv rfl,?_⟩
|refine⟨_,Q8 rfl,?_⟩
|refine⟨_,Yk (n:=z.length+1) rfl rfl rfl rfl (by first|(simp;done)|(simp;omega)) (by omega) (by omega),?_⟩)
|(refine Zbf 30 rfl ?_;first|refine Zg rfl ?_|refine Zm rfl ?_|(refine Zd rfl ?_ ?_;·first|omega|rfl|assumption|(simp only[lmT];omega))|(refine Ze rfl ?_ ?_;·first|omega|rfl|assumption|(simp only[lmT];omega))|refine Zbe (Zj hm rfl rfl ?_)|exact Zbe (Zf hm rfl rfl rfl (nbT rfl) rfl rfl))
|refine Zs rfl (tl hn rfl) ?_
|refine Z5 rfl rfl rfl rfl (nbT rfl) ?_
|refine Zx (tl hn rfl) ?_
|refine Zr rfl rfl rfl rfl (nbT rfl) ?_
|(refine Zc hn rfl rfl rfl ?_;first
|refine⟨_,Zq rfl rfl (by omega),?_⟩
|refine⟨_,Zb rfl rfl (by omega) (by assumption),?_⟩
|refine⟨_,Zw rfl rfl rfl rfl rfl rfl,?_⟩)
|(refine Zh rfl rfl rfl ?_ ?_<;>intro h<;>try(exfalso;first|omega|contradiction|(simp only[lmT]at h;omega))))
 all_goals refine Z4 (e:=36) (sz:=3) 2 2 (by decide) rfl rfl ?_
 all_goals first
  |exact Zbf 30 rfl (Zbe (Ue (v:=.mk 0 [] []) (j:=2) (x:=5) (y:=6) hm rfl rfl rfl hi rfl rfl rfl rfl (by decide) (by decide) (mk_ten hx' k (by simp))))
  |exact Zbf 30 rfl (Zbe (Ue (v:=.mk 0 (c0::z) []) (j:=2) (x:=5) (y:=6) hm rfl rfl rfl hi rfl rfl rfl rfl (by decide) (by decide) (mk_ten hx' k (by omega))))
  |exact Zbf 30 rfl (Zbe (Ue (v:=.mk 0 (u8i y2::z) []) (j:=2) (x:=5) (y:=6) hm rfl rfl rfl hi rfl rfl rfl rfl (by decide) (by decide) (mk_ten hx' k (by simp only[Za8]at hz ⊢;omega))))
theorem l9Make_d(b:List UInt8)(hb:b.length≤1048576)(d:Des)(hD:DrawD d):∀(r:Nat),r<d.length→∀most:Int,0≤most∧most≤1048576→Drw Tryz.prog 60 25 b [X1 d,.int (r:Int),.int most] (Ge (MkV d r)):=by
 intro r
 induction r using Nat.strongRecOn with
 |ind r ih=>
 intro hr most hmo
 have hx:d[(r:Int).toNat]?=some _:=Za6 (show(r:Int).toNat<d.length from hr)
 obtain⟨k',k1,k2,_,hk',_,_⟩:=hD.kinds (show d[r]?=some _ from hx)
 have ih':∀q:Nat,q<r→∀m:Int,0≤m∧m≤1048576→Drw Tryz.prog 60 25 b [X1 d,.int (q:Int),.int m] (Ge (MkV d q)):=fun q hq m hm=>ih q hq (by omega) m hm
 by_cases e1:k'=1
 ·exact l9Make1_d b hb d hD r _ hx (by omega) most
 by_cases e2:k'=2
 ·exact l9Make2_d b hb d hD r _ hx (by omega) most
 by_cases e3:k'=3
 ·exact l9Make3_d b hb d hD r _ hx (by omega) most
 by_cases e4:k'=4
 ·exact l9Make4_d b hb d hD r _ hx (by omega) most hmo.1
 by_cases e5:k'=5
 ·exact l9Make5_d b hb d hD r _ hx (by omega) most hmo ih'
 by_cases e6:k'=6
 ·exact l9Make6_d b hb d hD r _ hx (by omega) most hmo ih'
 by_cases e7:k'=7
 ·exact l9Make7_d b hb d hD r _ hx (by omega) most hmo ih'
 by_cases e8:k'=8
 ·exact l9Make8_d b hb d hD r _ hx (by omega) most hmo ih'
 by_cases e9:k'=9
 ·exact l9Make9_d b hb d hD r _ hx (by omega) most hmo ih'
 ·exact Zae b hb d hD r _ hx (by omega) most hmo.1
section
variable{P:Program}{C:Ctx}{k:List Item}{R:Act→World→Prop}{env:Env}{σ:List Ob}
theorem B8{i t:Nat}{o:Ob}{els:List (List RV)}{a:Act}{w:World}(hok:∀φ b,Good C ⟨w,φ,σ,C.ok⟩→Holds ⟨w,φ,σ,C.ok⟩ env a→i<σ.length→φ i=some b→C.ok b)(ht:look env t = .own i)(ho:σ[i]?=some o)(hcs:o.cs=els.flatten.map .ro)(hl:∀x∈els,x.length=o.sz)(hfree:FreeI i (σ.set i ⟨o.t,o.sz,[]⟩))
  (hs:Sim C ⟨env,σ⟩ a w):Sim C ⟨(t,.ro (.seq o.sz els))::Qo i env,σ.set i ⟨o.t,o.sz,[]⟩⟩ a w:=by
 obtain⟨s1,s2,φ,hG,hH⟩:=hs
 have hil:=(Za5.1 ho).1
 have hlen:(σ.set i ⟨o.t,o.sz,[]⟩).length=σ.length:=by simp
 have hokk:∀b,AV.Mem.ok ⟨w,φ,σ,C.ok⟩ b→AV.Mem.ok ⟨w,upd φ i none,σ.set i ⟨o.t,o.sz,[]⟩,C.ok⟩ b:=fun b hb=>⟨hb.1,fun j hj e=>by
  simp only[hlen]at hj
  by_cases h:j=i
  ·subst h;simp only[Xg]at e;cases e
  ·simp only[Xd h]at e;exact hb.2 j hj e⟩
 have hK:Wn (fun j=>j≠i) ⟨w,φ,σ,C.ok⟩ ⟨w,upd φ i none,σ.set i ⟨o.t,o.sz,[]⟩,C.ok⟩:=
  ⟨⟨Nat.le_refl _,fun b _ hb=>⟨hokk b hb,rfl⟩⟩,fun j hj hjl=>⟨by simpa using hjl,Xd hj⟩,fun j ob hj hob=>⟨ob.cs,by simp only[List.getElem?_set_ne (Ne.symm hj)];exact hob,rfl⟩,fun j g us t _ _ _ hh=>⟨us,hh,rfl⟩⟩
 refine⟨s1,s2,upd φ i none,⟨rfl,fun p q g hp hq e1 e2=>?_,fun j ob hj=>?_,fun j g hj hg=>?_,hG.frm⟩,fun s=>?_⟩
 ·simp only[hlen]at hp hq
  have hp':p≠i:=fun e=>by subst e;simp only[Xg]at e1;cases e1
  have hq':q≠i:=fun e=>by subst e;simp only[Xg]at e2;cases e2
  simp only[Xd hp']at e1
  simp only[Xd hq']at e2
  exact hG.inj p q g hp hq e1 e2
 ·by_cases h:j=i
  ·subst h
   simp only[List.getElem?_set_self hil,Option.some.injEq]at hj
   subst hj
   show ObRel _ _ (upd φ j none j)
   rw[Xg];rfl
  ·have hfj:=hfree.at_ j ob hj
   rw[List.getElem?_set_ne (Ne.symm h)]at hj
   have h0:=hG.ob j ob hj
   show ObRel _ _ (upd φ i none j)
   rw[Xd h]
   simp only at h0
   cases hφ:φ j with
   |none=>rw[hφ]at h0;exact h0
   |some g=>
    rw[hφ]at h0
    obtain⟨us,q1,q2,q3⟩:=h0
    refine⟨us,q1,q2,fun m v hv=>?_⟩
    obtain⟨u,e1,e2,e3⟩:=q3 m v hv
    exact⟨u,e1,e2,AV.rel_keeps hK _ _ (Vm hfj m v hv) e3⟩
 ·simp only[hlen]at hj
  have h:j≠i:=fun e=>by subst e;simp only[Xg]at hg;cases hg
  simp only[Xd h]at hg
  exact hG.mine j g hj hg
 ·show AV.rel _ (look ((t,_)::Qo i env) s) _
  rw[Yy]
  split
  ·rename_i e;subst e
   have hu:=hH t
   rw[ht]at hu
   simp only[AV.rel]
   -- the own row's block alone is needed
   have hrow:=Gp (cs:=els.flatten) (e:=o.t) (sz:=o.sz) hG (by rw[ho];cases o;simp_all) hu
   obtain⟨n,xs,h1,h2,h3,h4,h5,h6⟩:=hrow
   refine seals_rel (ok:=AV.Mem.ok ⟨w,φ,σ,C.ok⟩) hokk (.row o.t o.sz els.flatten) (.seq o.sz els) _ _ (by simp only[Seals];exact⟨els,rfl,rfl,hl⟩) (by simp only[RR.rel];exact⟨n,xs,h1,h2,h3,h4,h5,rfl⟩) fun b hb=>?_
   rw[h6]at hb
   have hb':φ i=some b:=by simpa [Option.mem_toList] using hb
   refine⟨hok φ b hG hH hil hb',fun j hj e=>?_⟩
   simp only[hlen]at hj
   by_cases h:j=i
   ·subst h;simp only[Xg]at e;cases e
   ·simp only[Xd h]at e;exact h (hG.inj j i b hj hil e hb')
  ·rw[Q2]
   exact AV.rel_keeps hK _ _ (AV.kill_only i _) (AV.kill_rel i _ _ (hH s))
theorem Mn(i t:Nat){o:Ob}(els:List (List RV))(hm:∀b,¬C.mu b)(ht:look env t = .own i)(ho:σ[i]?=some o)(hcs:o.cs=els.flatten.map .ro)(hl:∀x∈els,x.length=o.sz)(hfree:FreeI i (σ.set i ⟨o.t,o.sz,[]⟩))
  (hk:Runs P C k R ⟨(t,.ro (.seq o.sz els))::Qo i env,σ.set i ⟨o.t,o.sz,[]⟩⟩):Runs P C k R ⟨env,σ⟩:=⟨fun a w hs=>hk.run a w (B8 (fun φ b hG _ hil hb=>hG.frm.new b ((hG.mine i b hil hb).resolve_left (hm b))) ht ho hcs hl hfree hs)⟩
theorem Hv{ops:Array Oper}{l:List Oper}{g:Nat}(i t:Nat){o:Ob}(els:List (List RV))(hm:∀x,C.mu x→x=g)(hp:look env 0 = .pin 0 0 g)(hi:i≠0)(ht:look env t = .own i)(ho:σ[i]?=some o)(hcs:o.cs=els.flatten.map .ro)(hl:∀x∈els,x.length=o.sz)(hfree:FreeI i (σ.set i ⟨o.t,o.sz,[]⟩))
  (hk:RunsL P C ops l k R ⟨(t,.ro (.seq o.sz els))::Qo i env,σ.set i ⟨o.t,o.sz,[]⟩⟩):RunsL P C ops l k R ⟨env,σ⟩:=⟨fun a w hs=>hk.run a w (B8 (fun φ b hG hH hil hb=>hG.frm.new b ((hG.mine i b hil hb).resolve_left fun hmb=>by
   have hg:=hm b hmb
   subst hg
   have h0:=hH 0
   rw[hp]at h0
   simp only[AV.rel]at h0
   exact hi (hG.inj i 0 b hil h0.1 hb h0.2.1))) ht ho hcs hl hfree hs)⟩
variable{t:Nat}{ty:TypeId}{pos:String}{after:Array Edge}{gd:Option (Nat×Bool)}
end
theorem good_kid{d:Des}(h:U5 d){i:Nat}{r:Rul}(hr:d[i]?=some r){j:Nat}{k:Int}(hk:r.kids[j]?=some k):0≤k∧k<i:=by
 have hi:=(Za5.1 hr).1
 obtain⟨_,r',h1,h2⟩:=h.2.2 i hi
 rw[show((i:Nat):Int).toNat=i by rfl,hr]at h1;injection h1 with h1;subst h1
 exact h2.2.1 j k hk
noncomputable def stB(d:Des):Nat→Nat→Nat→Bool
 |0,_,_=>true
 |f+1,r,b=>match d[r]? with
  |none=>true
  |some x=>if x.kind=2 then decide (b=(x.bytes.headD 0).toNat)
   else if x.kind=6∨x.kind=9 then stB d f (x.kids.headD 0).toNat b
   else if x.kind=7 then(match d[(x.kids.headD 0).toNat]? with
    |some y=>x.tags.any fun t=>decide (b=((Nf y t).headD 0).toNat)
    |none=>true)
   else if x.kind=8 then decide (b<2)
   else true
theorem stB_at{d:Des}{f r b:Nat}{x:Rul}(h:d[r]?=some x):stB d (f+1) r b=(if x.kind=2 then decide (b=(x.bytes.headD 0).toNat)
   else if x.kind=6∨x.kind=9 then stB d f (x.kids.headD 0).toNat b
   else if x.kind=7 then(match d[(x.kids.headD 0).toNat]? with
    |some y=>x.tags.any fun t=>decide (b=((Nf y t).headD 0).toNat)
    |none=>true)
   else if x.kind=8 then decide (b<2)
   else true):=by rw[stB,h]
theorem good_at{d:Des}(hG:U5 d){r:Nat}{x:Rul}(h:d[r]?=some x):Xi d x:=by
 have hi:=(Za5.1 h).1
 obtain⟨_,x',h1,h2⟩:=hG.2.2 r hi
 rw[show((r:Nat):Int).toNat=r by rfl,h]at h1;injection h1 with h1;subst h1
 exact h2.2.2.2
theorem head_kid{d:Des}(hG:U5 d){r:Nat}{x:Rul}(h:d[r]?=some x)(hl:0<x.kids.length):0≤x.kids.headD 0∧x.kids.headD 0<r:=
 good_kid hG h (j:=0) (Td hl)
theorem stB_deep{d:Des}(hG:U5 d){b:Nat}:∀(r:Nat),r<d.length→∀f,r<f→stB d f r b=stB d (r+1) r b:=by
 intro r
 induction r using Nat.strongRecOn with
 |_ r ih=>
  intro hr f hf
  obtain⟨g,rfl⟩:∃g,f=g+1:=⟨f-1,by omega⟩
  obtain⟨x,hx⟩:∃x,d[r]?=some x:=⟨_,Za6 hr⟩
  rw[stB_at hx,stB_at hx]
  by_cases h69:x.kind=6∨x.kind=9
  ·have hkl:0<x.kids.length:=by
    have hk:=good_at hG hx
    unfold Xi at hk
    rcases h69 with h|h
    ·simp only[h]at hk
     simp only[show ¬(6:Int)=1 by decide,show ¬(6:Int)=2 by decide,show ¬(6:Int)=3 by decide,show ¬(6:Int)=4 by decide,show ¬(6:Int)=5 by decide,show ¬(6:Int)=7 by decide,show ¬(6:Int)=8 by decide,show ¬(6:Int)=9 by decide,show ¬(6:Int)=10 by decide,false_and,false_or,or_false,true_and]at hk
     have:=hk.1.kids (by omega);have:=hk.2.1;omega
    ·simp only[h]at hk
     simp only[show ¬(9:Int)=1 by decide,show ¬(9:Int)=2 by decide,show ¬(9:Int)=3 by decide,show ¬(9:Int)=4 by decide,show ¬(9:Int)=5 by decide,show ¬(9:Int)=7 by decide,show ¬(9:Int)=8 by decide,show ¬(9:Int)=6 by decide,show ¬(9:Int)=10 by decide,false_and,false_or,or_false,true_and,or_true]at hk
     have:=hk.kids (by omega);omega
   have hk:=head_kid hG hx hkl
   have e1:=ih (x.kids.headD 0).toNat (by omega) (by omega) g (by omega)
   have e2:=ih (x.kids.headD 0).toNat (by omega) (by omega) r (by omega)
   rw[e1,e2]
  ·rw[if_neg h69,if_neg h69]
section
variable{P:Program}{C:Ctx}{t:Nat}{E:EE}{q:Nat}{ty:TypeId}{pos:String}{after:Array Edge}
theorem Ah{m:Mem}{a:Act}:∀(xs:List Operand),(∀x∈xs,AV.rel m (evE E x) (a.eval x))→AV.rels m (xs.map (evE E)) (xs.map a.eval)
 | [],_=>by simp[AV.rels]
 |x::xs,h=>by
  simp only[List.map_cons,AV.rels]
  exact⟨_,_,rfl,h x (by simp),Ah xs fun y hy=>h y (by simp[hy])⟩
theorem P5{f:FuncId}{fn:Func}{xs:Array Operand}{ats:Array TypeId}{args:List RV}{e:TypeId}{sz:Nat}{cs:List RV}[hfn:FN P f fn](hf:AC P f args fun rr=>rr = .row e sz cs)(hne:cs≠[])(ha:xs.toList.map (evE E)=args.map .ro) :
  MkN P C ⟨some t,.call {callee:=.value (.func f),args:=xs,argTypes:=ats},ty,pos,after,none⟩ E ⟨e,sz,cs.map .ro⟩ q (.own q):=by
 refine⟨.inl rfl,fun a w φ σ hG hq hφ hH K Q hK=>?_⟩
 have hql:q<σ.length:=(Za5.1 hq).1
 have hlen:(σ.set q ⟨e,sz,cs.map .ro⟩).length=σ.length:=by simp
 have h0:=Ah (E:=E) (a:=a) (m:=⟨w,φ,σ,C.ok⟩) xs.toList fun x hx=>hH x (by simp[Op.operands,Call.operands];exact .inr (by simpa using hx))
 have hr:=FitsL.rels (Un args) _ (ha▸h0)
 unfold Oper.wp
 rw[execOp_call_go,Wq hfn]
 simp only[Oper.upon]
 refine(hf w _ _ (Ma hG) (by simpa using hr)).mono ?_
 rintro e' w' ⟨u,rr',bs,rfl,rfl,h1,h2,h3,h4⟩
 obtain⟨ps,p1,p2,p3⟩:=Ef _ u bs h1
 obtain⟨p,rfl⟩:∃p,ps=[p]:=by
  cases ps with
  |nil=>simp[obs]at p1
  |cons p l=>cases l with
   |nil=>exact⟨p,rfl⟩
   |cons _ _=>simp[obs]at p1
 cases p with
 |none=>
  exfalso
  have hok:∀b,(AV.Mem.ok ⟨w,φ,σ,C.ok⟩ b∧b∉bs)→AV.Mem.ok ⟨w',φ,σ.set q ⟨e,sz,cs.map .ro⟩,C.ok⟩ b:=fun b hb=>⟨hb.1.1,fun i hi=>hb.1.2 i (by simp only[hlen]at hi;exact hi)⟩
  obtain⟨_,q2⟩:=p3 ⟨w',φ,σ.set q ⟨e,sz,cs.map .ro⟩,C.ok⟩ q rfl hok ⟨fun j p hj=>by
   cases j with
   |zero=>simp at hj;subst hj;exact hφ
   |succ j=>simp at hj,fun j o hj=>by
   cases j with
   |zero=>simp[obs]at hj;subst hj;simp[hql]
   |succ j=>simp[obs]at hj⟩
  have:=q2 0 ⟨e,sz,cs.map .ro⟩ rfl
  simp only[Nat.add_zero,hφ,ObRel]at this
  exact hne (by simpa using this)
 |some g=>
  have hbs:bs=[g]:=by rw[p2];rfl
  have hg:=h3 g (by rw[hbs];simp)
  have hok:∀b,(AV.Mem.ok ⟨w,φ,σ,C.ok⟩ b∧b∉bs)→AV.Mem.ok ⟨w',upd φ q (some g),σ.set q ⟨e,sz,cs.map .ro⟩,C.ok⟩ b:=fun b hb=>⟨hb.1.1,fun i hi he=>by
   simp only[hlen]at hi
   by_cases h:i=q
   ·subst h;simp only[Xg,Option.some.injEq]at he;subst he;exact hb.2 (by rw[hbs];simp)
   ·simp only[Xd h]at he;exact hb.1.2 i hi he⟩
  obtain⟨q1,q2⟩:=p3 ⟨w',upd φ q (some g),σ.set q ⟨e,sz,cs.map .ro⟩,C.ok⟩ q rfl hok ⟨fun j p hj=>by
   cases j with
   |zero=>simp at hj;subst hj;exact Xg
   |succ j=>simp at hj,fun j o hj=>by
   cases j with
   |zero=>simp[obs]at hj;subst hj;simp[hql]
   |succ j=>simp[obs]at hj⟩
  refine hK u w' g h4 hg.1 ?_ q1
  have:=q2 0 ⟨e,sz,cs.map .ro⟩ rfl
  simpa [Xg] using this
end
theorem X9{r:RE}{n:Nat}{o:Oper}{v:AV}(h:r.pre=none):Sd [r] n o v:=fun p r' hp hr=>by
 cases p with
 |zero=>simp at hp;subst hp;rw[h]at hr;cases hr
 |succ p=>simp at hp
theorem Ek{y:Rul}{t:Int}(hf:Fit t y.size):1≤(Nf y t).length∧(Nf y t).length≤4:=by
 have hbl:1≤(be t y.size).length∧(be t y.size).length≤4:=by unfold be;split<;>(try split)<;>(try split)<;>simp
 unfold Nf
 split
 ·rw[List.length_reverse,J0 hf];exact hbl
 ·rw[J0 hf];exact hbl
theorem D7(r:Rul)(n:Int):(Nf r n).length≤4:=by
 have h:(Ot n r.size).length≤4:=by
  by_cases hf:Fit n r.size
  ·rw[J0 hf]
   unfold be
   repeat' split
   all_goals simp
  ·rw[Hh hf];simp
 unfold Nf
 split
 ·rw[List.length_reverse];exact h
 ·exact h
theorem Wj:∀l:List UInt8,(l.map fun z=>[RV.u8 z]).flatten=l.map RV.u8:=fun l=>by induction l<;>simp_all
set_option maxHeartbeats 4000000 in
theorem Gn(b:List UInt8)(hb:b.length≤1048576):∃s:Int,0≤s∧s≤255∧ACv Tryz.prog 55 [Ya b] (.int s):=by
 let S:Nat→Int:=fun j=>Nat.rec (motive:=fun _=>Int) 0 (fun j s=>(s+((b.getD j 0).toNat:Int)) % 256) j
 have hS:∀j,0≤S j∧S j≤255:=fun j=>by
  cases j with
  |zero=>exact⟨Int.le_refl _,by show(0:Int)≤255;omega⟩
  |succ j=>
   show 0≤(S j+((b.getD j 0).toNat:Int)) % 256∧(S j+((b.getD j 0).toNat:Int)) % 256≤255
   omega
 have hbl:(b.map fun z=>[RV.u8 z]).length=b.length:=lmT ..
 refine⟨S b.length,(hS _).1,(hS _).2,?_⟩
 refine Zz Tryz.func55 rfl _ Tryz.ntmps55 (by simp) fun C hn hm=>?_
 repeat' (first
|refine Zbg Zk hn rfl ?_
|refine Zbh ?_
|refine Za 30 rfl ?_
|(refine Zbf 30 rfl ?_;first|(refine Zd rfl ?_ ?_;·first|omega|rfl|assumption|(simp only[lmT];omega))|(refine Ze rfl ?_ ?_;·first|omega|rfl|assumption|(simp only[lmT];omega))|refine Zbe (Zj hm rfl rfl ?_)|exact Zbe (Zf hm rfl rfl rfl (nbT rfl) rfl rfl))
|(refine Zc hn rfl rfl rfl ?_;first
|refine⟨_,Zq rfl rfl (by omega),?_⟩
|refine⟨_,Zb rfl rfl (by omega) (by assumption),?_⟩
   ))
 refine Yh 30 rfl (fun j=>[(0,.ro (Ya b)),(3,.int (S j)),(4,.int (j:Int))]) (fun _=>[]) (fun _=>True) b.length 0 (Nat.zero_le _) trivial ⟨rfl,rfl,rfl,trivial⟩ rfl fun j hj _ next=>?_
 by_cases hlt:j<b.length
 ·obtain⟨c,hc⟩:∃c,b[(j:Int).toNat]?=some c:=⟨_,Za6 hlt⟩
  have hc':b[j]?=some c:=hc
  have hcl:=c.toNat_lt
  have hSj:=hS j
  have e:S (j+1)=(S j+(c.toNat:Int)) % 256:=by
   show(S j+((b.getD j 0).toNat:Int)) % 256=_
   rw[List.getD_eq_getElem?_getD,hc'];rfl
  repeat' (first
|(refine Zc hn rfl rfl rfl ?_;first
|refine⟨_,Zu b.length rfl hbl,?_⟩)
|refine Zbg Zk hn rfl ?_
|refine Zbh ?_
|refine Za 30 rfl ?_
|(refine Zc hn rfl rfl rfl ?_;first
|refine⟨_,Wv rfl,?_⟩
|refine⟨_,Zq rfl rfl (by omega),?_⟩
|refine⟨_,Sn rfl rfl (by omega),?_⟩)
|(refine Zbf 30 rfl ?_;first|(refine Zd rfl ?_ ?_;·first|omega|rfl|assumption|(simp only[lmT];omega))|(refine Ze rfl ?_ ?_;·first|omega|rfl|assumption|(simp only[lmT];omega))|refine Zbe (Zj hm rfl rfl ?_)|exact Zbe (Zf hm rfl rfl rfl (nbT rfl) rfl rfl))
|(refine Zc hn rfl rfl rfl ?_;first
|refine⟨_,Zq rfl rfl (by omega),?_⟩
|refine⟨_,Zb rfl rfl (by omega) (by assumption),?_⟩
    ))
  exact next _ _ ⟨rfl,Vh e.symm,rfl,trivial⟩ hlt trivial rfl
 ·obtain rfl:j=b.length:=by omega
  repeat' (first
|(refine Zc hn rfl rfl rfl ?_;first
|refine⟨_,Zu b.length rfl hbl,?_⟩)
|refine Zbg Zk hn rfl ?_
|refine Zbh ?_
|refine Za 30 rfl ?_
|(refine Zbf 30 rfl ?_;first|(refine Zd rfl ?_ ?_;·first|omega|rfl|assumption|(simp only[lmT];omega))|(refine Ze rfl ?_ ?_;·first|omega|rfl|assumption|(simp only[lmT];omega))|refine Zbe (Zj hm rfl rfl ?_)|exact Zbe (Zf hm rfl rfl rfl (nbT rfl) rfl rfl))
|(refine Zc hn rfl rfl rfl ?_;first
|refine⟨_,Zq rfl rfl (by omega),?_⟩
|refine⟨_,Zb rfl rfl (by omega) (by assumption),?_⟩
    ))
  exact Xu rfl
structure Prt (d:Des) (r:Nat) (v:Tre) (bs:List UInt8):Prop where
 pos:1≤bs.length
 most:bs.length≤4*v.count+2*v.weight
 first:stB d (r+1) r (bs.headD 0).toNat=true
theorem An(P:Nat→Tre→List UInt8→Prop):∀(l:List Tre) (n:Nat),(∀(j:Nat) y,l[j]?=some y→∃bs,P (n+j) y bs)→∃ws:List (List UInt8),ws.length=l.length∧∀(j:Nat) y bs,l[j]?=some y→ws[j]?=some bs→P (n+j) y bs
 | [],_,_=>⟨[],rfl,by simp⟩
 |y::l,n,h=>by
  obtain⟨bs,hb⟩:=h 0 y rfl
  obtain⟨ws,h1,h2⟩:=An P l (n+1) fun j y hj=>by
   have:=h (j+1) y (by simpa using hj)
   rwa [show n+(j+1)=n+1+j by omega]at this
  refine⟨bs::ws,by simp[h1],fun j y' bs' hj hj'=>?_⟩
  cases j with
  |zero=>simp at hj hj';subst hj;subst hj';exact hb
  |succ j=>
   simp at hj hj'
   have:=h2 j y' bs' hj hj'
   rwa [show n+1+j=n+(j+1) by omega]at this
theorem flat_most(l:List Tre):∀ws:List (List UInt8),ws.length=l.length→(∀(j:Nat) y bs,l[j]?=some y→ws[j]?=some bs→bs.length≤4*y.count+2*y.weight)→ws.flatten.length≤4*(l.map Tre.count).sum+2*(l.map Tre.weight).sum:=by
 induction l with
 |nil=>intro ws h _;simp at h;subst h;simp
 |cons y l ih=>
  intro ws h hw
  cases ws with
  |nil=>simp at h
  |cons bs ws=>
   have h1:=hw 0 y bs rfl rfl
   have h2:=ih ws (by simpa using h) fun j y bs hj hj'=>hw (j+1) y bs (by simpa using hj) (by simpa using hj')
   simp only[List.flatten_cons,Za7,List.map_cons,List.sum_cons]
   omega
theorem Om(ws:List (List UInt8))(j:Nat):(ws.take j).flatten.length≤ws.flatten.length:=by
 have h:=congrArg (fun l:List (List UInt8)=>l.flatten.length) (List.take_append_drop j ws)
 simp only[List.flatten_append,Za7]at h
 omega
theorem L0{ws:List (List UInt8)}{j:Nat}{bs:List UInt8}(h:ws[j]?=some bs):(ws.take (j+1)).flatten=(ws.take j).flatten++bs:=by
 rw[List.take_add_one,h,List.flatten_append]
 simp
def T6(t0:UInt8)(l:List UInt8):List UInt8:=l.flatMap fun c=>if c=t0∨c=92 then[92,c] else[c]
theorem D4{t0:UInt8}{l:List UInt8}{j:Nat}{c:UInt8}(h:l[j]?=some c):T6 t0 (l.take (j+1))=T6 t0 (l.take j)++(if c=t0∨c=92 then[92,c] else[c]):=by
 unfold T6
 rw[List.take_add_one,h,List.flatMap_append]
 simp
theorem Hg(t0:UInt8)(l:List UInt8):(T6 t0 l).length≤2*l.length:=by
 induction l with
 |nil=>simp[T6]
 |cons c l ih=>
  simp only[T6,List.flatMap_cons,Za7,Za8]at *
  split<;>simp only[Za8,Za9]<;>omega
def prS(d:Des)(x:Rul)(v:Tre)(l:List UInt8):List Ob:=[⟨26,0,[.ro (Wa d)]⟩,⟨36,0,[.int v.number,.ro (Ya v.bytes),.ro (X3 v.items)]⟩,⟨78,0,(Xz x).map .ro⟩,⟨5,1,(l.map RV.u8).map .ro⟩]
theorem Rf{d:Des}(hD:DrawD d){z:Int}(hz:IsInt d z):∃y,d[z.toNat]?=some y∧0≤z∧∀n:Int,0≤n→n≤lim d z→Fit n y.size:=by
 obtain⟨h0,h1,y,hy,k1⟩:=hz
 obtain⟨k',_,_,hr,hk',_,_⟩:=hD.kinds hy
 have hs:=hr.hsize.1 (by omega)
 refine⟨y,hy,h0,fun n hn hl=>?_⟩
 rw[G4 hy ⟨h0,k1,hs.1,by omega⟩]at hl
 exact⟨hs.1,by omega,hn,by omega⟩
theorem flat_head{ws:List (List UInt8)}{bs:List UInt8}(h:ws[0]?=some bs)(hb:1≤bs.length):ws.flatten.headD 0=bs.headD 0∧bs.length≤ws.flatten.length:=by
 cases ws with
 |nil=>simp at h
 |cons c ws=>
  simp at h
  subst h
  cases c with
  |nil=>simp at hb
  |cons x c=>exact⟨rfl,by simp⟩
theorem Fp{a b:List UInt8}(h:a≠[]):(a++b).headD 0=a.headD 0:=by
 cases a with
 |nil=>exact absurd rfl h
 |cons x a=>rfl
theorem Ic(d:Des)(h1:1≤d.length)(h2:d.length≤1000):ACv Tryz.prog 18 [X1 d] (.int ((d.length:Int)-1)):=by
 have hlm:(d.map Xz).length=d.length:=lmT ..
 refine Zz Tryz.func18 rfl _ Tryz.ntmps18 (by simp) fun C hn hm=>?_
 repeat' (first
|(refine Zc hn rfl rfl rfl ?_;first
|refine⟨_,Zu d.length rfl hlm,?_⟩)
|refine Zbg Zk hn rfl ?_
|refine Zbh ?_
|refine Za 30 rfl ?_
|(refine Zbf 30 rfl ?_;first|refine Zbe (Zj hm rfl rfl ?_)|exact Zbe (Zf hm rfl rfl rfl (nbT rfl) rfl rfl))
|refine Zs rfl (tl hn rfl) ?_
|(refine Zc hn rfl rfl rfl ?_;first
|refine⟨_,Z7 rfl rfl (by omega),?_⟩
   ))
 all_goals exact Xu rfl
set_option maxHeartbeats 16000000 in
theorem P2{d:Des}(hD:DrawD d)(v:Tre)(hvo:v.Ok)(ht:v.total≤20000)(r:Nat)(x:Rul)(hx:d[(r:Int).toNat]?=some x)(hv:Vld d r v)(ws:List (List UInt8))(hwl:ws.length=v.items.length)(hfl:ws.flatten.length≤200000)
  (hw:∀(j:Nat) y bs,v.items[j]?=some y→ws[j]?=some bs→ACv Tryz.prog 24 [X1 d,.int (Xb x v.number j),Gj y] (Ya bs)) (out:List UInt8)
  (hout:(x.kind=1∧out=Nf x v.number∧out≠[])∨(x.kind=2∧out=x.bytes)∨(x.kind=3∧out=v.bytes)∨(∃z y,x.kind=4∧x.kids[(0:Int).toNat]?=some z∧d[z.toNat]?=some y∧0≤z∧out=Nf y v.bytes.length++v.bytes∧Nf y v.bytes.length≠[])
   ∨ (∃z y,x.kind=5∧x.kids[(0:Int).toNat]?=some z∧d[z.toNat]?=some y∧0≤z∧out=Nf y v.items.length++ws.flatten∧Nf y v.items.length≠[])∨(x.kind=6∧out=ws.flatten)
   ∨ (∃z y,x.kind=7∧x.kids[(0:Int).toNat]?=some z∧d[z.toNat]?=some y∧0≤z∧out=Nf y v.number++ws.flatten∧Nf y v.number≠[])∨(x.kind=8∧out=u8i v.items.length::ws.flatten)
   ∨ (∃s,x.kind=9∧ACv Tryz.prog 55 [Ya ws.flatten] (.int s)∧out=ws.flatten++[u8i s])∨(∃t0,x.kind=10∧x.bytes[(0:Int).toNat]?=some t0∧ws.flatten=[]∧out=T6 t0 v.bytes++[t0])) :
  AC Tryz.prog 24 [X1 d,.int (r:Int),Gj v] (fun rr=>rr = .row 5 1 (out.map RV.u8)):=by
 have hx':d[r]?=some x:=hx
 have hk:=Mf hD.good hx'
 have hni:(v.items.map Tre.cells).length=v.items.length:=lmT ..
 have hnb:(v.bytes.map fun z=>[RV.u8 z]).length=v.bytes.length:=lmT ..
 have hnx:(x.bytes.map fun z=>[RV.u8 z]).length=x.bytes.length:=lmT ..
 have he:=v.total_eq
 refine Zz Tryz.func24 rfl _ Tryz.ntmps24 (by simp) fun C hn hm=>?_
 repeat' (first
|refine Xa (tl hn rfl) ?_
|refine Zbg Zk hn rfl ?_
|refine Zbh ?_
|refine Za 30 rfl ?_
|(refine Zbf 30 rfl ?_;first|refine Zg rfl ?_|(refine Zd rfl ?_ ?_;·first|omega|rfl|assumption|(simp only[lmT];omega))|(refine Ze rfl ?_ ?_;·first|omega|rfl|assumption|(simp only[lmT];omega))|refine Zbe (Zj hm rfl rfl ?_)|exact Zbe (Zf hm rfl rfl rfl (nbT rfl) rfl rfl))
|refine Zs rfl (tl hn rfl) ?_
|refine Zx (tl hn rfl) ?_
|refine Zr rfl rfl rfl rfl (nbT rfl) ?_
|refine Zbi Zk hn rfl rfl ?_
|refine Zbj ?_
|refine Zo 30 Yc hn rfl (by kernel_rfl) rfl ?_
|((first|refine Zc hn rfl rfl rfl ?_|refine Zl rfl rfl ?_);first
|refine⟨_,Zq rfl rfl (by omega),?_⟩
|refine⟨_,Zb rfl rfl (by omega) (by assumption),?_⟩
|refine⟨_,Zw rfl rfl rfl rfl rfl rfl,?_⟩)
|(refine Zv rfl rfl rfl ?_ ?_<;>intro h<;>try(exfalso;first|omega|contradiction|(simp only[lmT]at h;omega))))
 refine Yh 30 rfl (fun j=>[(1,.int r),(3,.obj 0 0),(5,.obj 1 0),(7,.obj 2 0),(8,.own 3),(9,.int (j:Int))]) (fun j=>prS d x v (ws.take j).flatten) (fun _=>True) v.items.length 0 (Nat.zero_le _) trivial ⟨rfl,rfl,rfl,rfl,rfl,rfl,trivial⟩ rfl fun j hj _ next=>?_
 by_cases hlt:j<v.items.length
 ·obtain⟨y,hy⟩:∃y,v.items[(j:Int).toNat]?=some y:=⟨_,Za6 hlt⟩
  have hy':v.items[j]?=some y:=hy
  obtain⟨bs,hbs⟩:∃bs,ws[j]?=some bs:=⟨_,Za6 (by omega)⟩
  have hcall:=hw j y bs hy' hbs
  have hI:=Dp hk v.number j (by omega)
  have hle:=Om ws (j+1)
  rw[L0 hbs,Za7]at hle
  repeat' (first
|refine Y3 (id:=6) 30 [] [0,1,2,3,4,5,6,7,8,9,10,11,12] 13 [] Yc hn rfl (by kernel_rfl) rfl .nil (by decide) (by decide) (by decide) ?_
|refine RunsT.nil ?_
|refine RunsT.pur (fun _=>Zu v.items.length rfl hni) (by decide) rfl rfl ?_
|refine RunsT.nil ?_
|refine RunsT.step Zk rfl rfl (fun _=>rfl) (by decide) ?_
|refine RunsT.pur (fun _=>Zi hI rfl) (by decide) rfl rfl ?_
|refine RunsT.pur (fun _=>E7 rfl (Tre.cells_eq _) rfl) (by decide) rfl rfl ?_
|refine RunsT.pur (fun _=>Zi hcall rfl) (by decide) rfl rfl ?_
|refine RunsT.pur (fun _=>Zq rfl rfl (by omega)) (by decide) rfl rfl ?_
|refine RunsT.pur (fun _=>Zb rfl rfl (by omega) (by assumption)) (by decide) rfl rfl ?_
|((first|refine Zc hn rfl rfl rfl ?_|refine Zl rfl rfl ?_);first
|refine⟨_,Zu v.items.length rfl hni,?_⟩)
|refine Zbg Zk hn rfl ?_
|refine Zbh ?_
|refine Za 30 rfl ?_
|((first|refine Zc hn rfl rfl rfl ?_|refine Zl rfl rfl ?_);first
|refine⟨_,Zi hI rfl,?_⟩
|refine⟨_,E7 rfl (Tre.cells_eq _) rfl,?_⟩
|refine⟨_,Zi hcall rfl,?_⟩)
|(refine Zbf 30 rfl ?_;first|refine Zg rfl ?_|(refine Zd rfl ?_ ?_;·first|omega|rfl|assumption|(simp only[lmT];omega))|(refine Ze rfl ?_ ?_;·first|omega|rfl|assumption|(simp only[lmT];omega))|refine Zbe (Zj hm rfl rfl ?_)|exact Zbe (Zf hm rfl rfl rfl (nbT rfl) rfl rfl))
|refine Zs rfl (tl hn rfl) ?_
|refine Zx (tl hn rfl) ?_
|refine Zr rfl rfl rfl rfl (nbT rfl) ?_
|refine Zbi Zk hn rfl rfl ?_
|refine Zbj ?_
|refine Zo 30 Yc hn rfl (by kernel_rfl) rfl ?_
|((first|refine Zc hn rfl rfl rfl ?_|refine Zl rfl rfl ?_);first
|refine⟨_,Zq rfl rfl (by omega),?_⟩
|refine⟨_,Zb rfl rfl (by omega) (by assumption),?_⟩
|refine⟨_,Zw rfl rfl rfl rfl rfl rfl,?_⟩)
|(refine Zv rfl rfl rfl ?_ ?_<;>intro h<;>try(exfalso;first|omega|contradiction|(simp only[lmT]at h;omega))))
  refine Yl (t:=37) (i:=3) (n:=(ws.take j).flatten.length) (rs:=(ws.take j).flatten.map RV.u8) (els:=bs.map fun z=>[RV.u8 z]) rfl rfl rfl rfl rfl rfl (by rw[lmT,Nat.mul_one]) (FreeI.at_ (i:=3) ⟨by simp[AV.onlys,AV.only],by simp[AV.onlys,AV.only],Yg _ _,Yg _ _,trivial⟩) (by simp only[lmT];omega) (by simp only[lmT];omega) (tl hn rfl) ?_
  repeat' (first
|refine Zbg Zk hn rfl ?_
|refine Zbh ?_
|refine Za 30 rfl ?_
|(refine Zbf 30 rfl ?_;first|refine Zg rfl ?_|(refine Zd rfl ?_ ?_;·first|omega|rfl|assumption|(simp only[lmT];omega))|(refine Ze rfl ?_ ?_;·first|omega|rfl|assumption|(simp only[lmT];omega))|refine Zbe (Zj hm rfl rfl ?_)|exact Zbe (Zf hm rfl rfl rfl (nbT rfl) rfl rfl))
|refine Zs rfl (tl hn rfl) ?_
|refine Zx (tl hn rfl) ?_
|refine Zr rfl rfl rfl rfl (nbT rfl) ?_
|refine Zbi Zk hn rfl rfl ?_
|refine Zbj ?_
|refine Zo 30 Yc hn rfl (by kernel_rfl) rfl ?_
|((first|refine Zc hn rfl rfl rfl ?_|refine Zl rfl rfl ?_);first
|refine⟨_,Zq rfl rfl (by omega),?_⟩
|refine⟨_,Zb rfl rfl (by omega) (by assumption),?_⟩
|refine⟨_,Zw rfl rfl rfl rfl rfl rfl,?_⟩)
|(refine Zv rfl rfl rfl ?_ ?_<;>intro h<;>try(exfalso;first|omega|contradiction|(simp only[lmT]at h;omega))))
  refine next _ _ ⟨rfl,rfl,rfl,rfl,rfl,rfl,trivial⟩ hlt trivial ?_
  show prS d x v (ws.take (j+1)).flatten=[_,_,_,Ob.mk _ _ _]
  rw[Wj,←List.map_append,←L0 hbs]
  rfl
 ·obtain rfl:j=v.items.length:=by omega
  have hwf:(ws.take v.items.length).flatten=ws.flatten:=by rw[←hwl,List.take_length]
  rw[hwf]
  clear next
  rcases hout with⟨k,rfl,hne⟩|⟨k,rfl⟩|⟨k,rfl⟩|⟨z,y,k,hz,hy,hz0,rfl,hne⟩|⟨z,y,k,hz,hy,hz0,rfl,hne⟩|⟨k,rfl⟩|⟨z,y,k,hz,hy,hz0,rfl,hne⟩|⟨k,rfl⟩|⟨s,k,hs,rfl⟩|⟨t0,k,hz,hwn,rfl⟩
  ·have hE:=Ub x v.number
   repeat' (first
|refine Ui hE rfl (tl hn rfl) ?_
|((first|refine Zc hn rfl rfl rfl ?_|refine Zl rfl rfl ?_);first
|refine⟨_,Zu v.items.length rfl hni,?_⟩
|refine⟨_,Zu v.bytes.length rfl hnb,?_⟩)
|refine Zbg Zk hn rfl ?_
|refine Zbh ?_
|refine Za 30 rfl ?_
|(refine Zbf 30 rfl ?_;first|refine Zg rfl ?_|(refine Zd rfl ?_ ?_;·first|omega|rfl|assumption|(simp only[lmT];omega))|(refine Ze rfl ?_ ?_;·first|omega|rfl|assumption|(simp only[lmT];omega))|refine Zbe (Zj hm rfl rfl ?_)|exact Zbe (Zf hm rfl rfl rfl (nbT rfl) rfl rfl))
|refine Zs rfl (tl hn rfl) ?_
|refine Zx (tl hn rfl) ?_
|refine Zr rfl rfl rfl rfl (nbT rfl) ?_
|refine Zbi Zk hn rfl rfl ?_
|refine Zbj ?_
|refine Zo 30 Yc hn rfl (by kernel_rfl) rfl ?_
|((first|refine Zc hn rfl rfl rfl ?_|refine Zl rfl rfl ?_);first
|refine⟨_,Zq rfl rfl (by omega),?_⟩
|refine⟨_,Zb rfl rfl (by omega) (by assumption),?_⟩
|refine⟨_,Zw rfl rfl rfl rfl rfl rfl,?_⟩)
|(refine Zv rfl rfl rfl ?_ ?_<;>intro h<;>try(exfalso;first|omega|contradiction|(simp only[lmT]at h;omega))))
   exact Zbf 30 rfl (Zbe (Xl (rs:=(Nf x v.number).map RV.u8) hm rfl rfl rfl rfl rfl))
  ·have hbl:x.bytes.length≤3:=(hD.lens hx').2.1
   repeat' (first
|refine Xa (tl hn rfl) ?_
|((first|refine Zc hn rfl rfl rfl ?_|refine Zl rfl rfl ?_);first
|refine⟨_,Zu v.items.length rfl hni,?_⟩
|refine⟨_,Zu v.bytes.length rfl hnb,?_⟩)
|refine Zbg Zk hn rfl ?_
|refine Zbh ?_
|refine Za 30 rfl ?_
|(refine Zbf 30 rfl ?_;first|refine Zg rfl ?_|(refine Zd rfl ?_ ?_;·first|omega|rfl|assumption|(simp only[lmT];omega))|(refine Ze rfl ?_ ?_;·first|omega|rfl|assumption|(simp only[lmT];omega))|refine Zbe (Zj hm rfl rfl ?_)|exact Zbe (Zf hm rfl rfl rfl (nbT rfl) rfl rfl))
|refine Zs rfl (tl hn rfl) ?_
|refine Zx (tl hn rfl) ?_
|refine Zr rfl rfl rfl rfl (nbT rfl) ?_
|refine Zbi Zk hn rfl rfl ?_
|refine Zbj ?_
|refine Zo 30 Yc hn rfl (by kernel_rfl) rfl ?_
|((first|refine Zc hn rfl rfl rfl ?_|refine Zl rfl rfl ?_);first
|refine⟨_,Zq rfl rfl (by omega),?_⟩
|refine⟨_,Zb rfl rfl (by omega) (by assumption),?_⟩
|refine⟨_,Zw rfl rfl rfl rfl rfl rfl,?_⟩)
|(refine Zv rfl rfl rfl ?_ ?_<;>intro h<;>try(exfalso;first|omega|contradiction|(simp only[lmT]at h;omega))))
   refine Yl (t:=51) (i:=4) (n:=0) (rs:=[]) (els:=(x.bytes).map fun z=>[RV.u8 z]) rfl rfl rfl rfl rfl rfl rfl (FreeI.at_ (i:=4) ⟨by simp[AV.onlys,AV.only],by simp[AV.onlys,AV.only],Yg _ _,Yg _ _,by simp[AV.onlys],trivial⟩) (by simp only[lmT];omega) (by simp only[lmT];omega) (tl hn rfl) ?_
   repeat' (first
|refine Zbg Zk hn rfl ?_
|refine Zbh ?_
|refine Za 30 rfl ?_
|(refine Zbf 30 rfl ?_;first|refine Zg rfl ?_|(refine Zd rfl ?_ ?_;·first|omega|rfl|assumption|(simp only[lmT];omega))|(refine Ze rfl ?_ ?_;·first|omega|rfl|assumption|(simp only[lmT];omega))|refine Zbe (Zj hm rfl rfl ?_)|exact Zbe (Zf hm rfl rfl rfl (nbT rfl) rfl rfl))
|refine Zs rfl (tl hn rfl) ?_
|refine Zx (tl hn rfl) ?_
|refine Zr rfl rfl rfl rfl (nbT rfl) ?_
|refine Zbi Zk hn rfl rfl ?_
|refine Zbj ?_
|refine Zo 30 Yc hn rfl (by kernel_rfl) rfl ?_
|((first|refine Zc hn rfl rfl rfl ?_|refine Zl rfl rfl ?_);first
|refine⟨_,Zq rfl rfl (by omega),?_⟩
|refine⟨_,Zb rfl rfl (by omega) (by assumption),?_⟩
|refine⟨_,Zw rfl rfl rfl rfl rfl rfl,?_⟩)
|(refine Zv rfl rfl rfl ?_ ?_<;>intro h<;>try(exfalso;first|omega|contradiction|(simp only[lmT]at h;omega))))
   refine Zbf 30 rfl (Zbe (Xl (rs:=(x.bytes).map RV.u8) hm rfl rfl rfl ?_ rfl))
   show List.map AV.ro _=List.map AV.ro _
   try generalize ws.flatten=wf
   simp[Wj]
  ·repeat' (first
|refine Xa (tl hn rfl) ?_
|((first|refine Zc hn rfl rfl rfl ?_|refine Zl rfl rfl ?_);first
|refine⟨_,Zu v.items.length rfl hni,?_⟩
|refine⟨_,Zu v.bytes.length rfl hnb,?_⟩)
|refine Zbg Zk hn rfl ?_
|refine Zbh ?_
|refine Za 30 rfl ?_
|(refine Zbf 30 rfl ?_;first|refine Zg rfl ?_|(refine Zd rfl ?_ ?_;·first|omega|rfl|assumption|(simp only[lmT];omega))|(refine Ze rfl ?_ ?_;·first|omega|rfl|assumption|(simp only[lmT];omega))|refine Zbe (Zj hm rfl rfl ?_)|exact Zbe (Zf hm rfl rfl rfl (nbT rfl) rfl rfl))
|refine Zs rfl (tl hn rfl) ?_
|refine Zx (tl hn rfl) ?_
|refine Zr rfl rfl rfl rfl (nbT rfl) ?_
|refine Zbi Zk hn rfl rfl ?_
|refine Zbj ?_
|refine Zo 30 Yc hn rfl (by kernel_rfl) rfl ?_
|((first|refine Zc hn rfl rfl rfl ?_|refine Zl rfl rfl ?_);first
|refine⟨_,Zq rfl rfl (by omega),?_⟩
|refine⟨_,Zb rfl rfl (by omega) (by assumption),?_⟩
|refine⟨_,Zw rfl rfl rfl rfl rfl rfl,?_⟩)
|(refine Zv rfl rfl rfl ?_ ?_<;>intro h<;>try(exfalso;first|omega|contradiction|(simp only[lmT]at h;omega))))
   refine Yl (t:=167) (i:=4) (n:=0) (rs:=[]) (els:=(v.bytes).map fun z=>[RV.u8 z]) rfl rfl rfl rfl rfl rfl rfl (FreeI.at_ (i:=4) ⟨by simp[AV.onlys,AV.only],by simp[AV.onlys,AV.only],Yg _ _,Yg _ _,by simp[AV.onlys],trivial⟩) (by simp only[lmT];omega) (by simp only[lmT];omega) (tl hn rfl) ?_
   repeat' (first
|refine Zbg Zk hn rfl ?_
|refine Zbh ?_
|refine Za 30 rfl ?_
|(refine Zbf 30 rfl ?_;first|refine Zg rfl ?_|(refine Zd rfl ?_ ?_;·first|omega|rfl|assumption|(simp only[lmT];omega))|(refine Ze rfl ?_ ?_;·first|omega|rfl|assumption|(simp only[lmT];omega))|refine Zbe (Zj hm rfl rfl ?_)|exact Zbe (Zf hm rfl rfl rfl (nbT rfl) rfl rfl))
|refine Zs rfl (tl hn rfl) ?_
|refine Zx (tl hn rfl) ?_
|refine Zr rfl rfl rfl rfl (nbT rfl) ?_
|refine Zbi Zk hn rfl rfl ?_
|refine Zbj ?_
|refine Zo 30 Yc hn rfl (by kernel_rfl) rfl ?_
|((first|refine Zc hn rfl rfl rfl ?_|refine Zl rfl rfl ?_);first
|refine⟨_,Zq rfl rfl (by omega),?_⟩
|refine⟨_,Zb rfl rfl (by omega) (by assumption),?_⟩
|refine⟨_,Zw rfl rfl rfl rfl rfl rfl,?_⟩)
|(refine Zv rfl rfl rfl ?_ ?_<;>intro h<;>try(exfalso;first|omega|contradiction|(simp only[lmT]at h;omega))))
   refine Zbf 30 rfl (Zbe (Xl (rs:=(v.bytes).map RV.u8) hm rfl rfl rfl ?_ rfl))
   show List.map AV.ro _=List.map AV.ro _
   try generalize ws.flatten=wf
   simp[Wj]
  ·have hE:=Ub y v.bytes.length
   have hel:=D7 y v.bytes.length
   repeat' (first
|refine J4 (id:=13) 30 [] [0,1,2,3,4,5,6,7,8,9,10,11,12,13] 14 [⟨11,none,5,1,(Nf y v.bytes.length).map RV.u8⟩] Yc hn rfl (by kernel_rfl) rfl rfl (by kernel_rfl) ?_
|refine RunsU.made (t:=65) (p:=0) rfl rfl rfl rfl rfl (P5 hE (by simpa using hne) rfl) ?_
|refine RunsU.pur (fun _=>Zu v.items.length rfl hni) rfl (X9 rfl) rfl rfl ?_
|refine RunsU.pur (fun _=>Zu v.bytes.length rfl hnb) rfl (X9 rfl) rfl rfl ?_
|refine RunsU.pur (fun _=>Zb rfl rfl (by omega) (by assumption)) rfl (X9 rfl) rfl rfl ?_
|refine RunsU.step Zk rfl rfl (fun _=>rfl) rfl (X9 rfl) ?_
|refine RunsU.nil ?_
|((first|refine Zc hn rfl rfl rfl ?_|refine Zl rfl rfl ?_);first
|refine⟨_,Zu v.items.length rfl hni,?_⟩
|refine⟨_,Zu v.bytes.length rfl hnb,?_⟩)
|refine Zbg Zk hn rfl ?_
|refine Zbh ?_
|refine Za 30 rfl ?_
|(refine Zbf 30 rfl ?_;first|refine Zg rfl ?_|(refine Zd rfl ?_ ?_;·first|omega|rfl|assumption|(simp only[lmT];omega))|(refine Ze rfl ?_ ?_;·first|omega|rfl|assumption|(simp only[lmT];omega))|refine Zbe (Zj hm rfl rfl ?_)|exact Zbe (Zf hm rfl rfl rfl (nbT rfl) rfl rfl))
|refine Zs rfl (tl hn rfl) ?_
|refine Zx (tl hn rfl) ?_
|refine Zr rfl rfl rfl rfl (nbT rfl) ?_
|refine Zbi Zk hn rfl rfl ?_
|refine Zbj ?_
|refine Zo 30 Yc hn rfl (by kernel_rfl) rfl ?_
|((first|refine Zc hn rfl rfl rfl ?_|refine Zl rfl rfl ?_);first
|refine⟨_,Zq rfl rfl (by omega),?_⟩
|refine⟨_,Zb rfl rfl (by omega) (by assumption),?_⟩
|refine⟨_,Zw rfl rfl rfl rfl rfl rfl,?_⟩)
|(refine Zv rfl rfl rfl ?_ ?_<;>intro h<;>try(exfalso;first|omega|contradiction|(simp only[lmT]at h;omega))))
   refine Yl (t:=68) (i:=4) (n:=(Nf y v.bytes.length).length) (rs:=(Nf y v.bytes.length).map RV.u8) (els:=(v.bytes).map fun z=>[RV.u8 z]) rfl rfl rfl rfl rfl rfl (by rw[lmT,Nat.mul_one]) (FreeI.at_ (i:=4) ⟨by simp[AV.onlys,AV.only],by simp[AV.onlys,AV.only],Yg _ _,Yg _ _,Yg _ _,trivial⟩) (by simp only[lmT];omega) (by simp only[lmT];omega) (tl hn rfl) ?_
   repeat' (first
|refine Zbg Zk hn rfl ?_
|refine Zbh ?_
|refine Za 30 rfl ?_
|(refine Zbf 30 rfl ?_;first|refine Zg rfl ?_|(refine Zd rfl ?_ ?_;·first|omega|rfl|assumption|(simp only[lmT];omega))|(refine Ze rfl ?_ ?_;·first|omega|rfl|assumption|(simp only[lmT];omega))|refine Zbe (Zj hm rfl rfl ?_)|exact Zbe (Zf hm rfl rfl rfl (nbT rfl) rfl rfl))
|refine Zs rfl (tl hn rfl) ?_
|refine Zx (tl hn rfl) ?_
|refine Zr rfl rfl rfl rfl (nbT rfl) ?_
|refine Zbi Zk hn rfl rfl ?_
|refine Zbj ?_
|refine Zo 30 Yc hn rfl (by kernel_rfl) rfl ?_
|((first|refine Zc hn rfl rfl rfl ?_|refine Zl rfl rfl ?_);first
|refine⟨_,Zq rfl rfl (by omega),?_⟩
|refine⟨_,Zb rfl rfl (by omega) (by assumption),?_⟩
|refine⟨_,Zw rfl rfl rfl rfl rfl rfl,?_⟩)
|(refine Zv rfl rfl rfl ?_ ?_<;>intro h<;>try(exfalso;first|omega|contradiction|(simp only[lmT]at h;omega))))
   refine Zbf 30 rfl (Zbe (Xl (rs:=(Nf y v.bytes.length++v.bytes).map RV.u8) hm rfl rfl rfl ?_ rfl))
   show List.map AV.ro _=List.map AV.ro _
   try generalize ws.flatten=wf
   simp[Wj]
  ·have hE:=Ub y v.items.length
   have hel:=D7 y v.items.length
   refine Mn 3 8 (ws.flatten.map fun z=>[RV.u8 z]) hm rfl rfl (by rw[Wj]) (fun x hx=>by obtain⟨y,_,rfl⟩:=List.mem_map.1 hx;rfl) (⟨by simp[AV.onlys,AV.only],by simp[AV.onlys,AV.only],Yg _ _,by simp[AV.onlys,AV.only],trivial⟩) ?_
   repeat' (first
|refine J4 (id:=15) 30 [] [0,1,2,3,4,5,6,7,8,9,10,11,12] 13 [⟨11,none,5,1,(Nf y v.items.length).map RV.u8⟩] Yc hn rfl (by kernel_rfl) rfl rfl (by kernel_rfl) ?_
|refine RunsU.made (t:=82) (p:=0) rfl rfl rfl rfl rfl (P5 hE (by simpa using hne) rfl) ?_
|refine RunsU.pur (fun _=>Zu v.items.length rfl hni) rfl (X9 rfl) rfl rfl ?_
|refine RunsU.pur (fun _=>Zu v.bytes.length rfl hnb) rfl (X9 rfl) rfl rfl ?_
|refine RunsU.pur (fun _=>Zb rfl rfl (by omega) (by assumption)) rfl (X9 rfl) rfl rfl ?_
|refine RunsU.step Zk rfl rfl (fun _=>rfl) rfl (X9 rfl) ?_
|refine RunsU.nil ?_
|((first|refine Zc hn rfl rfl rfl ?_|refine Zl rfl rfl ?_);first
|refine⟨_,Zu v.items.length rfl hni,?_⟩
|refine⟨_,Zu v.bytes.length rfl hnb,?_⟩)
|refine Zbg Zk hn rfl ?_
|refine Zbh ?_
|refine Za 30 rfl ?_
|(refine Zbf 30 rfl ?_;first|refine Zg rfl ?_|(refine Zd rfl ?_ ?_;·first|omega|rfl|assumption|(simp only[lmT];omega))|(refine Ze rfl ?_ ?_;·first|omega|rfl|assumption|(simp only[lmT];omega))|refine Zbe (Zj hm rfl rfl ?_)|exact Zbe (Zf hm rfl rfl rfl (nbT rfl) rfl rfl))
|refine Zs rfl (tl hn rfl) ?_
|refine Zx (tl hn rfl) ?_
|refine Zr rfl rfl rfl rfl (nbT rfl) ?_
|refine Zbi Zk hn rfl rfl ?_
|refine Zbj ?_
|refine Zo 30 Yc hn rfl (by kernel_rfl) rfl ?_
|((first|refine Zc hn rfl rfl rfl ?_|refine Zl rfl rfl ?_);first
|refine⟨_,Zq rfl rfl (by omega),?_⟩
|refine⟨_,Zb rfl rfl (by omega) (by assumption),?_⟩
|refine⟨_,Zw rfl rfl rfl rfl rfl rfl,?_⟩)
|(refine Zv rfl rfl rfl ?_ ?_<;>intro h<;>try(exfalso;first|omega|contradiction|(simp only[lmT]at h;omega))))
   refine Yl (t:=84) (i:=4) (n:=(Nf y v.items.length).length) (rs:=(Nf y v.items.length).map RV.u8) (els:=(ws.flatten).map fun z=>[RV.u8 z]) rfl rfl rfl rfl rfl rfl (by rw[lmT,Nat.mul_one]) (FreeI.at_ (i:=4) ⟨by simp[AV.onlys,AV.only],by simp[AV.onlys,AV.only],Yg _ _,by simp[AV.onlys,AV.only],Yg _ _,trivial⟩) (by simp only[lmT];omega) (by simp only[lmT];omega) (tl hn rfl) ?_
   repeat' (first
|refine Zbg Zk hn rfl ?_
|refine Zbh ?_
|refine Za 30 rfl ?_
|(refine Zbf 30 rfl ?_;first|refine Zg rfl ?_|(refine Zd rfl ?_ ?_;·first|omega|rfl|assumption|(simp only[lmT];omega))|(refine Ze rfl ?_ ?_;·first|omega|rfl|assumption|(simp only[lmT];omega))|refine Zbe (Zj hm rfl rfl ?_)|exact Zbe (Zf hm rfl rfl rfl (nbT rfl) rfl rfl))
|refine Zs rfl (tl hn rfl) ?_
|refine Zx (tl hn rfl) ?_
|refine Zr rfl rfl rfl rfl (nbT rfl) ?_
|refine Zbi Zk hn rfl rfl ?_
|refine Zbj ?_
|refine Zo 30 Yc hn rfl (by kernel_rfl) rfl ?_
|((first|refine Zc hn rfl rfl rfl ?_|refine Zl rfl rfl ?_);first
|refine⟨_,Zq rfl rfl (by omega),?_⟩
|refine⟨_,Zb rfl rfl (by omega) (by assumption),?_⟩
|refine⟨_,Zw rfl rfl rfl rfl rfl rfl,?_⟩)
|(refine Zv rfl rfl rfl ?_ ?_<;>intro h<;>try(exfalso;first|omega|contradiction|(simp only[lmT]at h;omega))))
   refine Zbf 30 rfl (Zbe (Xl (rs:=(Nf y v.items.length++ws.flatten).map RV.u8) hm rfl rfl rfl ?_ rfl))
   show List.map AV.ro _=List.map AV.ro _
   try generalize ws.flatten=wf
   simp[Wj]
  ·repeat' (first
|((first|refine Zc hn rfl rfl rfl ?_|refine Zl rfl rfl ?_);first
|refine⟨_,Zu v.items.length rfl hni,?_⟩
|refine⟨_,Zu v.bytes.length rfl hnb,?_⟩)
|refine Zbg Zk hn rfl ?_
|refine Zbh ?_
|refine Za 30 rfl ?_
|(refine Zbf 30 rfl ?_;first|refine Zg rfl ?_|(refine Zd rfl ?_ ?_;·first|omega|rfl|assumption|(simp only[lmT];omega))|(refine Ze rfl ?_ ?_;·first|omega|rfl|assumption|(simp only[lmT];omega))|refine Zbe (Zj hm rfl rfl ?_)|exact Zbe (Zf hm rfl rfl rfl (nbT rfl) rfl rfl))
|refine Zs rfl (tl hn rfl) ?_
|refine Zx (tl hn rfl) ?_
|refine Zr rfl rfl rfl rfl (nbT rfl) ?_
|refine Zbi Zk hn rfl rfl ?_
|refine Zbj ?_
|refine Zo 30 Yc hn rfl (by kernel_rfl) rfl ?_
|((first|refine Zc hn rfl rfl rfl ?_|refine Zl rfl rfl ?_);first
|refine⟨_,Zq rfl rfl (by omega),?_⟩
|refine⟨_,Zb rfl rfl (by omega) (by assumption),?_⟩
|refine⟨_,Zw rfl rfl rfl rfl rfl rfl,?_⟩)
|(refine Zv rfl rfl rfl ?_ ?_<;>intro h<;>try(exfalso;first|omega|contradiction|(simp only[lmT]at h;omega))))
   exact Zbf 30 rfl (Zbe (Xl (rs:=(ws.flatten).map RV.u8) hm rfl rfl rfl rfl rfl))
  ·have hE:=Ub y v.number
   have hel:=D7 y v.number
   refine Mn 3 8 (ws.flatten.map fun z=>[RV.u8 z]) hm rfl rfl (by rw[Wj]) (fun x hx=>by obtain⟨y,_,rfl⟩:=List.mem_map.1 hx;rfl) (⟨by simp[AV.onlys,AV.only],by simp[AV.onlys,AV.only],Yg _ _,by simp[AV.onlys,AV.only],trivial⟩) ?_
   repeat' (first
|refine J4 (id:=17) 30 [] [0,1,2,3,4,5,6,7,8,9,10,11] 12 [⟨10,none,5,1,(Nf y v.number).map RV.u8⟩] Yc hn rfl (by kernel_rfl) rfl rfl (by kernel_rfl) ?_
|refine RunsU.made (t:=97) (p:=0) rfl rfl rfl rfl rfl (P5 hE (by simpa using hne) rfl) ?_
|refine RunsU.pur (fun _=>Zu v.items.length rfl hni) rfl (X9 rfl) rfl rfl ?_
|refine RunsU.pur (fun _=>Zu v.bytes.length rfl hnb) rfl (X9 rfl) rfl rfl ?_
|refine RunsU.pur (fun _=>Zb rfl rfl (by omega) (by assumption)) rfl (X9 rfl) rfl rfl ?_
|refine RunsU.step Zk rfl rfl (fun _=>rfl) rfl (X9 rfl) ?_
|refine RunsU.nil ?_
|((first|refine Zc hn rfl rfl rfl ?_|refine Zl rfl rfl ?_);first
|refine⟨_,Zu v.items.length rfl hni,?_⟩
|refine⟨_,Zu v.bytes.length rfl hnb,?_⟩)
|refine Zbg Zk hn rfl ?_
|refine Zbh ?_
|refine Za 30 rfl ?_
|(refine Zbf 30 rfl ?_;first|refine Zg rfl ?_|(refine Zd rfl ?_ ?_;·first|omega|rfl|assumption|(simp only[lmT];omega))|(refine Ze rfl ?_ ?_;·first|omega|rfl|assumption|(simp only[lmT];omega))|refine Zbe (Zj hm rfl rfl ?_)|exact Zbe (Zf hm rfl rfl rfl (nbT rfl) rfl rfl))
|refine Zs rfl (tl hn rfl) ?_
|refine Zx (tl hn rfl) ?_
|refine Zr rfl rfl rfl rfl (nbT rfl) ?_
|refine Zbi Zk hn rfl rfl ?_
|refine Zbj ?_
|refine Zo 30 Yc hn rfl (by kernel_rfl) rfl ?_
|((first|refine Zc hn rfl rfl rfl ?_|refine Zl rfl rfl ?_);first
|refine⟨_,Zq rfl rfl (by omega),?_⟩
|refine⟨_,Zb rfl rfl (by omega) (by assumption),?_⟩
|refine⟨_,Zw rfl rfl rfl rfl rfl rfl,?_⟩)
|(refine Zv rfl rfl rfl ?_ ?_<;>intro h<;>try(exfalso;first|omega|contradiction|(simp only[lmT]at h;omega))))
   refine Yl (t:=99) (i:=4) (n:=(Nf y v.number).length) (rs:=(Nf y v.number).map RV.u8) (els:=(ws.flatten).map fun z=>[RV.u8 z]) rfl rfl rfl rfl rfl rfl (by rw[lmT,Nat.mul_one]) (FreeI.at_ (i:=4) ⟨by simp[AV.onlys,AV.only],by simp[AV.onlys,AV.only],Yg _ _,by simp[AV.onlys,AV.only],Yg _ _,trivial⟩) (by simp only[lmT];omega) (by simp only[lmT];omega) (tl hn rfl) ?_
   repeat' (first
|refine Zbg Zk hn rfl ?_
|refine Zbh ?_
|refine Za 30 rfl ?_
|(refine Zbf 30 rfl ?_;first|refine Zg rfl ?_|(refine Zd rfl ?_ ?_;·first|omega|rfl|assumption|(simp only[lmT];omega))|(refine Ze rfl ?_ ?_;·first|omega|rfl|assumption|(simp only[lmT];omega))|refine Zbe (Zj hm rfl rfl ?_)|exact Zbe (Zf hm rfl rfl rfl (nbT rfl) rfl rfl))
|refine Zs rfl (tl hn rfl) ?_
|refine Zx (tl hn rfl) ?_
|refine Zr rfl rfl rfl rfl (nbT rfl) ?_
|refine Zbi Zk hn rfl rfl ?_
|refine Zbj ?_
|refine Zo 30 Yc hn rfl (by kernel_rfl) rfl ?_
|((first|refine Zc hn rfl rfl rfl ?_|refine Zl rfl rfl ?_);first
|refine⟨_,Zq rfl rfl (by omega),?_⟩
|refine⟨_,Zb rfl rfl (by omega) (by assumption),?_⟩
|refine⟨_,Zw rfl rfl rfl rfl rfl rfl,?_⟩)
|(refine Zv rfl rfl rfl ?_ ?_<;>intro h<;>try(exfalso;first|omega|contradiction|(simp only[lmT]at h;omega))))
   refine Zbf 30 rfl (Zbe (Xl (rs:=(Nf y v.number++ws.flatten).map RV.u8) hm rfl rfl rfl ?_ rfl))
   show List.map AV.ro _=List.map AV.ro _
   try generalize ws.flatten=wf
   simp[Wj]
  ·refine Mn 3 8 (ws.flatten.map fun z=>[RV.u8 z]) hm rfl rfl (by rw[Wj]) (fun x hx=>by obtain⟨y,_,rfl⟩:=List.mem_map.1 hx;rfl) (⟨by simp[AV.onlys,AV.only],by simp[AV.onlys,AV.only],Yg _ _,by simp[AV.onlys,AV.only],trivial⟩) ?_
   repeat' (first
|refine Uz (t:=106) rfl rfl rfl rfl rfl (tl hn rfl) ?_
|((first|refine Zc hn rfl rfl rfl ?_|refine Zl rfl rfl ?_);first
|refine⟨_,Zu v.items.length rfl hni,?_⟩
|refine⟨_,Zu v.bytes.length rfl hnb,?_⟩
|refine⟨_,Q8 rfl,?_⟩)
|refine Zbg Zk hn rfl ?_
|refine Zbh ?_
|refine Za 30 rfl ?_
|(refine Zbf 30 rfl ?_;first|refine Zg rfl ?_|(refine Zd rfl ?_ ?_;·first|omega|rfl|assumption|(simp only[lmT];omega))|(refine Ze rfl ?_ ?_;·first|omega|rfl|assumption|(simp only[lmT];omega))|refine Zbe (Zj hm rfl rfl ?_)|exact Zbe (Zf hm rfl rfl rfl (nbT rfl) rfl rfl))
|refine Zs rfl (tl hn rfl) ?_
|refine Zx (tl hn rfl) ?_
|refine Zr rfl rfl rfl rfl (nbT rfl) ?_
|refine Zbi Zk hn rfl rfl ?_
|refine Zbj ?_
|refine Zo 30 Yc hn rfl (by kernel_rfl) rfl ?_
|((first|refine Zc hn rfl rfl rfl ?_|refine Zl rfl rfl ?_);first
|refine⟨_,Zq rfl rfl (by omega),?_⟩
|refine⟨_,Zb rfl rfl (by omega) (by assumption),?_⟩
|refine⟨_,Zw rfl rfl rfl rfl rfl rfl,?_⟩)
|(refine Zv rfl rfl rfl ?_ ?_<;>intro h<;>try(exfalso;first|omega|contradiction|(simp only[lmT]at h;omega))))
   refine Yl (t:=108) (i:=4) (n:=1) (rs:=[RV.u8 (u8i v.items.length)]) (els:=(ws.flatten).map fun z=>[RV.u8 z]) rfl rfl rfl rfl rfl rfl rfl (FreeI.at_ (i:=4) ⟨by simp[AV.onlys,AV.only],by simp[AV.onlys,AV.only],Yg _ _,by simp[AV.onlys,AV.only],by simp[AV.onlys,AV.only],trivial⟩) (by simp only[lmT];omega) (by simp only[lmT];omega) (tl hn rfl) ?_
   repeat' (first
|refine Zbg Zk hn rfl ?_
|refine Zbh ?_
|refine Za 30 rfl ?_
|(refine Zbf 30 rfl ?_;first|refine Zg rfl ?_|(refine Zd rfl ?_ ?_;·first|omega|rfl|assumption|(simp only[lmT];omega))|(refine Ze rfl ?_ ?_;·first|omega|rfl|assumption|(simp only[lmT];omega))|refine Zbe (Zj hm rfl rfl ?_)|exact Zbe (Zf hm rfl rfl rfl (nbT rfl) rfl rfl))
|refine Zs rfl (tl hn rfl) ?_
|refine Zx (tl hn rfl) ?_
|refine Zr rfl rfl rfl rfl (nbT rfl) ?_
|refine Zbi Zk hn rfl rfl ?_
|refine Zbj ?_
|refine Zo 30 Yc hn rfl (by kernel_rfl) rfl ?_
|((first|refine Zc hn rfl rfl rfl ?_|refine Zl rfl rfl ?_);first
|refine⟨_,Zq rfl rfl (by omega),?_⟩
|refine⟨_,Zb rfl rfl (by omega) (by assumption),?_⟩
|refine⟨_,Zw rfl rfl rfl rfl rfl rfl,?_⟩)
|(refine Zv rfl rfl rfl ?_ ?_<;>intro h<;>try(exfalso;first|omega|contradiction|(simp only[lmT]at h;omega))))
   refine Zbf 30 rfl (Zbe (Xl (rs:=(u8i v.items.length::ws.flatten).map RV.u8) hm rfl rfl rfl ?_ rfl))
   show List.map AV.ro _=List.map AV.ro _
   try generalize ws.flatten=wf
   simp[Wj]
  ·have hlend:∀C:Ctx,Lends C (prS d x v ws.flatten) (.own 3) (Ya ws.flatten):=fun C=>Lends.own (i:=3) (o:=⟨5,1,(ws.flatten.map RV.u8).map .ro⟩) (els:=ws.flatten.map fun z=>[RV.u8 z]) rfl (by rw[Wj]) (fun x hx=>by obtain⟨y,_,rfl⟩:=List.mem_map.1 hx;rfl)
   repeat' (first
|((first|refine Zc hn rfl rfl rfl ?_|refine Zl rfl rfl ?_);first
|refine⟨_,Zu v.items.length rfl hni,?_⟩
|refine⟨_,Zu v.bytes.length rfl hnb,?_⟩
|refine⟨_,T8 hs (.cons (hlend C) .nil),?_⟩
|refine⟨_,Q8 rfl,?_⟩)
|refine Zbg Zk hn rfl ?_
|refine Zbh ?_
|refine Za 30 rfl ?_
|((first|refine Zc hn rfl rfl rfl ?_|refine Zl rfl rfl ?_);first
|refine⟨_,Zw rfl rfl rfl rfl rfl rfl,?_⟩)
|(refine Zbf 30 rfl ?_;first|refine Zg rfl ?_|(refine Zd rfl ?_ ?_;·first|omega|rfl|assumption|(simp only[lmT];omega))|(refine Ze rfl ?_ ?_;·first|omega|rfl|assumption|(simp only[lmT];omega))|refine Zbe (Zj hm rfl rfl ?_)|exact Zbe (Zf hm rfl rfl rfl (nbT rfl) rfl rfl))
|refine Zs rfl (tl hn rfl) ?_
|refine Zx (tl hn rfl) ?_
|refine Zr rfl rfl rfl rfl (nbT rfl) ?_
|refine Zbi Zk hn rfl rfl ?_
|refine Zbj ?_
|refine Zo 30 Yc hn rfl (by kernel_rfl) rfl ?_
|((first|refine Zc hn rfl rfl rfl ?_|refine Zl rfl rfl ?_);first
|refine⟨_,Zq rfl rfl (by omega),?_⟩
|refine⟨_,Zb rfl rfl (by omega) (by assumption),?_⟩
|refine⟨_,Zw rfl rfl rfl rfl rfl rfl,?_⟩)
|(refine Zv rfl rfl rfl ?_ ?_<;>intro h<;>try(exfalso;first|omega|contradiction|(simp only[lmT]at h;omega))))
   refine Yl (t:=116) (i:=3) (n:=ws.flatten.length) (rs:=ws.flatten.map RV.u8) (els:=[[RV.u8 (u8i s)]]) rfl rfl rfl rfl rfl rfl (by rw[lmT,Nat.mul_one]) (FreeI.at_ (i:=3) ⟨by simp[AV.onlys,AV.only],by simp[AV.onlys,AV.only],Yg _ _,Yg _ _,trivial⟩) (by simp only[Za8,Za9];omega) (by simp only[Za8,Za9];omega) (tl hn rfl) ?_
   repeat' (first
|refine Zbg Zk hn rfl ?_
|refine Zbh ?_
|refine Za 30 rfl ?_
|(refine Zbf 30 rfl ?_;first|refine Zg rfl ?_|(refine Zd rfl ?_ ?_;·first|omega|rfl|assumption|(simp only[lmT];omega))|(refine Ze rfl ?_ ?_;·first|omega|rfl|assumption|(simp only[lmT];omega))|refine Zbe (Zj hm rfl rfl ?_)|exact Zbe (Zf hm rfl rfl rfl (nbT rfl) rfl rfl))
|refine Zs rfl (tl hn rfl) ?_
|refine Zx (tl hn rfl) ?_
|refine Zr rfl rfl rfl rfl (nbT rfl) ?_
|refine Zbi Zk hn rfl rfl ?_
|refine Zbj ?_
|refine Zo 30 Yc hn rfl (by kernel_rfl) rfl ?_
|((first|refine Zc hn rfl rfl rfl ?_|refine Zl rfl rfl ?_);first
|refine⟨_,Zq rfl rfl (by omega),?_⟩
|refine⟨_,Zb rfl rfl (by omega) (by assumption),?_⟩
|refine⟨_,Zw rfl rfl rfl rfl rfl rfl,?_⟩)
|(refine Zv rfl rfl rfl ?_ ?_<;>intro h<;>try(exfalso;first|omega|contradiction|(simp only[lmT]at h;omega))))
   refine Zbf 30 rfl (Zbe (Xl (rs:=(ws.flatten++[u8i s]).map RV.u8) hm rfl rfl rfl ?_ rfl))
   show List.map AV.ro _=List.map AV.ro _
   try generalize ws.flatten=wf
   simp[Wj]
  ·rw[hwn]
   repeat' (first
|((first|refine Zc hn rfl rfl rfl ?_|refine Zl rfl rfl ?_);first
|refine⟨_,Zu v.items.length rfl hni,?_⟩
|refine⟨_,Zu v.bytes.length rfl hnb,?_⟩)
|refine Zbg Zk hn rfl ?_
|refine Zbh ?_
|refine Za 30 rfl ?_
|(refine Zbf 30 rfl ?_;first|refine Zg rfl ?_|(refine Zd rfl ?_ ?_;·first|omega|rfl|assumption|(simp only[lmT];omega))|(refine Ze rfl ?_ ?_;·first|omega|rfl|assumption|(simp only[lmT];omega))|refine Zbe (Zj hm rfl rfl ?_)|exact Zbe (Zf hm rfl rfl rfl (nbT rfl) rfl rfl))
|refine Zs rfl (tl hn rfl) ?_
|refine Zx (tl hn rfl) ?_
|refine Zr rfl rfl rfl rfl (nbT rfl) ?_
|refine Zbi Zk hn rfl rfl ?_
|refine Zbj ?_
|refine Zo 30 Yc hn rfl (by kernel_rfl) rfl ?_
|((first|refine Zc hn rfl rfl rfl ?_|refine Zl rfl rfl ?_);first
|refine⟨_,Zq rfl rfl (by omega),?_⟩
|refine⟨_,Zb rfl rfl (by omega) (by assumption),?_⟩
|refine⟨_,Zw rfl rfl rfl rfl rfl rfl,?_⟩)
|(refine Zv rfl rfl rfl ?_ ?_<;>intro h<;>try(exfalso;first|omega|contradiction|(simp only[lmT]at h;omega))))
   refine Yh 30 rfl (fun j=>[(5,.obj 1 0),(7,.obj 2 0),(8,.own 3),(10,.int (j:Int))]) (fun j=>prS d x v (T6 t0 (v.bytes.take j))) (fun _=>True) v.bytes.length 0 (Nat.zero_le _) trivial ⟨rfl,rfl,rfl,rfl,trivial⟩ rfl fun j hj _ next=>?_
   by_cases hlt:j<v.bytes.length
   ·obtain⟨c,hc⟩:∃c,v.bytes[(j:Int).toNat]?=some c:=⟨_,Za6 hlt⟩
    have hc':v.bytes[j]?=some c:=hc
    have hel:=Hg t0 (v.bytes.take j)
    have htl:(v.bytes.take j).length≤j:=by rw[List.length_take];omega
    have hcl:=c.toNat_lt
    by_cases h1:c=t0
    ·have h1':(c.toNat:Int)=t0.toNat:=by rw[h1]
     repeat' (first
|refine Yl (t:=146) (i:=3) (n:=(T6 t0 (v.bytes.take j)).length) (rs:=(T6 t0 (v.bytes.take j)).map RV.u8) (els:=[[RV.u8 92]]) rfl rfl rfl rfl rfl rfl (by rw[lmT,Nat.mul_one]) (FreeI.at_ (i:=3) ⟨by simp[AV.onlys,AV.only],by simp[AV.onlys,AV.only],Yg _ _,Yg _ _,trivial⟩) (by simp only[Za8,Za9];omega) (by simp only[Za8,Za9];omega) (tl hn rfl) ?_
|refine Yl (t:=154) (i:=3) (n:=(T6 t0 (v.bytes.take j)).length+1) (rs:=(T6 t0 (v.bytes.take j)).map RV.u8++[RV.u8 92]) (els:=[[RV.u8 c]]) rfl rfl rfl rfl rfl rfl (by simp) (FreeI.at_ (i:=3) ⟨by simp[AV.onlys,AV.only],by simp[AV.onlys,AV.only],Yg _ _,Yg _ _,trivial⟩) (by simp only[Za8,Za9];omega) (by simp only[Za8,Za9];omega) (tl hn rfl) ?_
|((first|refine Zc hn rfl rfl rfl ?_|refine Zl rfl rfl ?_);first
|refine⟨_,Zu v.items.length rfl hni,?_⟩
|refine⟨_,Zu v.bytes.length rfl hnb,?_⟩)
|refine Zbg Zk hn rfl ?_
|refine Zbh ?_
|refine Za 30 rfl ?_
|((first|refine Zc hn rfl rfl rfl ?_|refine Zl rfl rfl ?_);first
|refine⟨_,Zw rfl rfl rfl rfl rfl rfl,?_⟩)
|(refine Zbf 30 rfl ?_;first|refine Zg rfl ?_|(refine Zd rfl ?_ ?_;·first|omega|rfl|assumption|(simp only[lmT];omega))|(refine Ze rfl ?_ ?_;·first|omega|rfl|assumption|(simp only[lmT];omega))|refine Zbe (Zj hm rfl rfl ?_)|exact Zbe (Zf hm rfl rfl rfl (nbT rfl) rfl rfl))
|refine Zs rfl (tl hn rfl) ?_
|refine Zx (tl hn rfl) ?_
|refine Zr rfl rfl rfl rfl (nbT rfl) ?_
|refine Zbi Zk hn rfl rfl ?_
|refine Zbj ?_
|refine Zo 30 Yc hn rfl (by kernel_rfl) rfl ?_
|((first|refine Zc hn rfl rfl rfl ?_|refine Zl rfl rfl ?_);first
|refine⟨_,Zq rfl rfl (by omega),?_⟩
|refine⟨_,Zb rfl rfl (by omega) (by assumption),?_⟩
|refine⟨_,Zw rfl rfl rfl rfl rfl rfl,?_⟩)
|(refine Zv rfl rfl rfl ?_ ?_<;>intro h<;>try(exfalso;first|omega|contradiction|(simp only[lmT]at h;omega))))
     refine next _ _ ⟨rfl,rfl,rfl,rfl,trivial⟩ hlt trivial ?_
     show prS d x v (T6 t0 (v.bytes.take (j+1)))=[_,_,_,Ob.mk _ _ _]
     rw[D4 hc',if_pos (.inl h1)]
     simp only[prS,List.map_append,List.map_cons,List.map_nil,List.flatten_cons,List.flatten_nil,List.append_nil,List.append_assoc,List.cons_append,List.nil_append]
    by_cases h2:c=92
    ·have h1':¬(c.toNat:Int)=t0.toNat:=fun e=>h1 (UInt8.toNat_inj.1 (by omega))
     have h2':(c.toNat:Int)=92:=by rw[h2];rfl
     repeat' (first
|refine Yl (t:=146) (i:=3) (n:=(T6 t0 (v.bytes.take j)).length) (rs:=(T6 t0 (v.bytes.take j)).map RV.u8) (els:=[[RV.u8 92]]) rfl rfl rfl rfl rfl rfl (by rw[lmT,Nat.mul_one]) (FreeI.at_ (i:=3) ⟨by simp[AV.onlys,AV.only],by simp[AV.onlys,AV.only],Yg _ _,Yg _ _,trivial⟩) (by simp only[Za8,Za9];omega) (by simp only[Za8,Za9];omega) (tl hn rfl) ?_
|refine Yl (t:=154) (i:=3) (n:=(T6 t0 (v.bytes.take j)).length+1) (rs:=(T6 t0 (v.bytes.take j)).map RV.u8++[RV.u8 92]) (els:=[[RV.u8 c]]) rfl rfl rfl rfl rfl rfl (by simp) (FreeI.at_ (i:=3) ⟨by simp[AV.onlys,AV.only],by simp[AV.onlys,AV.only],Yg _ _,Yg _ _,trivial⟩) (by simp only[Za8,Za9];omega) (by simp only[Za8,Za9];omega) (tl hn rfl) ?_
|((first|refine Zc hn rfl rfl rfl ?_|refine Zl rfl rfl ?_);first
|refine⟨_,Zu v.items.length rfl hni,?_⟩
|refine⟨_,Zu v.bytes.length rfl hnb,?_⟩)
|refine Zbg Zk hn rfl ?_
|refine Zbh ?_
|refine Za 30 rfl ?_
|((first|refine Zc hn rfl rfl rfl ?_|refine Zl rfl rfl ?_);first
|refine⟨_,Zw rfl rfl rfl rfl rfl rfl,?_⟩)
|(refine Zbf 30 rfl ?_;first|refine Zg rfl ?_|(refine Zd rfl ?_ ?_;·first|omega|rfl|assumption|(simp only[lmT];omega))|(refine Ze rfl ?_ ?_;·first|omega|rfl|assumption|(simp only[lmT];omega))|refine Zbe (Zj hm rfl rfl ?_)|exact Zbe (Zf hm rfl rfl rfl (nbT rfl) rfl rfl))
|refine Zs rfl (tl hn rfl) ?_
|refine Zx (tl hn rfl) ?_
|refine Zr rfl rfl rfl rfl (nbT rfl) ?_
|refine Zbi Zk hn rfl rfl ?_
|refine Zbj ?_
|refine Zo 30 Yc hn rfl (by kernel_rfl) rfl ?_
|((first|refine Zc hn rfl rfl rfl ?_|refine Zl rfl rfl ?_);first
|refine⟨_,Zq rfl rfl (by omega),?_⟩
|refine⟨_,Zb rfl rfl (by omega) (by assumption),?_⟩
|refine⟨_,Zw rfl rfl rfl rfl rfl rfl,?_⟩)
|(refine Zv rfl rfl rfl ?_ ?_<;>intro h<;>try(exfalso;first|omega|contradiction|(simp only[lmT]at h;omega))))
     refine next _ _ ⟨rfl,rfl,rfl,rfl,trivial⟩ hlt trivial ?_
     show prS d x v (T6 t0 (v.bytes.take (j+1)))=[_,_,_,Ob.mk _ _ _]
     rw[D4 hc',if_pos (.inr h2)]
     simp only[prS,List.map_append,List.map_cons,List.map_nil,List.flatten_cons,List.flatten_nil,List.append_nil,List.append_assoc,List.cons_append,List.nil_append]
    ·have h1':¬(c.toNat:Int)=t0.toNat:=fun e=>h1 (UInt8.toNat_inj.1 (by omega))
     have h2':¬(c.toNat:Int)=92:=fun e=>h2 (UInt8.toNat_inj.1 (by rw[show(92:UInt8).toNat=92 from rfl];omega))
     repeat' (first
|refine Yl (t:=154) (i:=3) (n:=(T6 t0 (v.bytes.take j)).length) (rs:=(T6 t0 (v.bytes.take j)).map RV.u8) (els:=[[RV.u8 c]]) rfl rfl rfl rfl rfl rfl (by rw[lmT,Nat.mul_one]) (FreeI.at_ (i:=3) ⟨by simp[AV.onlys,AV.only],by simp[AV.onlys,AV.only],Yg _ _,Yg _ _,trivial⟩) (by simp only[Za8,Za9];omega) (by simp only[Za8,Za9];omega) (tl hn rfl) ?_
|((first|refine Zc hn rfl rfl rfl ?_|refine Zl rfl rfl ?_);first
|refine⟨_,Zu v.items.length rfl hni,?_⟩
|refine⟨_,Zu v.bytes.length rfl hnb,?_⟩)
|refine Zbg Zk hn rfl ?_
|refine Zbh ?_
|refine Za 30 rfl ?_
|((first|refine Zc hn rfl rfl rfl ?_|refine Zl rfl rfl ?_);first
|refine⟨_,Zw rfl rfl rfl rfl rfl rfl,?_⟩)
|(refine Zbf 30 rfl ?_;first|refine Zg rfl ?_|(refine Zd rfl ?_ ?_;·first|omega|rfl|assumption|(simp only[lmT];omega))|(refine Ze rfl ?_ ?_;·first|omega|rfl|assumption|(simp only[lmT];omega))|refine Zbe (Zj hm rfl rfl ?_)|exact Zbe (Zf hm rfl rfl rfl (nbT rfl) rfl rfl))
|refine Zs rfl (tl hn rfl) ?_
|refine Zx (tl hn rfl) ?_
|refine Zr rfl rfl rfl rfl (nbT rfl) ?_
|refine Zbi Zk hn rfl rfl ?_
|refine Zbj ?_
|refine Zo 30 Yc hn rfl (by kernel_rfl) rfl ?_
|((first|refine Zc hn rfl rfl rfl ?_|refine Zl rfl rfl ?_);first
|refine⟨_,Zq rfl rfl (by omega),?_⟩
|refine⟨_,Zb rfl rfl (by omega) (by assumption),?_⟩
|refine⟨_,Zw rfl rfl rfl rfl rfl rfl,?_⟩)
|(refine Zv rfl rfl rfl ?_ ?_<;>intro h<;>try(exfalso;first|omega|contradiction|(simp only[lmT]at h;omega))))
     refine next _ _ ⟨rfl,rfl,rfl,rfl,trivial⟩ hlt trivial ?_
     show prS d x v (T6 t0 (v.bytes.take (j+1)))=[_,_,_,Ob.mk _ _ _]
     rw[D4 hc',if_neg (fun e=>e.elim h1 h2)]
     simp only[prS,List.map_append,List.map_cons,List.map_nil,List.flatten_cons,List.flatten_nil,List.append_nil,List.append_assoc,List.cons_append,List.nil_append]
   ·obtain rfl:j=v.bytes.length:=by omega
    have htk:v.bytes.take v.bytes.length=v.bytes:=List.take_length
    rw[htk]
    have hel:=Hg t0 v.bytes
    repeat' (first
|refine Yl (t:=161) (i:=3) (n:=(T6 t0 v.bytes).length) (rs:=(T6 t0 v.bytes).map RV.u8) (els:=[[RV.u8 t0]]) rfl rfl rfl rfl rfl rfl (by rw[lmT,Nat.mul_one]) (FreeI.at_ (i:=3) ⟨by simp[AV.onlys,AV.only],by simp[AV.onlys,AV.only],Yg _ _,Yg _ _,trivial⟩) (by simp only[Za8,Za9];omega) (by simp only[Za8,Za9];omega) (tl hn rfl) ?_
|((first|refine Zc hn rfl rfl rfl ?_|refine Zl rfl rfl ?_);first
|refine⟨_,Zu v.items.length rfl hni,?_⟩
|refine⟨_,Zu v.bytes.length rfl hnb,?_⟩)
|refine Zbg Zk hn rfl ?_
|refine Zbh ?_
|refine Za 30 rfl ?_
|((first|refine Zc hn rfl rfl rfl ?_|refine Zl rfl rfl ?_);first
|refine⟨_,Zw rfl rfl rfl rfl rfl rfl,?_⟩)
|(refine Zbf 30 rfl ?_;first|refine Zg rfl ?_|(refine Zd rfl ?_ ?_;·first|omega|rfl|assumption|(simp only[lmT];omega))|(refine Ze rfl ?_ ?_;·first|omega|rfl|assumption|(simp only[lmT];omega))|refine Zbe (Zj hm rfl rfl ?_)|exact Zbe (Zf hm rfl rfl rfl (nbT rfl) rfl rfl))
|refine Zs rfl (tl hn rfl) ?_
|refine Zx (tl hn rfl) ?_
|refine Zr rfl rfl rfl rfl (nbT rfl) ?_
|refine Zbi Zk hn rfl rfl ?_
|refine Zbj ?_
|refine Zo 30 Yc hn rfl (by kernel_rfl) rfl ?_
|((first|refine Zc hn rfl rfl rfl ?_|refine Zl rfl rfl ?_);first
|refine⟨_,Zq rfl rfl (by omega),?_⟩
|refine⟨_,Zb rfl rfl (by omega) (by assumption),?_⟩
|refine⟨_,Zw rfl rfl rfl rfl rfl rfl,?_⟩)
|(refine Zv rfl rfl rfl ?_ ?_<;>intro h<;>try(exfalso;first|omega|contradiction|(simp only[lmT]at h;omega))))
    refine Zbf 30 rfl (Zbe (Xl (rs:=(T6 t0 v.bytes++[t0]).map RV.u8) hm rfl rfl rfl ?_ rfl))
    show List.map AV.ro _=List.map AV.ro _
    generalize T6 t0 v.bytes=ee
    simp
set_option maxHeartbeats 8000000 in
theorem print_acR{d:Des}(hD:DrawD d):∀v:Tre,v.Ok→v.total≤16384→∀(r:Nat) (x:Rul),d[r]?=some x→Vld d r v→∃bs:List UInt8,AC Tryz.prog 24 [X1 d,.int (r:Int),Gj v] (fun rr=>rr = .row 5 1 (bs.map RV.u8))∧Prt d r v bs:=by
 refine Tre.ind fun v ih hvo ht r x hx hv=>?_
 have hG:=hD.good
 obtain⟨hown,hit⟩:=(Eq hx).1 hv
 have hte:=v.total_eq
 have hce:=v.count_eq
 have hwe:=v.weight_eq
 have hcl:=v.count_le
 have hwl':=v.weight_le
 have hvi:=hvo.out.2.2.2
 obtain⟨ws,hwl,hws⟩:=An (fun j y bs=>∃q:Nat,Xb x v.number j=q∧q<r∧ACv Tryz.prog 24 [X1 d,.int (Xb x v.number j),Gj y] (Ya bs)∧Prt d q y bs) v.items 0 (fun j y hj=>by
  have hjl:=(Za5.1 hj).1
  have hm:=Zba hj
  have hb:=own_item hG hx hown hjl
  have hs:=U7 (f:=Tre.total) hm
  obtain⟨q,hq⟩:∃q:Nat,Xb x v.number j=q:=⟨(Xb x v.number j).toNat,by omega⟩
  have h1:=hit j y hj
  rw[hq]at h1 hb
  obtain⟨bs,h2,h3⟩:=ih y hm (hvi y hm) (by omega) q _ (Za6 (show q<d.length by have:=(Za5.1 hx).1;omega)) h1
  rw[Nat.zero_add]
  exact⟨bs,q,hq,by omega,by rw[hq];exact h2.shut (by rintro _ rfl;exact Qc _ _),h3⟩)
 have hfm:=flat_most v.items ws hwl fun j y bs hj hj'=>by
  obtain⟨q,_,_,_,h⟩:=hws j y bs hj hj'
  exact h.most
 have hw:∀(j:Nat) y bs,v.items[j]?=some y→ws[j]?=some bs→ACv Tryz.prog 24 [X1 d,.int (Xb x v.number j),Gj y] (Ya bs):=fun j y bs hj hj'=>by
  obtain⟨q,_,_,h,_⟩:=hws j y bs hj hj'
  rwa [Nat.zero_add]at h
 have hfl:ws.flatten.length≤200000:=by omega
 have W:=P2 hD v hvo (by omega) r x hx hv ws hwl hfl hw
 obtain⟨k',k1,k2,hr,hk',_,hrl⟩:=hD.kinds hx
 have hlen:=hD.lens hx
 have hfirst:∀b:Nat,stB d (r+1) r b=_:=fun b=>stB_at hx
 have hdef:∀b:Nat,(x.kind=1∨x.kind=3∨x.kind=4∨x.kind=5∨x.kind=10)→stB d (r+1) r b=true:=fun b e=>by
  rw[hfirst,if_neg (by omega),if_neg (by omega),if_neg (by omega),if_neg (by omega)]
 have hne:∀{l:List UInt8},1≤l.length→l≠[]:=fun {l} h e=>by subst e;simp at h
 -- the first item, of kinds 6 and 9
 have hone:(x.kind=6∨x.kind=9)→0<v.items.length→1≤ws.flatten.length∧stB d (r+1) r (ws.flatten.headD 0).toNat=true:=fun e hpos=>by
  obtain⟨y,hy⟩:∃y,v.items[0]?=some y:=⟨_,Za6 hpos⟩
  obtain⟨bs,hbs⟩:∃bs,ws[0]?=some bs:=⟨_,Za6 (by omega)⟩
  obtain⟨q,hq,hqr,_,hp⟩:=hws 0 y bs hy hbs
  obtain⟨h1,h2⟩:=flat_head hbs hp.pos
  have hpp:=hp.pos
  refine⟨by omega,?_⟩
  rw[h1,hfirst,if_neg (by omega),if_pos e]
  have hk0:x.kids.headD 0=q:=by
   have hkl:0<x.kids.length:=by
    rcases e with e|e
    ·have:=hr.hkids.2.2.1 (by omega);have:=hr.hnames.1 (by omega);omega
    ·obtain⟨z,_,hz⟩:=hr.hkids.2.2.2.2.1 (by omega);rw[hz];simp
   have hh:x.kids[0]?=some (x.kids.headD 0):=by
    cases hxk:x.kids with
    |nil=>rw[hxk]at hkl;simp at hkl
    |cons a l=>rfl
   simp only[Nat.add_zero,Nat.zero_add]at hq
   unfold Xb at hq
   rw[if_neg (by omega)]at hq
   rcases e with e|e
   ·rw[if_pos e]at hq
    rw[show((0:Nat):Int).toNat=0 from rfl,hh]at hq
    exact hq
   ·rw[if_neg (by omega),if_neg (by omega),if_pos (.inr e),hh]at hq
    exact hq
  rw[hk0,Int.toNat_natCast,stB_deep hG q (by omega) r hqr]
  exact hp.first
 by_cases e1:x.kind=1
 ·unfold Nl at hown
  rw[if_pos e1]at hown
  have hs:=hr.hsize.1 (by omega)
  have hf:Fit v.number x.size:=⟨hs.1,by omega,hown.1.1,by omega⟩
  have hl:=Ek hf
  exact⟨_,W _ (.inl ⟨e1,rfl,hne hl.1⟩),hl.1,by omega,hdef _ (.inl e1)⟩
 by_cases e2:x.kind=2
 ·have hb:=hr.hbytes.1 (by omega)
  refine⟨_,W _ (.inr (.inl ⟨e2,rfl⟩)),hb.1,by omega,?_⟩
  rw[hfirst,if_pos e2]
  exact decide_eq_true rfl
 by_cases e3:x.kind=3
 ·have hs:=hr.hsize.2.1 (by omega)
  unfold Nl at hown
  rw[if_neg e1,if_neg e2,if_pos e3]at hown
  exact⟨_,W _ (.inr (.inr (.inl ⟨e3,rfl⟩))),by omega,by omega,hdef _ (.inr (.inl e3))⟩
 by_cases e4:x.kind=4
 ·obtain⟨z,hz,hkd⟩:=hr.hkids.1 (by omega)
  obtain⟨y,hy,hz0,hfit⟩:=Rf hD hz.up.1
  unfold Nl at hown
  rw[if_neg e1,if_neg e2,if_neg e3,if_pos e4,hkd]at hown
  have hml:=(mn_le 400 (lim d z)).2.1
  have hm:(v.bytes.length:Int)≤mn 400 (lim d z):=hown.2.1
  have hf:=hfit v.bytes.length (by omega) (by omega)
  have hl:=Ek hf
  exact⟨_,W _ (.inr (.inr (.inr (.inl ⟨z,y,e4,by rw[hkd];rfl,hy,hz0,rfl,hne hl.1⟩)))),by rw[Za7];omega,by rw[Za7];omega,hdef _ (.inr (.inr (.inl e4)))⟩
 by_cases e5:x.kind=5
 ·obtain⟨z,z',hz,_,hkd⟩:=hr.hkids.2.1 (by omega)
  obtain⟨y,hy,hz0,hfit⟩:=Rf hD hz.up.1
  unfold Nl at hown
  rw[if_neg e1,if_neg e2,if_neg e3,if_neg e4,if_neg (by omega),if_pos e5,hkd]at hown
  have hml:=(mn_le 40 (lim d z)).2.1
  have hm:(v.items.length:Int)≤mn 40 (lim d z):=hown.2.2
  have hf:=hfit v.items.length (by omega) (by omega)
  have hl:=Ek hf
  exact⟨_,W _ (.inr (.inr (.inr (.inr (.inl ⟨z,y,e5,by rw[hkd];rfl,hy,hz0,rfl,hne hl.1⟩))))),by rw[Za7];omega,by rw[Za7];omega,hdef _ (.inr (.inr (.inr (.inl e5))))⟩
 by_cases e6:x.kind=6
 ·have hil:v.items.length=x.kids.length:=by
   unfold Nl at hown
   rw[if_neg e1,if_neg e2,if_neg e3,if_neg e4,if_neg (by omega),if_neg e5,if_pos e6]at hown
   exact hown.2.2
  have hkk:=(hr.hkids.2.2.1 (by omega)).1
  have hnn:=hr.hnames.1 (by omega)
  obtain⟨h1,h2⟩:=hone (.inl e6) (by omega)
  exact⟨_,W _ (.inr (.inr (.inr (.inr (.inr (.inl ⟨e6,rfl⟩)))))),h1,by omega,h2⟩
 by_cases e7:x.kind=7
 ·obtain⟨z,kl,hz,hkl,_,hkd⟩:=hr.hkids.2.2.2.1 (by omega)
  obtain⟨y,hy,hz0,hfit⟩:=Rf hD hz.up.1
  have hTo:=(Wk (Mf hG hx)).2.1 e7
  unfold Nl at hown
  rw[if_neg e1,if_neg e2,if_neg e3,if_neg e4,if_neg (by omega),if_neg e5,if_neg e6,if_pos e7]at hown
  have hnb:=Og hTo e7 hown.2.2
  have hk0:x.kids.headD 0=z:=by rw[hkd];rfl
  rw[hk0]at hnb
  have hf:=hfit v.number hnb.1 hnb.2
  have hl:=Ek hf
  refine⟨_,W _ (.inr (.inr (.inr (.inr (.inr (.inr (.inl ⟨z,y,e7,by rw[hkd];rfl,hy,hz0,rfl,hne hl.1⟩))))))),by rw[Za7];omega,by rw[Za7];omega,?_⟩
  rw[Fp (hne hl.1),hfirst,if_neg e2,if_neg (by omega),if_pos e7,hk0,hy]
  have hmem:v.number∈x.tags:=by
   have h0:=hown.2.2
   unfold Xb at h0
   rw[if_neg e5,if_neg e6,if_pos e7]at h0
   have:W7 x.tags v.number<x.tags.length:=by
    rcases Nat.lt_or_ge (W7 x.tags v.number) x.tags.length with h|h
    ·exact h
    ·rw[Nb (by rw[hkd];simp;omega)]at h0;omega
   exact Zba (Gl this)
  exact List.any_eq_true.2 ⟨_,hmem,decide_eq_true rfl⟩
 by_cases e8:x.kind=8
 ·unfold Nl at hown
  rw[if_neg e1,if_neg e2,if_neg e3,if_neg e4,if_neg (by omega),if_neg e5,if_neg e6,if_neg e7,if_pos e8]at hown
  refine⟨_,W _ (.inr (.inr (.inr (.inr (.inr (.inr (.inr (.inl ⟨e8,rfl⟩)))))))),by simp,by rw[Za8];omega,?_⟩
  rw[hfirst,if_neg e2,if_neg (by omega),if_neg e7,if_pos e8]
  refine decide_eq_true ?_
  show(u8i (v.items.length:Int)).toNat<2
  have:v.items.length=0∨v.items.length=1:=by omega
  rcases this with h|h<;>rw[h]<;>decide
 by_cases e9:x.kind=9
 ·unfold Nl at hown
  rw[if_neg e1,if_neg e2,if_neg e3,if_neg e4,if_neg (by omega),if_neg e5,if_neg e6,if_neg e7,if_neg e8]at hown
  obtain⟨s,_,_,hs⟩:=Gn ws.flatten (by omega)
  obtain⟨h1,h2⟩:=hone (.inr e9) (by omega)
  refine⟨_,W _ (.inr (.inr (.inr (.inr (.inr (.inr (.inr (.inr (.inl ⟨s,e9,hs,rfl⟩))))))))),by rw[Za7];omega,by rw[Za7,Zbb];omega,?_⟩
  rw[Fp (hne h1)]
  exact h2
 have e10:x.kind=10:=by omega
 unfold Nl at hown
 rw[if_neg e1,if_neg e2,if_neg e3,if_neg e4,if_pos e10]at hown
 obtain⟨y0,hy0,hbk⟩:=hr.hbytes.2.1 (by omega)
 have hw0:ws.flatten=[]:=by
  have:ws.length=0:=by omega
  rw[List.length_eq_zero_iff.1 this];rfl
 have hel:=Hg (u8i y0) v.bytes
 refine⟨_,W _ (.inr (.inr (.inr (.inr (.inr (.inr (.inr (.inr (.inr ⟨u8i y0,e10,by rw[hbk];rfl,hw0,rfl⟩))))))))),by rw[Za7,Zbb];omega,by rw[Za7,Zbb];omega,hdef _ (.inr (.inr (.inr (.inr e10))))⟩
set_option maxHeartbeats 8000000 in
theorem l1Bent_d(b:List UInt8)(hb:b.length≤1048576)(l:List UInt8)(h0:0<l.length)(hl:l.length≤200000):Drw Tryz.prog 60 27 b [Ya l] (QBy fun x=>x.length≤l.length+1):=by
 have hll:(l.map fun z=>[RV.u8 z]).length=l.length:=lmT ..
 have hl4:=G5 b hb [0,1,128,255] (by simp) (by simp)
 refine Ys Tryz.func27 rfl _ Tryz.ntmps27 (by simp) fun C g u i h hn hm hu hi=>?_
 repeat' (first
|refine Xa (tl hn rfl) ?_
|refine Zbg Zk hn rfl ?_
|refine Zbh ?_
|refine Za 30 rfl ?_
|(refine Zbf 30 rfl ?_;first|(refine Zd rfl ?_ ?_;·first|omega|rfl|assumption|(simp only[lmT];omega))|refine Z1 rfl (fun h=>?_) (fun h=>?_)|refine Zbe (Zj hm rfl rfl ?_)|exact Zbe (Zf hm rfl rfl rfl (nbT rfl) rfl rfl))
|refine Z5 rfl rfl rfl rfl (nbT rfl) ?_
|(refine Zc hn rfl rfl rfl ?_;first
|refine⟨_,Zq rfl rfl (by omega),?_⟩
|refine⟨_,Zw rfl rfl rfl rfl rfl rfl,?_⟩))
 refine Yl (t:=8) (i:=1) (n:=0) (rs:=[]) (els:=l.map fun z=>[RV.u8 z]) rfl rfl rfl rfl rfl rfl rfl (FreeI.at_ (i:=1) ⟨by simp[Yp,AV.onlys,AV.only],by simp[AV.onlys,AV.only],trivial⟩) (by simp only[lmT];omega) (by simp only[lmT];omega) (tl hn rfl) ?_
 rw[Wj,List.nil_append]
 have hrow:((l.map RV.u8).map AV.ro).length=l.length:=by simp
 repeat' (first
|(refine Yt (t:=10) (Yr b hb 6 (by omega)) rfl hu hi rfl (Z6 [.int 6]) rfl (by first|rfl|repeat' (first|rfl|exact Z0 _|refine Zt ?_ ?_)) (tl hn rfl) ?_;intro i h k hi hk;obtain⟨hka,hkb⟩:=hk.2 (by omega))
|(refine Yt (t:=20) (Yr b hb (l.length:Int) (by omega)) rfl hu hi rfl (Z6 [.int (l.length:Int)]) rfl (by first|rfl|repeat' (first|rfl|exact Z0 _|refine Zt ?_ ?_)) (tl hn rfl) ?_;intro i h y hi hy;obtain⟨hya,hyb⟩:=hy.2 (by omega))
|(refine Yt (t:=22) (Yr b hb 256 (by omega)) rfl hu hi rfl (Z6 [.int 256]) rfl (by first|rfl|repeat' (first|rfl|exact Z0 _|refine Zt ?_ ?_)) (tl hn rfl) ?_;intro i h z hi hz;obtain⟨hza,hzb⟩:=hz.2 (by omega))
|(refine Yt (t:=32) (Yr b hb ((l.length:Int)+1) (by omega)) rfl hu hi rfl (Z6 [.int ((l.length:Int)+1)]) rfl (by first|rfl|repeat' (first|rfl|exact Z0 _|refine Zt ?_ ?_)) (tl hn rfl) ?_;intro i h y hi hy;obtain⟨hya,hyb⟩:=hy.2 (by omega))
|(refine Yt (t:=39) hl4 rfl hu hi rfl (Z6 [Xe [0,1,128,255]]) rfl (by first|rfl|repeat' (first|rfl|exact Z0 _|refine Zt ?_ ?_)) (tl hn rfl) ?_;intro i h z hi hz)
|refine Zbg Zk hn rfl ?_
|refine Zbh ?_
|refine Za 30 rfl ?_
|refine Z5 rfl rfl rfl rfl (by rw[hrow];omega) ?_
|(refine Zc hn rfl rfl rfl ?_;first
|refine⟨_,Yo (n:=l.length) rfl rfl (by rw[hrow,Nat.mul_one]),?_⟩
|refine⟨_,Q8 rfl,?_⟩
|refine⟨_,Yk (n:=l.length) rfl rfl rfl rfl (by rw[hrow,Nat.mul_one]) (by omega) (by omega),?_⟩)
|(refine Zbf 30 rfl ?_;first|(refine Zd rfl ?_ ?_;·first|omega|rfl|assumption|(simp only[lmT];omega))|refine Z1 rfl (fun h=>?_) (fun h=>?_)|refine Zbe (Zj hm rfl rfl ?_)|exact Zbe (Zf hm rfl rfl rfl (nbT rfl) rfl rfl))
|refine Z5 rfl rfl rfl rfl (nbT rfl) ?_
|(refine Zc hn rfl rfl rfl ?_;first
|refine⟨_,Zq rfl rfl (by omega),?_⟩
|refine⟨_,Zw rfl rfl rfl rfl rfl rfl,?_⟩))
 ·refine Z5 rfl rfl rfl rfl (by show y.toNat*1<((l.map RV.u8).map AV.ro).length;rw[hrow];omega) ?_
  repeat' (first
|refine Zbg Zk hn rfl ?_
|refine Zbh ?_
|refine Za 30 rfl ?_
|(refine Zbf 30 rfl ?_;first|(refine Zd rfl ?_ ?_;·first|omega|rfl|assumption|(simp only[lmT];omega))|refine Z1 rfl (fun h=>?_) (fun h=>?_)|refine Zbe (Zj hm rfl rfl ?_)|exact Zbe (Zf hm rfl rfl rfl (nbT rfl) rfl rfl))
|refine Z5 rfl rfl rfl rfl (nbT rfl) ?_
|(refine Zc hn rfl rfl rfl ?_;first
|refine⟨_,Zq rfl rfl (by omega),?_⟩
|refine⟨_,Zw rfl rfl rfl rfl rfl rfl,?_⟩))
  refine Zbf 30 rfl (Zbe (Jy (rs:=(l.set y.toNat (u8i z)).map RV.u8) hm rfl rfl rfl hi rfl (by decide) ?_ ⟨_,rfl,by simp⟩))
  show some (Ob.mk _ _ (((l.map RV.u8).map AV.ro).set (y.toNat*1) (.ro (.u8 (u8i z)))))=_
  rw[Nat.mul_one,List.map_set,List.map_set]
 ·refine Ss (i:=1) (n:=l.length) (q:=y) rfl rfl rfl rfl (by rw[hrow,Nat.mul_one]) hya (by omega) h0 ⟨by simp[Yp,AV.onlys,AV.only],by simp[AV.onlys,AV.only],trivial⟩ (fun j v hv=>by obtain⟨x,_,rfl⟩:=List.mem_map.1 (Zba hv);simp[AV.only]) (tl hn rfl) ?_
  repeat' (first
|refine Zbg Zk hn rfl ?_
|refine Zbh ?_
|refine Za 30 rfl ?_
|(refine Zbf 30 rfl ?_;first|(refine Zd rfl ?_ ?_;·first|omega|rfl|assumption|(simp only[lmT];omega))|refine Z1 rfl (fun h=>?_) (fun h=>?_)|refine Zbe (Zj hm rfl rfl ?_)|exact Zbe (Zf hm rfl rfl rfl (nbT rfl) rfl rfl))
|refine Z5 rfl rfl rfl rfl (nbT rfl) ?_
|(refine Zc hn rfl rfl rfl ?_;first
|refine⟨_,Zq rfl rfl (by omega),?_⟩
|refine⟨_,Zw rfl rfl rfl rfl rfl rfl,?_⟩))
  refine Zbf 30 rfl (Zbe (Jy (rs:=(l.take y.toNat).map RV.u8) hm rfl rfl rfl hi rfl (by decide) ?_ ⟨_,rfl,by show(l.take y.toNat).length≤l.length+1;rw[List.length_take];omega⟩))
  show some (Ob.mk _ _ (((l.map RV.u8).map AV.ro).take (y.toNat*1)))=_
  rw[Nat.mul_one,List.map_take,List.map_take]
 ·refine Yl (t:=42) (i:=1) (n:=l.length) (rs:=l.map RV.u8) (els:=[[RV.u8 (u8i z)]]) rfl rfl rfl rfl rfl rfl (by rw[lmT,Nat.mul_one]) (FreeI.at_ (i:=1) ⟨by simp[Yp,AV.onlys,AV.only],Yg _ _,trivial⟩) (by simp only[Za8,Za9];omega) (by simp only[Za8,Za9];omega) (tl hn rfl) ?_
  repeat' (first
|refine Zbg Zk hn rfl ?_
|refine Zbh ?_
|refine Za 30 rfl ?_
|(refine Zbf 30 rfl ?_;first|(refine Zd rfl ?_ ?_;·first|omega|rfl|assumption|(simp only[lmT];omega))|refine Z1 rfl (fun h=>?_) (fun h=>?_)|refine Zbe (Zj hm rfl rfl ?_)|exact Zbe (Zf hm rfl rfl rfl (nbT rfl) rfl rfl))
|refine Z5 rfl rfl rfl rfl (nbT rfl) ?_
|(refine Zc hn rfl rfl rfl ?_;first
|refine⟨_,Zq rfl rfl (by omega),?_⟩
|refine⟨_,Zw rfl rfl rfl rfl rfl rfl,?_⟩))
  refine Zbf 30 rfl (Zbe (Jy (rs:=(l++[u8i z]).map RV.u8) hm rfl rfl rfl hi rfl (by decide) ?_ ⟨_,rfl,by simp⟩))
  show some (Ob.mk _ _ ((l.map RV.u8++[[RV.u8 (u8i z)]].flatten).map AV.ro))=_
  simp
 ·exact Zbf 30 rfl (Zbe (Jy (rs:=l.map RV.u8) hm rfl rfl rfl hi rfl (by decide) rfl ⟨_,rfl,by omega⟩))
theorem L2{P:Program}{C:Ctx}{fn:Func}{ct:TypeId}{b:List UInt8}{g:Nat}{u:Value}{Q:RR→Prop}{S:St}{i h:Int}{more:List Ob}{xs:List ResultVar}(hm:∀x,C.mu x→x=g)(hr:fn.results=xs.toArray)(hl:xs.length≠1)(hσ:S.σ=Yp ct u i h::more)(ht:look S.env 0 = .pin 0 0 g)(hi:X8 b i)(vs:List AV)(hx:J7 P S xs vs)(rs:List RR)(is:List Nat)(hh:Vy S.σ rs vs is)(hn:is.Nodup)(h0:0∉is)(hQ:Q (.tup rs)) :
  ∀a w,Sim C S a w→Hz P C fn ct b g u Q a w:=by
 intro a w ⟨h1,h2,φ,hG,hH⟩
 obtain⟨us,k1,k2⟩:=Mu (P:=P) hG hH xs vs hx
 have hlen:∀(xs:List ResultVar) (vs:List AV),J7 P S xs vs→vs.length=xs.length:=by
  intro xs
  induction xs with
  |nil=>intro vs h;simp only[J7]at h;simp[h]
  |cons x xs ih=>intro vs h;simp only[J7]at h;obtain⟨v,vs',rfl,_,h⟩:=h;simp[ih vs' h]
 have hul:us.length≠1:=by rw[AV.rels_len vs us k2,hlen xs vs hx];exact hl
 exact Fd (v:=.tup vs) (x:=.tuple us.toArray) hm h1 hG hσ (pin_at hH ht) hi (by rw[W3,hr];simp[List.mapM_toArray,k1,hul]) (by simp only[AV.rel];exact⟨_,rfl,k2⟩) (.tup rs) is (by simp only[Kx];exact⟨vs,rfl,hh⟩) hn h0 hQ
def QFil(rr:RR):Prop:=∃d,∃bs:List UInt8,rr = .tup [.agg [.ro (Wa d)],.row 5 1 (bs.map RV.u8)]∧DrawD d∧bs.length≤100000
theorem qfil_ok:∀rr,QFil rr→∃r,Seals rr r∧∃d bs,r = .tup [X1 d,Ya bs]∧DrawD d∧bs.length≤100000:=by
 rintro _ ⟨d,bs,rfl,h1,h2⟩
 refine⟨.tup [X1 d,Ya bs],?_,d,bs,rfl,h1,h2⟩
 have h3:=Qc 5 bs
 simp only[Seals,Wc,X1]at h3 ⊢
 exact⟨_,rfl,_,_,rfl,⟨_,rfl,_,_,rfl,rfl,rfl⟩,_,_,rfl,h3,rfl⟩
set_option maxRecDepth 100000 in
set_option maxHeartbeats 16000000 in
theorem l11File_d(b:List UInt8)(hb:b.length≤1048576):Drw Tryz.prog 60 13 b [] QFil:=by
 refine Ys Tryz.func13 rfl _ Tryz.ntmps13 (by simp) fun C g u i h hn hm hu hi=>?_
 repeat' (first
|(refine Sr (t:=7) (Dr b hb) qdes_ok rfl hu hi rfl rfl rfl (by first|rfl|repeat' (first|rfl|exact Z0 _|refine Zt ?_ ?_)) (tl hn rfl) ?_;rintro i h _ hi ⟨d,rfl,hD⟩;have hlm:(d.map Xz).length=d.length:=lmT ..;have hdl:=hD.good.1;have hd6:=hD.most;obtain⟨x,hx⟩:∃x,d[d.length-1]?=some x:=⟨_,Za6 (by omega)⟩;have hI:=l9Make_d b hb d hD (d.length-1) (by omega) 8 (by omega);rw[show((d.length-1:Nat):Int)=((d.map Xz).length:Int)-1 by omega]at hI)
|refine Xo (id:=2) 30 [0,1,2,3,4,5,6,7,8,9,10] [11,12,13] Yc rfl rfl (by kernel_rfl) (by kernel_rfl) (by kernel_rfl) ?_
|(refine V8 (t:=19) hI N6 rfl hu hi rfl rfl (by first|rfl|repeat' (first|rfl|exact Z0 _|refine Zt ?_ ?_)) (tl hn rfl) ?_;rintro i h _ hi ⟨v,rfl,hv⟩;have ht:v.total≤16384:=(by have h1:=hv.total;have h2:4 ^ (d.length-1)≤4 ^ 5:=Nat.pow_le_pow_right (by omega) (by omega);unfold tb at h1;omega);obtain⟨bs,hP,hp⟩:=print_acR hD v hv.ok ht _ x hx hv.vld;rw[show((d.length-1:Nat):Int)=((d.map Xz).length:Int)-1 by omega]at hP;have hbl:bs.length≤99000:=(by have h1:=hp.most;have h2:=v.count_le;have h3:=v.weight_le;omega);have hb1:=hp.pos;have hrow:((bs.map RV.u8).map AV.ro).length=bs.length:=by simp)
|refine Ui hP rfl (tl hn rfl) ?_
|refine K9 rfl rfl rfl ?_
|(refine T9 (Ee b hb 3 (by decide)) rfl hu hi rfl (Z6 [.int 3]) rfl (by first|rfl|repeat' (first|rfl|exact Z0 _|refine Zt ?_ ?_)) (tl hn rfl) ?_;intro i h y1 hi;cases y1)
|refine RunsH.pur (fun _ _=>Yw Zk rfl) rfl (tl hn rfl) rfl ?_
|refine RunsH.pur (fun _ _=>Yo (n:=bs.length) rfl rfl (by rw[hrow,Nat.mul_one])) rfl (tl hn rfl) rfl ?_
|refine RunsH.pur (fun _ _=>Zq rfl rfl (by omega)) rfl (tl hn rfl) rfl ?_
|refine RunsH.pur (fun _ _=>Z7 rfl rfl (by omega)) rfl (tl hn rfl) rfl ?_
|refine RunsH.pur (fun _ _=>Zw rfl rfl rfl rfl rfl rfl) rfl (tl hn rfl) rfl ?_
|refine RunsH.nil ?_
|refine Zbg Zk hn rfl ?_
|refine Zbh ?_
|refine Za 30 rfl ?_
|refine X2 12 rfl (nbT rfl) (by kernel_rfl) (by kernel_rfl) ?_
|(refine Zc hn rfl rfl rfl ?_;first
|refine⟨_,Yo (n:=bs.length) rfl rfl (by rw[hrow,Nat.mul_one]),?_⟩)
|(refine Zbf 30 rfl ?_;first|refine Zg rfl ?_|refine Zm rfl ?_|refine Z1 rfl (fun h=>?_) (fun h=>?_)|refine Zbe (Zj hm rfl rfl ?_)|exact Zbe (Zf hm rfl rfl rfl (nbT rfl) rfl rfl))
|refine Zx (tl hn rfl) ?_
|refine Zr rfl rfl rfl rfl (nbT rfl) ?_
|(refine Zc hn rfl rfl rfl ?_;first
|refine⟨_,Zq rfl rfl (by omega),?_⟩
|refine⟨_,Z7 rfl rfl (by omega),?_⟩
|refine⟨_,Zw rfl rfl rfl rfl rfl rfl,?_⟩)
|(refine Zh rfl rfl rfl ?_ ?_<;>intro h<;>try(exfalso;first|omega|contradiction|(simp only[lmT]at h;omega))))
 ·repeat' (first
|(refine Yt (t:=32) (Yr b hb 24 (by omega)) rfl hu hi rfl (Z6 [.int 24]) rfl (by first|rfl|repeat' (first|rfl|exact Z0 _|refine Zt ?_ ?_)) (tl hn rfl) ?_;intro i h k hi hk;obtain⟨hka,hkb⟩:=hk.2 (by omega))
|(refine Yt (t:=36) (Yr b hb 2 (by omega)) rfl hu hi rfl (Z6 [.int 2]) rfl (by first|rfl|repeat' (first|rfl|exact Z0 _|refine Zt ?_ ?_)) (tl hn rfl) ?_;intro i h y hi hy;have hy01:y=0∨y=1:=(by have:=hy.2 (by omega);omega);rcases hy01 with rfl|rfl)
|(refine Yt (t:=43) (Yr b hb 8 (by omega)) rfl hu hi rfl (Z6 [.int 8]) rfl (by first|rfl|repeat' (first|rfl|exact Z0 _|refine Zt ?_ ?_)) (tl hn rfl) ?_;intro i h y hi hy;obtain⟨n3,rfl,hn3⟩:∃n3:Nat,y=n3∧n3≤7:=⟨y.toNat,(by unfold Bel at hy;omega),(by unfold Bel at hy;omega)⟩)
|(refine K1 (t:=44) (Kl b hb n3 (by omega)) rfl hu hi rfl rfl rfl (by first|rfl|repeat' (first|rfl|exact Z0 _|refine Zt ?_ ?_)) (tl hn rfl) ?_;rintro i h _ hi ⟨z2,rfl,hz2⟩)
|refine Yl (t:=49) (i:=3) (n:=bs.length) (rs:=bs.map RV.u8) (els:=[[RV.u8 92]]) rfl rfl rfl rfl rfl rfl (by rw[lmT,Nat.mul_one]) (FreeI.at_ (i:=3) ⟨by simp[Yp,AV.onlys,AV.only],by simp[AV.onlys,AV.only,W8],by simp[AV.onlys,AV.only,W8],Yg _ _,trivial⟩) (by simp only[Za8,Za9];omega) (by simp only[Za8,Za9];omega) (tl hn rfl) ?_
|refine Zbg Zk hn rfl ?_
|refine Zbh ?_
|refine Za 30 rfl ?_
|refine M2 (n:=400) rfl rfl rfl rfl (by omega) (by unfold maxLen;omega) (tl hn rfl) ?_
|refine M2 (n:=401) rfl rfl rfl rfl (by omega) (by unfold maxLen;omega) (tl hn rfl) ?_
|(refine Zc hn rfl rfl rfl ?_;first
|refine⟨_,Zw rfl rfl rfl rfl rfl rfl,?_⟩)
|(refine Zbf 30 rfl ?_;first|refine Zg rfl ?_|refine Zm rfl ?_|refine Z1 rfl (fun h=>?_) (fun h=>?_)|refine Zbe (Zj hm rfl rfl ?_)|exact Zbe (Zf hm rfl rfl rfl (nbT rfl) rfl rfl))
|refine Zx (tl hn rfl) ?_
|refine Zr rfl rfl rfl rfl (nbT rfl) ?_
|(refine Zc hn rfl rfl rfl ?_;first
|refine⟨_,Zq rfl rfl (by omega),?_⟩
|refine⟨_,Z7 rfl rfl (by omega),?_⟩
|refine⟨_,Zw rfl rfl rfl rfl rfl rfl,?_⟩)
|(refine Zh rfl rfl rfl ?_ ?_<;>intro h<;>try(exfalso;first|omega|contradiction|(simp only[lmT]at h;omega))))
  all_goals refine Zbf 30 rfl ?_
  all_goals first
   |exact Zbe (L2 (xs:=[.cell 2 26,.tmp 3]) hm rfl (by simp) rfl rfl hi [.agg [.ro (Wa d)],.own 3] ⟨_,_,rfl,⟨1,0,_,rfl,rfl,.inr ⟨1,inferInstance,Nat.le_refl _,rfl⟩⟩,_,_,rfl,rfl,rfl⟩ [.agg [.ro (Wa d)],.row 5 1 (bs.map RV.u8)] [3] (by simp only[Vy,Kx];exact⟨_,_,[],[3],rfl,rfl,⟨_,rfl,_,_,[],[],rfl,rfl,⟨rfl,rfl⟩,rfl,rfl⟩,_,_,[3],[],rfl,rfl,⟨3,rfl,rfl,rfl⟩,rfl,rfl⟩) (by simp) (by simp) ⟨d,_,rfl,hD,by omega⟩)
   |exact Zbe (L2 (xs:=[.cell 2 26,.tmp 3]) hm rfl (by simp) rfl rfl hi [.agg [.ro (Wa d)],.own 3] ⟨_,_,rfl,⟨1,0,_,rfl,rfl,.inr ⟨1,inferInstance,Nat.le_refl _,rfl⟩⟩,_,_,rfl,rfl,rfl⟩ [.agg [.ro (Wa d)],.row 5 1 ((bs++[92]).map RV.u8)] [3] (by simp only[Vy,Kx];exact⟨_,_,[],[3],rfl,rfl,⟨_,rfl,_,_,[],[],rfl,rfl,⟨rfl,rfl⟩,rfl,rfl⟩,_,_,[3],[],rfl,rfl,⟨3,rfl,(by show some (Ob.mk _ _ ((bs.map RV.u8++[[RV.u8 92]].flatten).map AV.ro))=_;simp),rfl⟩,rfl,rfl⟩) (by simp) (by simp) ⟨d,_,rfl,hD,by rw[Za7,Zbb];omega⟩)
   |exact Zbe (L2 (xs:=[.cell 2 26,.tmp 3]) hm rfl (by simp) rfl rfl hi [.agg [.ro (Wa d)],.own 4] ⟨_,_,rfl,⟨1,0,_,rfl,rfl,.inr ⟨1,inferInstance,Nat.le_refl _,rfl⟩⟩,_,_,rfl,rfl,rfl⟩ [.agg [.ro (Wa d)],.row 5 1 (z2.map RV.u8)] [4] (by simp only[Vy,Kx];exact⟨_,_,[],[4],rfl,rfl,⟨_,rfl,_,_,[],[],rfl,rfl,⟨rfl,rfl⟩,rfl,rfl⟩,_,_,[4],[],rfl,rfl,⟨4,rfl,rfl,rfl⟩,rfl,rfl⟩) (by simp) (by simp) ⟨d,_,rfl,hD,by omega⟩)
   |exact Zbe (L2 (xs:=[.cell 2 26,.tmp 3]) hm rfl (by simp) rfl rfl hi [.agg [.ro (Wa d)],.own 4] ⟨_,_,rfl,⟨1,0,_,rfl,rfl,.inr ⟨1,inferInstance,Nat.le_refl _,rfl⟩⟩,_,_,rfl,rfl,rfl⟩ [.agg [.ro (Wa d)],.row 5 1 ((List.replicate 400 (0:UInt8)).map RV.u8)] [4] (by simp only[Vy,Kx];exact⟨_,_,[],[4],rfl,rfl,⟨_,rfl,_,_,[],[],rfl,rfl,⟨rfl,rfl⟩,rfl,rfl⟩,_,_,[4],[],rfl,rfl,⟨4,rfl,(by show some (Ob.mk _ _ ((List.replicate _ (RV.c (.int .u8 0))).map AV.ro))=some (Ob.mk _ _ (((List.replicate _ (0:UInt8)).map RV.u8).map AV.ro));rw[List.map_replicate (f:=RV.u8)];rfl),rfl⟩,rfl,rfl⟩) (by simp) (by simp) ⟨d,_,rfl,hD,by rw[List.length_replicate];omega⟩)
   |exact Zbe (L2 (xs:=[.cell 2 26,.tmp 3]) hm rfl (by simp) rfl rfl hi [.agg [.ro (Wa d)],.own 4] ⟨_,_,rfl,⟨1,0,_,rfl,rfl,.inr ⟨1,inferInstance,Nat.le_refl _,rfl⟩⟩,_,_,rfl,rfl,rfl⟩ [.agg [.ro (Wa d)],.row 5 1 ((List.replicate 401 (0:UInt8)).map RV.u8)] [4] (by simp only[Vy,Kx];exact⟨_,_,[],[4],rfl,rfl,⟨_,rfl,_,_,[],[],rfl,rfl,⟨rfl,rfl⟩,rfl,rfl⟩,_,_,[4],[],rfl,rfl,⟨4,rfl,(by show some (Ob.mk _ _ ((List.replicate _ (RV.c (.int .u8 0))).map AV.ro))=some (Ob.mk _ _ (((List.replicate _ (0:UInt8)).map RV.u8).map AV.ro));rw[List.map_replicate (f:=RV.u8)];rfl),rfl⟩,rfl,rfl⟩) (by simp) (by simp) ⟨d,_,rfl,hD,by rw[List.length_replicate];omega⟩)
 ·refine Hv (g:=g) 3 29 (bs.map fun z=>[RV.u8 z]) hm rfl (by decide) rfl rfl (by rw[Wj]) (fun x hx=>by obtain⟨y,_,rfl⟩:=List.mem_map.1 hx;rfl) ⟨by simp[Yp,AV.onlys,AV.only],by simp[AV.onlys,AV.only,W8],by simp[AV.onlys,AV.only,W8],by simp[AV.onlys,AV.only],trivial⟩ ?_
  refine K1 (t:=30) (l1Bent_d b hb bs (by omega) (by omega)) rfl hu hi rfl rfl rfl (by first|rfl|repeat' (first|rfl|exact Z0 _|refine Zt ?_ ?_)) (tl hn rfl) ?_
  rintro i h _ hi ⟨z,rfl,hz⟩
  repeat' (first
|(refine Yt (t:=32) (Yr b hb 24 (by omega)) rfl hu hi rfl (Z6 [.int 24]) rfl (by first|rfl|repeat' (first|rfl|exact Z0 _|refine Zt ?_ ?_)) (tl hn rfl) ?_;intro i h k hi hk;obtain⟨hka,hkb⟩:=hk.2 (by omega))
|(refine Yt (t:=36) (Yr b hb 2 (by omega)) rfl hu hi rfl (Z6 [.int 2]) rfl (by first|rfl|repeat' (first|rfl|exact Z0 _|refine Zt ?_ ?_)) (tl hn rfl) ?_;intro i h y hi hy;have hy01:y=0∨y=1:=(by have:=hy.2 (by omega);omega);rcases hy01 with rfl|rfl)
|(refine Yt (t:=43) (Yr b hb 8 (by omega)) rfl hu hi rfl (Z6 [.int 8]) rfl (by first|rfl|repeat' (first|rfl|exact Z0 _|refine Zt ?_ ?_)) (tl hn rfl) ?_;intro i h y hi hy;obtain⟨n3,rfl,hn3⟩:∃n3:Nat,y=n3∧n3≤7:=⟨y.toNat,(by unfold Bel at hy;omega),(by unfold Bel at hy;omega)⟩)
|(refine K1 (t:=44) (Kl b hb n3 (by omega)) rfl hu hi rfl rfl rfl (by first|rfl|repeat' (first|rfl|exact Z0 _|refine Zt ?_ ?_)) (tl hn rfl) ?_;rintro i h _ hi ⟨z2,rfl,hz2⟩)
|refine Yl (t:=49) (i:=4) (n:=z.length) (rs:=z.map RV.u8) (els:=[[RV.u8 92]]) rfl rfl rfl rfl rfl rfl (by rw[lmT,Nat.mul_one]) (FreeI.at_ (i:=4) ⟨by simp[Yp,AV.onlys,AV.only],by simp[AV.onlys,AV.only,W8],by simp[AV.onlys,AV.only,W8],by simp[AV.onlys,AV.only],Yg _ _,trivial⟩) (by simp only[Za8,Za9];omega) (by simp only[Za8,Za9];omega) (tl hn rfl) ?_
|refine Zbg Zk hn rfl ?_
|refine Zbh ?_
|refine Za 30 rfl ?_
|refine M2 (n:=400) rfl rfl rfl rfl (by omega) (by unfold maxLen;omega) (tl hn rfl) ?_
|refine M2 (n:=401) rfl rfl rfl rfl (by omega) (by unfold maxLen;omega) (tl hn rfl) ?_
|(refine Zc hn rfl rfl rfl ?_;first
|refine⟨_,Zw rfl rfl rfl rfl rfl rfl,?_⟩)
|(refine Zbf 30 rfl ?_;first|refine Zg rfl ?_|refine Zm rfl ?_|refine Z1 rfl (fun h=>?_) (fun h=>?_)|refine Zbe (Zj hm rfl rfl ?_)|exact Zbe (Zf hm rfl rfl rfl (nbT rfl) rfl rfl))
|refine Zx (tl hn rfl) ?_
|refine Zr rfl rfl rfl rfl (nbT rfl) ?_
|(refine Zc hn rfl rfl rfl ?_;first
|refine⟨_,Zq rfl rfl (by omega),?_⟩
|refine⟨_,Z7 rfl rfl (by omega),?_⟩
|refine⟨_,Zw rfl rfl rfl rfl rfl rfl,?_⟩)
|(refine Zh rfl rfl rfl ?_ ?_<;>intro h<;>try(exfalso;first|omega|contradiction|(simp only[lmT]at h;omega))))
  all_goals refine Zbf 30 rfl ?_
  all_goals first
   |exact Zbe (L2 (xs:=[.cell 2 26,.tmp 3]) hm rfl (by simp) rfl rfl hi [.agg [.ro (Wa d)],.own 4] ⟨_,_,rfl,⟨1,0,_,rfl,rfl,.inr ⟨1,inferInstance,Nat.le_refl _,rfl⟩⟩,_,_,rfl,rfl,rfl⟩ [.agg [.ro (Wa d)],.row 5 1 (z.map RV.u8)] [4] (by simp only[Vy,Kx];exact⟨_,_,[],[4],rfl,rfl,⟨_,rfl,_,_,[],[],rfl,rfl,⟨rfl,rfl⟩,rfl,rfl⟩,_,_,[4],[],rfl,rfl,⟨4,rfl,rfl,rfl⟩,rfl,rfl⟩) (by simp) (by simp) ⟨d,_,rfl,hD,by omega⟩)
   |exact Zbe (L2 (xs:=[.cell 2 26,.tmp 3]) hm rfl (by simp) rfl rfl hi [.agg [.ro (Wa d)],.own 4] ⟨_,_,rfl,⟨1,0,_,rfl,rfl,.inr ⟨1,inferInstance,Nat.le_refl _,rfl⟩⟩,_,_,rfl,rfl,rfl⟩ [.agg [.ro (Wa d)],.row 5 1 ((z++[92]).map RV.u8)] [4] (by simp only[Vy,Kx];exact⟨_,_,[],[4],rfl,rfl,⟨_,rfl,_,_,[],[],rfl,rfl,⟨rfl,rfl⟩,rfl,rfl⟩,_,_,[4],[],rfl,rfl,⟨4,rfl,(by show some (Ob.mk _ _ ((z.map RV.u8++[[RV.u8 92]].flatten).map AV.ro))=_;simp),rfl⟩,rfl,rfl⟩) (by simp) (by simp) ⟨d,_,rfl,hD,by rw[Za7,Zbb];omega⟩)
   |exact Zbe (L2 (xs:=[.cell 2 26,.tmp 3]) hm rfl (by simp) rfl rfl hi [.agg [.ro (Wa d)],.own 5] ⟨_,_,rfl,⟨1,0,_,rfl,rfl,.inr ⟨1,inferInstance,Nat.le_refl _,rfl⟩⟩,_,_,rfl,rfl,rfl⟩ [.agg [.ro (Wa d)],.row 5 1 (z2.map RV.u8)] [5] (by simp only[Vy,Kx];exact⟨_,_,[],[5],rfl,rfl,⟨_,rfl,_,_,[],[],rfl,rfl,⟨rfl,rfl⟩,rfl,rfl⟩,_,_,[5],[],rfl,rfl,⟨5,rfl,rfl,rfl⟩,rfl,rfl⟩) (by simp) (by simp) ⟨d,_,rfl,hD,by omega⟩)
   |exact Zbe (L2 (xs:=[.cell 2 26,.tmp 3]) hm rfl (by simp) rfl rfl hi [.agg [.ro (Wa d)],.own 5] ⟨_,_,rfl,⟨1,0,_,rfl,rfl,.inr ⟨1,inferInstance,Nat.le_refl _,rfl⟩⟩,_,_,rfl,rfl,rfl⟩ [.agg [.ro (Wa d)],.row 5 1 ((List.replicate 400 (0:UInt8)).map RV.u8)] [5] (by simp only[Vy,Kx];exact⟨_,_,[],[5],rfl,rfl,⟨_,rfl,_,_,[],[],rfl,rfl,⟨rfl,rfl⟩,rfl,rfl⟩,_,_,[5],[],rfl,rfl,⟨5,rfl,(by show some (Ob.mk _ _ ((List.replicate _ (RV.c (.int .u8 0))).map AV.ro))=some (Ob.mk _ _ (((List.replicate _ (0:UInt8)).map RV.u8).map AV.ro));rw[List.map_replicate (f:=RV.u8)];rfl),rfl⟩,rfl,rfl⟩) (by simp) (by simp) ⟨d,_,rfl,hD,by rw[List.length_replicate];omega⟩)
   |exact Zbe (L2 (xs:=[.cell 2 26,.tmp 3]) hm rfl (by simp) rfl rfl hi [.agg [.ro (Wa d)],.own 5] ⟨_,_,rfl,⟨1,0,_,rfl,rfl,.inr ⟨1,inferInstance,Nat.le_refl _,rfl⟩⟩,_,_,rfl,rfl,rfl⟩ [.agg [.ro (Wa d)],.row 5 1 ((List.replicate 401 (0:UInt8)).map RV.u8)] [5] (by simp only[Vy,Kx];exact⟨_,_,[],[5],rfl,rfl,⟨_,rfl,_,_,[],[],rfl,rfl,⟨rfl,rfl⟩,rfl,rfl⟩,_,_,[5],[],rfl,rfl,⟨5,rfl,(by show some (Ob.mk _ _ ((List.replicate _ (RV.c (.int .u8 0))).map AV.ro))=some (Ob.mk _ _ (((List.replicate _ (0:UInt8)).map RV.u8).map AV.ro));rw[List.map_replicate (f:=RV.u8)];rfl),rfl⟩,rfl,rfl⟩) (by simp) (by simp) ⟨d,_,rfl,hD,by rw[List.length_replicate];omega⟩)
def QFim(rr:RR):Prop:=∃d,∃bs:List UInt8,rr = .tup [.agg [.ro (Wa d)],.ro (Ya bs)]∧DrawD d∧bs.length≤100000
theorem qfim_ok:∀rr,QFim rr→∃r,Seals rr r∧∃d bs,r = .tup [X1 d,Ya bs]∧DrawD d∧bs.length≤100000:=by
 rintro _ ⟨d,bs,rfl,h1,h2⟩
 refine⟨.tup [X1 d,Ya bs],?_,d,bs,rfl,h1,h2⟩
 simp only[Seals,Wc,X1]
 exact⟨_,rfl,_,_,rfl,⟨_,rfl,_,_,rfl,rfl,rfl⟩,_,_,rfl,rfl,rfl⟩
set_option maxHeartbeats 8000000 in
theorem Rk(b:List UInt8)(hb:b.length≤1048576):AC Tryz.prog 5 [Ya b] QFim:=by
 refine acu_enter Tryz.func5 rfl _ Tryz.ntmps5 (by simp) fun C u hn hm hu=>?_
 have hmu:∀x,C.mu x→x=0:=fun x h=>(hm x h).elim
 repeat' (first
|(refine op_newU (l1New_u b hb) rfl hu (tl hn rfl) ?_;intro h hi)
|(refine Sr (t:=8) (l11File_d b hb) qfil_ok rfl hu hi rfl rfl rfl (by first|rfl|repeat' (first|rfl|exact Z0 _|refine Zt ?_ ?_)) (tl hn rfl) ?_;rintro i h _ hi ⟨d,bs,rfl,hD,hbl⟩)
|refine Zbg Zk hn rfl ?_
|refine Zbh ?_
|refine Za 30 rfl ?_
|(refine Zbf 30 rfl ?_;first|refine Zbe (Zj hm rfl rfl ?_)|exact Zbe (Zf hm rfl rfl rfl (nbT rfl) rfl rfl))
|refine Zx (tl hn rfl) ?_
|refine Zr rfl rfl rfl rfl (nbT rfl) ?_
  )
 exact Zbf 30 rfl (Zbe (endsN (xs:=[.cell 2 26,.tmp 3]) hm rfl (by simp) [.agg [.ro (Wa d)],.ro (Ya bs)] ⟨_,_,rfl,⟨1,0,_,rfl,rfl,.inr ⟨1,inferInstance,Nat.le_refl _,rfl⟩⟩,_,_,rfl,rfl,rfl⟩ [.agg [.ro (Wa d)],.ro (Ya bs)] [] (by
  simp only[Vy,Kx]
  exact⟨_,_,[],[],rfl,rfl,⟨_,rfl,_,_,[],[],rfl,rfl,⟨rfl,rfl⟩,rfl,rfl⟩,_,_,[],[],rfl,rfl,⟨rfl,rfl⟩,rfl,rfl⟩) (by simp) ⟨d,bs,rfl,hD,hbl⟩))
set_option maxRecDepth 100000
def Y4(en:List Int)(r:Int):Ins:=⟨9,(en[r.toNat]?).getD 0,0⟩
def V0(tags:List Int)(first:Int)(j:Nat):List Ins:=(List.range j).map fun i:Nat=>⟨11,(tags[i]?).getD 0,w64 (first+2*(i:Int))⟩
def Xk(kids:List Int)(en:List Int)(j:Nat):List Ins:=(List.range j).flatMap fun i:Nat=>(if i=0 then[] else[⟨10,0,0⟩])++[Y4 en ((kids[i+1]?).getD 0)]
def Y7(x:Rul)(s:Int)(en:List Int):List Ins:=
 if x.kind=1 then[⟨1,x.size,if x.little=true then 1 else 0⟩]
 else if x.kind=2 then x.bytes.map fun b=>⟨2,(b.toNat:Int),0⟩
 else if x.kind=3 then[⟨3,x.size,0⟩]
 else if x.kind=4 then[Y4 en (x.kids.headD 0),⟨4,0,0⟩]
 else if x.kind=5 then[Y4 en (x.kids.headD 0),⟨5,40,0⟩,⟨6,0,0⟩,⟨7,w64 (s+6),0⟩,Y4 en ((x.kids[1]?).getD 0),⟨8,w64 (s+3),0⟩]
 else if x.kind=6 then x.kids.map (Y4 en)
 else if x.kind=7 then Y4 en (x.kids.headD 0)::(V0 x.tags (s+(x.tags.length:Int)+2) x.tags.length++⟨12,3,0⟩::Xk x.kids en x.tags.length)
 else if x.kind=8 then[⟨13,w64 (s+2),0⟩,Y4 en (x.kids.headD 0)]
 else if x.kind=9 then[⟨14,0,0⟩,Y4 en (x.kids.headD 0),⟨15,0,0⟩]
 else[⟨16,(((x.bytes[0]?).getD 0).toNat:Int),0⟩]
def Xh(x:Rul)(s:Int)(en:List Int):List Ins:=Y7 x s en++[⟨10,0,0⟩]
theorem Rq{tags:List Int}{first:Int}{j:Nat}{t:Int}(h:tags[j]?=some t):V0 tags first (j+1)=V0 tags first j++[⟨11,t,w64 (first+2*(j:Int))⟩]:=by
 unfold V0
 rw[List.range_succ,List.map_append,List.map_singleton,h]
 rfl
theorem Tr{kids en:List Int}{j:Nat}{z:Int}(h:kids[j+1]?=some z):Xk kids en (j+1)=Xk kids en j++((if j=0 then[] else[⟨10,0,0⟩])++[Y4 en z]):=by
 unfold Xk
 rw[List.range_succ,List.flatMap_append,List.flatMap_singleton,h]
 rfl
theorem Vg(tags:List Int)(first:Int)(j:Nat):(V0 tags first j).length=j:=by simp[V0]
theorem Qr(kids en:List Int):∀j:Nat,(Xk kids en j).length≤2*j
 |0=>by simp[Xk]
 |j+1=>by
  have h:=Qr kids en j
  unfold Xk at h ⊢
  rw[List.range_succ,List.flatMap_append,List.flatMap_singleton,Za7,Za7,Zbb]
  split
  ·simp only[Za9];omega
  ·simp only[Zbb];omega
instance tb_ins:TB Tryz.prog 51 [(0,1),(1,1),(2,1)] [.int .i64 0,.int .i64 0,.int .i64 0]:=⟨_,_,_,rfl,rfl,rfl,rfl,by kernel_rfl,by decide⟩
instance tb_cmpr:TB Tryz.prog 75 [(0,1),(1,1),(2,1),(3,1)] [.slice none 0 0,.int .i64 0,.slice none 0 0,.slice none 0 0]:=⟨_,_,_,rfl,rfl,rfl,rfl,by kernel_rfl,by decide⟩
def cO(d:Des)(s:Int)(en:List Int)(code:List Ins):List Ob:=[⟨75,0,[.ro (Wa d),.int s,.ro (Xe en),.own 1]⟩,⟨51,3,(code.flatMap Ul).map .ro⟩]
theorem De(p:Nat→Prop):∀rs:List RV,AV.onlys p (rs.map .ro)
 | []=>by simp[AV.onlys]
 |r::rs=>by simp only[List.map_cons,AV.onlys,AV.only];exact⟨trivial,De p rs⟩
theorem Yj(d:Des)(s:Int)(en:List Int)(code:List Ins):FreeO 2 (cO d s en code):=by
 simp only[cO,FreeO]
 exact⟨by simp[AV.onlys,AV.only],De _ _,trivial⟩
theorem Dy(l:List Ins):(l.flatMap Ul).length=l.length*3:=by
 induction l with
 |nil=>rfl
 |cons x l ih=>rw[List.flatMap_cons,Za7,ih,insR_len,Za8];omega
theorem Wm{P:Program}{C:Ctx}{fn:Func}{gs:Nat→Nat}{env:Env}{σ σ' more:List Ob}{t:Nat}(hp:look env t = .pin 0 0 (gs 0))(hσ:σ=σ'++more)(hl:0<σ'.length)(hc:FreeO σ'.length σ')(hr:fn.results=#[]) :
  Runs P C [] (Pc P C fn gs [0] σ' (.tup [])) ⟨env,σ⟩:=
 J5 (E':=[(t,.pin 0 0 (gs 0))]) ⟨hp,trivial⟩ hσ ⟨by simpa only[AV.only] using hl,trivial⟩ hc (Kv (Tq (fun i hi=>by simp at hi;subst hi;exact⟨t,0,by simp[look]⟩) hr rfl))
set_option maxHeartbeats 2000000 in
theorem Qu(d:Des)(s:Int)(en:List Int)(code:List Ins)(op a b:Int)(hl:code.length≤4194304):AM Tryz.prog 43 (cO d s en code) [0] [.obj 0 0,.int op,.int a,.int b] (cO d s en (code++[⟨op,a,b⟩])) (.tup []):=by
 refine Yz Tryz.func43 rfl _ Tryz.ntmps43 (by simp) (by simp) fun C gs hn=>?_
 have hfl:=Dy code
 repeat' (first
|refine RunsL.junk 0 3 rfl (Yl (n:=code.length) (i:=1) rfl rfl rfl rfl rfl rfl (by rw[hfl]) (FreeI.at_ (i:=1) ⟨by simp[AV.onlys,AV.only],De _ _,trivial⟩) (by simp;omega) (by simp;omega) (tl hn rfl) ?_)
|refine Zbg Zk hn rfl ?_
|refine Zbh ?_
|refine Za 30 rfl ?_
|(refine Zc hn rfl rfl rfl ?_;first
|refine⟨_,Z9 rfl,?_⟩
|refine⟨_,Z2 rfl,?_⟩)
|refine Z5 rfl rfl rfl rfl (nbT rfl) ?_
|(refine Zc hn rfl rfl rfl ?_;first
|refine⟨_,Zw rfl rfl rfl rfl rfl rfl,?_⟩))
 refine Zbf 30 rfl ?_
 refine Wm (more:=[]) (t:=0) rfl ?_ (by simp[cO]) (Yj _ _ _ _) rfl
 rw[List.append_nil]
 unfold cO
 rw[List.flatMap_append]
 rfl
theorem Ux{d:Des}{s:Int}{en:List Int}{code code':List Ins}{more:List Ob}(h:code=code'):cO d s en code++more=cO d s en code'++more:=by rw[h]
theorem lend_c{C:Ctx}{d:Des}{s:Int}{en:List Int}{code:List Ins}{σ more:List Ob}{g:Nat}(h:σ=cO d s en code++more):Lends C σ (.pin 0 0 g) (.rp [Wa d,.int s,Xe en,Qp code]):=by
 subst h
 exact Lends.pin rfl (.cons .ro (.cons .ro (.cons .ro (.cons (Lends.own (o:=⟨51,3,(code.flatMap Ul).map .ro⟩) (els:=code.map Ul) rfl rfl fun x hx=>by obtain⟨y,_,rfl⟩:=List.mem_map.1 hx;rfl) .nil))))
theorem Rg(d:Des)(s:Int)(en:List Int)(code:List Ins):ACv Tryz.prog 64 [.rp [Wa d,.int s,Xe en,Qp code]] (.int (w64 (s+code.length))):=by
 have hl:(code.map Ul).length=code.length:=lmT ..
 refine Zz Tryz.func64 rfl _ Tryz.ntmps64 (by simp) fun C hn hm=>?_
 repeat' (first
|(refine Zl rfl rfl ?_;first
|refine⟨_,We rfl rfl,?_⟩)
|refine Zbg Zk hn rfl ?_
|refine Zbh ?_
|refine Za 30 rfl ?_
|(refine Zl rfl rfl ?_;first
|refine⟨_,Px rfl,?_⟩)
|(refine Zbf 30 rfl ?_;first|refine Zbe (Zj hm rfl rfl ?_)|exact Zbe (Zf hm rfl rfl rfl (nbT rfl) rfl rfl))
|refine Zbi Zk hn rfl rfl ?_
|refine Zbj ?_
|refine Zo 30 Yc hn rfl (by kernel_rfl) rfl ?_
  )
 exact Xu (by rw[hl])
set_option maxHeartbeats 2000000 in
theorem J1(d:Des)(s:Int)(en:List Int)(code:List Ins)(r:Int)(hl:code.length≤4194304)(h0:0≤r)(h1:r<en.length):AM Tryz.prog 63 (cO d s en code) [0] [.obj 0 0,.int r] (cO d s en (code++[Y4 en r])) (.tup []):=by
 refine Yz Tryz.func63 rfl _ Tryz.ntmps63 (by simp) (by simp) fun C gs hn=>?_
 obtain⟨z,hz⟩:∃z,en[r.toNat]?=some z:=⟨_,Za6 (by omega)⟩
 have hle:(en.map fun z=>[RV.int z]).length=en.length:=lmT ..
 repeat' (first
|refine Yd 2 (Qu d s en _ _ _ _ (by first|omega|(simp only[Za7,Za8,Za9];omega))) rfl (by simp[AV.onlys,AV.only]) (by simp[AV.only,AV.onlys]) (List.append_nil _).symm rfl rfl (Yj _ _ _ _) (Yj _ _ _ _) rfl trivial (fun t h=>by injection h with h;subst h;exact tl hn rfl) ?_
|refine Zbg Zk hn rfl ?_
|refine Zbh ?_
|refine Za 30 rfl ?_
|(refine Zc hn rfl rfl rfl ?_;first
|refine⟨_,Z9 rfl,?_⟩)
|(refine Zc hn rfl rfl rfl ?_;first
|refine⟨_,Zb rfl rfl (by omega) (by assumption),?_⟩
   ))
 refine Zbf 30 rfl ?_
 refine Wm (more:=[]) (t:=0) rfl (Ux ?_) (by simp[cO]) (Yj _ _ _ _) rfl
 unfold Y4
 rw[hz]
 rfl
def J6(d:Des)(x:Rul)(en:List Int):Prop:=Xi d x∧∀(k:Nat) z,x.kids[k]?=some z→0≤z∧z<en.length
theorem kid0{d:Des}{x:Rul}{en:List Int}(h:J6 d x en)(hl:0<x.kids.length):x.kids[(0:Int).toNat]?=some (x.kids.headD 0)∧0≤x.kids.headD 0∧x.kids.headD 0<en.length:=by
 have hx:x.kids[(0:Int).toNat]?=some (x.kids.headD 0):=by
  cases hk:x.kids with
  |nil=>rw[hk]at hl;simp at hl
  |cons a l=>rfl
 exact⟨hx,h.2 0 _ hx⟩
set_option maxHeartbeats 4000000 in
theorem Zal(d:Des)(s:Int)(en:List Int)(x:Rul)(hk:x.kind=1):AM Tryz.prog 33 (cO d s en []) [0] [.obj 0 0,.ro (.agg (Xz x))] (cO d s en (Y7 x s en)) (.tup []):=by
 refine Yz Tryz.func33 rfl _ Tryz.ntmps33 (by simp) (by simp) fun C gs hn=>?_
 obtain⟨nm,kd,sz,li,bs,ns,tg,ki⟩:=x
 simp only at hk
 subst hk
 cases li
 all_goals
  repeat' (first
|refine Yd 2 (Qu d s en _ _ _ _ (by first|omega|(simp only[Za7,Za8,Za9];omega))) rfl (by simp[AV.onlys,AV.only]) (by simp[AV.only,AV.onlys]) rfl rfl rfl (Yj _ _ _ _) (Yj _ _ _ _) rfl ⟨rfl,trivial⟩ (fun t h=>by injection h with h;subst h;exact tl hn rfl) ?_
|refine Zbg Zk hn rfl ?_
|refine Zbh ?_
|refine Za 30 rfl ?_
|(refine Zbf 30 rfl ?_;first|refine Zg rfl ?_|refine Zm rfl ?_)
|refine Zs rfl (tl hn rfl) ?_
   )
  refine Zbf 30 rfl ?_
  exact Wm (t:=0) rfl (Ux rfl) (by simp[cO]) (Yj _ _ _ _) rfl
theorem fixed_am(d:Des)(s:Int)(en:List Int)(x:Rul)(hk:x.kind=3):AM Tryz.prog 35 (cO d s en []) [0] [.obj 0 0,.ro (.agg (Xz x))] (cO d s en (Y7 x s en)) (.tup []):=by
 refine Yz Tryz.func35 rfl _ Tryz.ntmps35 (by simp) (by simp) fun C gs hn=>?_
 repeat' (first
|refine Yd 2 (Qu d s en _ _ _ _ (by first|omega|(simp only[Za7,Za8,Za9];omega))) rfl (by simp[AV.onlys,AV.only]) (by simp[AV.only,AV.onlys]) rfl rfl rfl (Yj _ _ _ _) (Yj _ _ _ _) rfl ⟨rfl,trivial⟩ (fun t h=>by injection h with h;subst h;exact tl hn rfl) ?_
|refine Zbg Zk hn rfl ?_
|refine Zbh ?_
|refine Za 30 rfl ?_
|refine Zs rfl (tl hn rfl) ?_
  )
 refine Zbf 30 rfl ?_
 refine Wm (t:=0) rfl (Ux ?_) (by simp[cO]) (Yj _ _ _ _) rfl
 simp[Y7,hk]
theorem Gk(d:Des)(s:Int)(en:List Int)(x:Rul)(hk:x.kind=10)(hb:x.bytes.length=1):AM Tryz.prog 42 (cO d s en []) [0] [.obj 0 0,.ro (.agg (Xz x))] (cO d s en (Y7 x s en)) (.tup []):=by
 refine Yz Tryz.func42 rfl _ Tryz.ntmps42 (by simp) (by simp) fun C gs hn=>?_
 obtain⟨b,hx⟩:∃b,x.bytes[(0:Int).toNat]?=some b:=⟨_,Za6 (by simp;omega)⟩
 have hx':x.bytes[0]?=some b:=hx
 have hle:(x.bytes.map fun z=>[RV.u8 z]).length=x.bytes.length:=lmT ..
 repeat' (first
|refine Yd 2 (Qu d s en _ _ _ _ (by first|omega|(simp only[Za7,Za8,Za9];omega))) rfl (by simp[AV.onlys,AV.only]) (by simp[AV.only,AV.onlys]) rfl rfl rfl (Yj _ _ _ _) (Yj _ _ _ _) rfl ⟨rfl,trivial⟩ (fun t h=>by injection h with h;subst h;exact tl hn rfl) ?_
|refine Zbg Zk hn rfl ?_
|refine Zbh ?_
|refine Za 30 rfl ?_
|(refine Zc hn rfl rfl rfl ?_;first
|refine⟨_,Wv rfl,?_⟩)
|refine Zs rfl (tl hn rfl) ?_
|(refine Zc hn rfl rfl rfl ?_;first
|refine⟨_,Zb rfl rfl (by omega) (by assumption),?_⟩
   ))
 refine Zbf 30 rfl ?_
 refine Wm (t:=0) rfl (Ux ?_) (by simp[cO]) (Yj _ _ _ _) rfl
 simp[Y7,hk,hx']
set_option maxHeartbeats 4000000 in
theorem sized_am(d:Des)(s:Int)(en:List Int)(x:Rul)(hk:x.kind=4)(hr:J6 d x en):AM Tryz.prog 36 (cO d s en []) [0] [.obj 0 0,.ro (.agg (Xz x))] (cO d s en (Y7 x s en)) (.tup []):=by
 refine Yz Tryz.func36 rfl _ Tryz.ntmps36 (by simp) (by simp) fun C gs hn=>?_
 obtain⟨f5,f7,f8,f4⟩:=Wk hr.1
 have hlk:(x.kids.map fun z=>[RV.int z]).length=x.kids.length:=lmT ..
 obtain⟨h0,h1,h2⟩:=kid0 hr (by have:=f4 hk;omega)
 repeat' (first
|refine Yd 2 (Qu d s en _ _ _ _ (by first|omega|(simp only[Za7,Za8,Za9];omega))) rfl (by simp[AV.onlys,AV.only]) (by simp[AV.only,AV.onlys]) rfl rfl rfl (Yj _ _ _ _) (Yj _ _ _ _) rfl ⟨rfl,trivial⟩ (fun t h=>by injection h with h;subst h;exact tl hn rfl) ?_
|refine Yd 2 (J1 d s en _ _ (by first|omega|(simp only[Za7,Za8,Za9];omega)) (by omega) (by omega)) rfl (by simp[AV.onlys,AV.only]) (by simp[AV.only,AV.onlys]) rfl rfl rfl (Yj _ _ _ _) (Yj _ _ _ _) rfl ⟨rfl,trivial⟩ (fun t h=>by injection h with h;subst h;exact tl hn rfl) ?_
|refine Zbg Zk hn rfl ?_
|refine Zbh ?_
|refine Za 30 rfl ?_
|refine Zs rfl (tl hn rfl) ?_
|(refine Zc hn rfl rfl rfl ?_;first
|refine⟨_,Zb rfl rfl (by omega) (by assumption),?_⟩
   ))
 refine Zbf 30 rfl ?_
 refine Wm (t:=0) rfl (Ux ?_) (by simp[cO]) (Yj _ _ _ _) rfl
 simp[Y7,hk]
set_option maxHeartbeats 4000000 in
theorem option_am(d:Des)(s:Int)(en:List Int)(x:Rul)(hk:x.kind=8)(hr:J6 d x en):AM Tryz.prog 40 (cO d s en []) [0] [.obj 0 0,.ro (.agg (Xz x))] (cO d s en (Y7 x s en)) (.tup []):=by
 refine Yz Tryz.func40 rfl _ Tryz.ntmps40 (by simp) (by simp) fun C gs hn=>?_
 obtain⟨f5,f7,f8,f4⟩:=Wk hr.1
 have hlk:(x.kids.map fun z=>[RV.int z]).length=x.kids.length:=lmT ..
 obtain⟨h0,h1,h2⟩:=kid0 hr (by have:=f8 (.inl hk);omega)
 repeat' (first
|refine Yd 2 (Qu d s en _ _ _ _ (by first|omega|(simp only[Za7,Za8,Za9];omega))) rfl (by simp[AV.onlys,AV.only]) (by simp[AV.only,AV.onlys]) rfl rfl rfl (Yj _ _ _ _) (Yj _ _ _ _) rfl ⟨rfl,trivial⟩ (fun t h=>by injection h with h;subst h;exact tl hn rfl) ?_
|refine Yd 2 (J1 d s en _ _ (by first|omega|(simp only[Za7,Za8,Za9];omega)) (by omega) (by omega)) rfl (by simp[AV.onlys,AV.only]) (by simp[AV.only,AV.onlys]) rfl rfl rfl (Yj _ _ _ _) (Yj _ _ _ _) rfl ⟨rfl,trivial⟩ (fun t h=>by injection h with h;subst h;exact tl hn rfl) ?_
|(refine Zc hn rfl rfl rfl ?_;first
|refine⟨_,T8 (Rg d s en _) (.cons (lend_c rfl) .nil),?_⟩
|refine⟨_,We rfl rfl,?_⟩)
|refine Zbg Zk hn rfl ?_
|refine Zbh ?_
|refine Za 30 rfl ?_
|refine Zs rfl (tl hn rfl) ?_
|(refine Zc hn rfl rfl rfl ?_;first
|refine⟨_,Zb rfl rfl (by omega) (by assumption),?_⟩
   ))
 refine Zbf 30 rfl ?_
 refine Wm (t:=0) rfl (Ux ?_) (by simp[cO]) (Yj _ _ _ _) rfl
 have:=Ep (s+0) 2
 simp[Y7,hk]
 simpa using this
set_option maxHeartbeats 4000000 in
theorem Zat(d:Des)(s:Int)(en:List Int)(x:Rul)(hk:x.kind=9)(hr:J6 d x en):AM Tryz.prog 41 (cO d s en []) [0] [.obj 0 0,.ro (.agg (Xz x))] (cO d s en (Y7 x s en)) (.tup []):=by
 refine Yz Tryz.func41 rfl _ Tryz.ntmps41 (by simp) (by simp) fun C gs hn=>?_
 obtain⟨f5,f7,f8,f4⟩:=Wk hr.1
 have hlk:(x.kids.map fun z=>[RV.int z]).length=x.kids.length:=lmT ..
 obtain⟨h0,h1,h2⟩:=kid0 hr (by have:=f8 (.inr hk);omega)
 repeat' (first
|refine Yd 2 (Qu d s en _ _ _ _ (by first|omega|(simp only[Za7,Za8,Za9];omega))) rfl (by simp[AV.onlys,AV.only]) (by simp[AV.only,AV.onlys]) rfl rfl rfl (Yj _ _ _ _) (Yj _ _ _ _) rfl ⟨rfl,trivial⟩ (fun t h=>by injection h with h;subst h;exact tl hn rfl) ?_
|refine Yd 2 (J1 d s en _ _ (by first|omega|(simp only[Za7,Za8,Za9];omega)) (by omega) (by omega)) rfl (by simp[AV.onlys,AV.only]) (by simp[AV.only,AV.onlys]) rfl rfl rfl (Yj _ _ _ _) (Yj _ _ _ _) rfl ⟨rfl,trivial⟩ (fun t h=>by injection h with h;subst h;exact tl hn rfl) ?_
|refine Zbg Zk hn rfl ?_
|refine Zbh ?_
|refine Za 30 rfl ?_
|refine Zs rfl (tl hn rfl) ?_
|(refine Zc hn rfl rfl rfl ?_;first
|refine⟨_,Zb rfl rfl (by omega) (by assumption),?_⟩
   ))
 refine Zbf 30 rfl ?_
 refine Wm (t:=0) rfl (Ux ?_) (by simp[cO]) (Yj _ _ _ _) rfl
 simp[Y7,hk]
set_option maxHeartbeats 8000000 in
theorem array_am(d:Des)(s:Int)(en:List Int)(x:Rul)(hk:x.kind=5)(hr:J6 d x en):AM Tryz.prog 37 (cO d s en []) [0] [.obj 0 0,.ro (.agg (Xz x))] (cO d s en (Y7 x s en)) (.tup []):=by
 refine Yz Tryz.func37 rfl _ Tryz.ntmps37 (by simp) (by simp) fun C gs hn=>?_
 obtain⟨f5,f7,f8,f4⟩:=Wk hr.1
 have hlk:(x.kids.map fun z=>[RV.int z]).length=x.kids.length:=lmT ..
 have hk2:=f5 hk
 obtain⟨h0,h1,h2⟩:=kid0 hr (by omega)
 obtain⟨z,hz⟩:∃z,x.kids[(1:Int).toNat]?=some z:=⟨_,Za6 (by simp;omega)⟩
 have hz':x.kids[1]?=some z:=hz
 obtain⟨h3,h4⟩:=hr.2 1 z hz'
 repeat' (first
|refine Yd 2 (Qu d s en _ _ _ _ (by first|omega|(simp only[Za7,Za8,Za9];omega))) rfl (by simp[AV.onlys,AV.only]) (by simp[AV.only,AV.onlys]) rfl rfl rfl (Yj _ _ _ _) (Yj _ _ _ _) rfl ⟨rfl,trivial⟩ (fun t h=>by injection h with h;subst h;exact tl hn rfl) ?_
|refine Yd 2 (J1 d s en _ _ (by first|omega|(simp only[Za7,Za8,Za9];omega)) (by omega) (by omega)) rfl (by simp[AV.onlys,AV.only]) (by simp[AV.only,AV.onlys]) rfl rfl rfl (Yj _ _ _ _) (Yj _ _ _ _) rfl ⟨rfl,trivial⟩ (fun t h=>by injection h with h;subst h;exact tl hn rfl) ?_
|(refine Zc hn rfl rfl rfl ?_;first
|refine⟨_,T8 (Rg d s en _) (.cons (lend_c rfl) .nil),?_⟩
|refine⟨_,We rfl rfl,?_⟩)
|refine Zbg Zk hn rfl ?_
|refine Zbh ?_
|refine Za 30 rfl ?_
|refine Zs rfl (tl hn rfl) ?_
|(refine Zc hn rfl rfl rfl ?_;first
|refine⟨_,Zb rfl rfl (by omega) (by assumption),?_⟩
   ))
 refine Zbf 30 rfl ?_
 refine Wm (t:=0) rfl (Ux ?_) (by simp[cO]) (Yj _ _ _ _) rfl
 have:=Ep (s+3) 3
 simp[Y7,hk,hz']
 simpa [Int.add_assoc] using this
set_option maxRecDepth 100000
def conI(l:List UInt8):List Ins:=l.map fun b=>⟨2,(b.toNat:Int),0⟩
theorem conI_next{l:List UInt8}{j:Nat}{b:UInt8}(h:l[j]?=some b):conI (l.take (j+1))=conI (l.take j)++[⟨2,(b.toNat:Int),0⟩]:=by
 unfold conI
 rw[List.take_add_one,h,List.map_append]
 rfl
theorem conI_len(l:List UInt8)(j:Nat):(conI (l.take j)).length≤j:=by unfold conI;rw[lmT,List.length_take];omega
def seqC(en:List Int)(l:List Int):List Ins:=l.map (Y4 en)
theorem seqC_next{en l:List Int}{j:Nat}{b:Int}(h:l[j]?=some b):seqC en (l.take (j+1))=seqC en (l.take j)++[Y4 en b]:=by
 unfold seqC
 rw[List.take_add_one,h,List.map_append]
 rfl
theorem seqC_len(en l:List Int)(j:Nat):(seqC en (l.take j)).length≤j:=by unfold seqC;rw[lmT,List.length_take];omega
set_option maxHeartbeats 4000000 in
theorem Rn(d:Des)(s:Int)(en:List Int)(x:Rul)(hk:x.kind=2)(hl:x.bytes.length≤1048576):AM Tryz.prog 34 (cO d s en []) [0] [.obj 0 0,.ro (.agg (Xz x))] (cO d s en (Y7 x s en)) (.tup []):=by
 refine Yz Tryz.func34 rfl _ Tryz.ntmps34 (by simp) (by simp) fun C gs hn=>?_
 have hle:(x.bytes.map fun z=>[RV.u8 z]).length=x.bytes.length:=lmT ..
 repeat' (first
|refine Zbg Zk hn rfl ?_
|refine Zbh ?_
|refine Za 30 rfl ?_
|(refine Zbf 30 rfl ?_;first|(refine Zd rfl ?_ ?_;·first|omega|rfl|assumption|(simp only[lmT];omega))|(refine Ze rfl ?_ ?_;·first|omega|rfl|assumption|(simp only[lmT];omega)))
|refine Zs rfl (tl hn rfl) ?_
|(refine Zc hn rfl rfl rfl ?_;first
|refine⟨_,Zq rfl rfl (by omega),?_⟩
|refine⟨_,Zb rfl rfl (by omega) (by assumption),?_⟩
   ))
 refine Yh 30 rfl (fun j=>[(0,.pin 0 0 (gs 0)),(7,.ro (Ya x.bytes)),(8,.int (x.bytes.length:Int)),(9,.int (j:Int))]) (fun j=>cO d s en (conI (x.bytes.take j))++[⟨78,0,(Xz x).map .ro⟩]) (fun _=>True) x.bytes.length 0 (Nat.zero_le _) trivial ⟨rfl,rfl,by simp[look],rfl,trivial⟩ rfl fun j hj _ next=>?_
 have hcl:=conI_len x.bytes j
 by_cases hlt:j<x.bytes.length
 ·obtain⟨b,hb⟩:∃b,x.bytes[(j:Int).toNat]?=some b:=⟨_,Za6 hlt⟩
  have hb':x.bytes[j]?=some b:=hb
  repeat' (first
|refine Yd 2 (Qu d s en _ _ _ _ (by first|omega|(simp only[Za7,Za8,Za9];omega))) rfl (by simp[AV.onlys,AV.only]) (by simp[AV.only,AV.onlys]) rfl rfl rfl (Yj _ _ _ _) (Yj _ _ _ _) rfl ⟨rfl,trivial⟩ (fun t h=>by injection h with h;subst h;exact tl hn rfl) ?_
|refine Zbg Zk hn rfl ?_
|refine Zbh ?_
|refine Za 30 rfl ?_
|(refine Zc hn rfl rfl rfl ?_;first
|refine⟨_,Wv rfl,?_⟩)
|(refine Zbf 30 rfl ?_;first|(refine Zd rfl ?_ ?_;·first|omega|rfl|assumption|(simp only[lmT];omega))|(refine Ze rfl ?_ ?_;·first|omega|rfl|assumption|(simp only[lmT];omega)))
|refine Zs rfl (tl hn rfl) ?_
|(refine Zc hn rfl rfl rfl ?_;first
|refine⟨_,Zq rfl rfl (by omega),?_⟩
|refine⟨_,Zb rfl rfl (by omega) (by assumption),?_⟩
    ))
  exact next _ _ ⟨rfl,rfl,rfl,rfl,trivial⟩ hlt trivial (Ux (conI_next hb'))
 ·obtain rfl:j=x.bytes.length:=by omega
  repeat' (first
|refine Zbg Zk hn rfl ?_
|refine Zbh ?_
|refine Za 30 rfl ?_
|(refine Zbf 30 rfl ?_;first|(refine Zd rfl ?_ ?_;·first|omega|rfl|assumption|(simp only[lmT];omega))|(refine Ze rfl ?_ ?_;·first|omega|rfl|assumption|(simp only[lmT];omega)))
|refine Zs rfl (tl hn rfl) ?_
|(refine Zc hn rfl rfl rfl ?_;first
|refine⟨_,Zq rfl rfl (by omega),?_⟩
|refine⟨_,Zb rfl rfl (by omega) (by assumption),?_⟩
    ))
  refine Zbf 30 rfl ?_
  refine Wm (t:=0) rfl (Ux ?_) (by simp[cO]) (Yj _ _ _ _) rfl
  rw[List.take_length]
  simp[Y7,hk,conI]
set_option maxHeartbeats 4000000 in
theorem Pn(d:Des)(s:Int)(en:List Int)(x:Rul)(hk:x.kind=6)(hr:J6 d x en)(hl:x.kids.length≤1048576):AM Tryz.prog 38 (cO d s en []) [0] [.obj 0 0,.ro (.agg (Xz x))] (cO d s en (Y7 x s en)) (.tup []):=by
 refine Yz Tryz.func38 rfl _ Tryz.ntmps38 (by simp) (by simp) fun C gs hn=>?_
 have hle:(x.kids.map fun z=>[RV.int z]).length=x.kids.length:=lmT ..
 repeat' (first
|refine Zbg Zk hn rfl ?_
|refine Zbh ?_
|refine Za 30 rfl ?_
|(refine Zbf 30 rfl ?_;first|(refine Zd rfl ?_ ?_;·first|omega|rfl|assumption|(simp only[lmT];omega))|(refine Ze rfl ?_ ?_;·first|omega|rfl|assumption|(simp only[lmT];omega)))
|refine Zs rfl (tl hn rfl) ?_
|(refine Zc hn rfl rfl rfl ?_;first
|refine⟨_,Zq rfl rfl (by omega),?_⟩
|refine⟨_,Zb rfl rfl (by omega) (by assumption),?_⟩
   ))
 refine Yh 30 rfl (fun j=>[(0,.pin 0 0 (gs 0)),(7,.ro (Xe x.kids)),(8,.int (x.kids.length:Int)),(9,.int (j:Int))]) (fun j=>cO d s en (seqC en (x.kids.take j))++[⟨78,0,(Xz x).map .ro⟩]) (fun _=>True) x.kids.length 0 (Nat.zero_le _) trivial ⟨rfl,rfl,by simp[look],rfl,trivial⟩ rfl fun j hj _ next=>?_
 have hcl:=seqC_len en x.kids j
 by_cases hlt:j<x.kids.length
 ·obtain⟨b,hb⟩:∃b,x.kids[(j:Int).toNat]?=some b:=⟨_,Za6 hlt⟩
  have hb':x.kids[j]?=some b:=hb
  obtain⟨h3,h4⟩:=hr.2 j b hb'
  repeat' (first
|refine Yd 2 (J1 d s en _ _ (by first|omega|(simp only[Za7,Za8,Za9];omega)) (by omega) (by omega)) rfl (by simp[AV.onlys,AV.only]) (by simp[AV.only,AV.onlys]) rfl rfl rfl (Yj _ _ _ _) (Yj _ _ _ _) rfl ⟨rfl,trivial⟩ (fun t h=>by injection h with h;subst h;exact tl hn rfl) ?_
|refine Zbg Zk hn rfl ?_
|refine Zbh ?_
|refine Za 30 rfl ?_
|(refine Zbf 30 rfl ?_;first|(refine Zd rfl ?_ ?_;·first|omega|rfl|assumption|(simp only[lmT];omega))|(refine Ze rfl ?_ ?_;·first|omega|rfl|assumption|(simp only[lmT];omega)))
|refine Zs rfl (tl hn rfl) ?_
|(refine Zc hn rfl rfl rfl ?_;first
|refine⟨_,Zq rfl rfl (by omega),?_⟩
|refine⟨_,Zb rfl rfl (by omega) (by assumption),?_⟩
    ))
  exact next _ _ ⟨rfl,rfl,rfl,rfl,trivial⟩ hlt trivial (Ux (seqC_next hb'))
 ·obtain rfl:j=x.kids.length:=by omega
  repeat' (first
|refine Zbg Zk hn rfl ?_
|refine Zbh ?_
|refine Za 30 rfl ?_
|(refine Zbf 30 rfl ?_;first|(refine Zd rfl ?_ ?_;·first|omega|rfl|assumption|(simp only[lmT];omega))|(refine Ze rfl ?_ ?_;·first|omega|rfl|assumption|(simp only[lmT];omega)))
|refine Zs rfl (tl hn rfl) ?_
|(refine Zc hn rfl rfl rfl ?_;first
|refine⟨_,Zq rfl rfl (by omega),?_⟩
|refine⟨_,Zb rfl rfl (by omega) (by assumption),?_⟩
    ))
  refine Zbf 30 rfl ?_
  refine Wm (t:=0) rfl (Ux ?_) (by simp[cO]) (Yj _ _ _ _) rfl
  rw[List.take_length]
  simp[Y7,hk,seqC]
def choA(x:Rul)(s:Int)(en:List Int)(j:Nat):List Ins:=Y4 en (x.kids.headD 0)::V0 x.tags (s+(x.tags.length:Int)+2) j
def choB(x:Rul)(s:Int)(en:List Int)(j:Nat):List Ins:=choA x s en x.tags.length++⟨12,3,0⟩::Xk x.kids en j
theorem choB_len(x:Rul)(s:Int)(en:List Int)(j:Nat):(choB x s en j).length≤x.tags.length+2+2*j:=by
 have:=Qr x.kids en j
 unfold choB choA
 simp only[Za7,Za8,Vg]
 omega
theorem choA_len(x:Rul)(s:Int)(en:List Int)(j:Nat):(choA x s en j).length=j+1:=by
 unfold choA
 simp only[Za8,Vg]
set_option maxHeartbeats 8000000 in
theorem choice_am(d:Des)(s:Int)(en:List Int)(x:Rul)(hk:x.kind=7)(hr:J6 d x en)(hl:x.kids.length≤1048576):AM Tryz.prog 39 (cO d s en []) [0] [.obj 0 0,.ro (.agg (Xz x))] (cO d s en (Y7 x s en)) (.tup []):=by
 refine Yz Tryz.func39 rfl _ Tryz.ntmps39 (by simp) (by simp) fun C gs hn=>?_
 obtain⟨f5,f7,f8,f4⟩:=Wk hr.1
 have hlk:(x.kids.map fun z=>[RV.int z]).length=x.kids.length:=lmT ..
 have hlt':(x.tags.map fun z=>[RV.int z]).length=x.tags.length:=lmT ..
 obtain⟨hkl,_,_,_⟩:=f7 hk
 obtain⟨h0,h1,h2⟩:=kid0 hr (by omega)
 repeat' (first
|refine Yd 2 (Qu d s en _ _ _ _ (by first|omega|(simp only[Za7,Za8,Za9];omega))) rfl (by simp[AV.onlys,AV.only]) (by simp[AV.only,AV.onlys]) rfl rfl rfl (Yj _ _ _ _) (Yj _ _ _ _) rfl ⟨rfl,trivial⟩ (fun t h=>by injection h with h;subst h;exact tl hn rfl) ?_
|refine Yd 2 (J1 d s en _ _ (by first|omega|(simp only[Za7,Za8,Za9];omega)) (by omega) (by omega)) rfl (by simp[AV.onlys,AV.only]) (by simp[AV.only,AV.onlys]) rfl rfl rfl (Yj _ _ _ _) (Yj _ _ _ _) rfl ⟨rfl,trivial⟩ (fun t h=>by injection h with h;subst h;exact tl hn rfl) ?_
|((first|refine Zc hn rfl rfl rfl ?_|refine Zl rfl rfl ?_);first
|refine⟨_,T8 (Rg d s en _) (.cons (lend_c rfl) .nil),?_⟩
|refine⟨_,We rfl rfl,?_⟩)
|refine Zbg Zk hn rfl ?_
|refine Zbh ?_
|refine Za 30 rfl ?_
|(refine Zbf 30 rfl ?_;first|refine Zm rfl ?_|(refine Zd rfl ?_ ?_;·first|omega|rfl|assumption|(simp only[lmT];omega))|(refine Ze rfl ?_ ?_;·first|omega|rfl|assumption|(simp only[lmT];omega)))
|refine Zs rfl (tl hn rfl) ?_
|refine Zbi Zk hn rfl rfl ?_
|refine Zbj ?_
|refine Zo 30 Yc hn rfl (by kernel_rfl) rfl ?_
|((first|refine Zc hn rfl rfl rfl ?_|refine Zl rfl rfl ?_);first
|refine⟨_,Zq rfl rfl (by omega),?_⟩
|refine⟨_,Zb rfl rfl (by omega) (by assumption),?_⟩
|refine⟨_,Xj rfl rfl (by omega),?_⟩))
 refine Yh 30 rfl (fun j=>[(0,.pin 0 0 (gs 0)),(3,.obj 2 0),(4,.int (w64 (s+(x.tags.length:Int)+2))),(22,.ro (Xe x.tags)),(23,.int (x.tags.length:Int)),(24,.int (j:Int))]) (fun j=>cO d s en (choA x s en j)++[⟨78,0,(Xz x).map .ro⟩]) (fun _=>True) x.tags.length 0 (Nat.zero_le _) trivial ⟨rfl,rfl,?_,rfl,by simp[look],rfl,trivial⟩ rfl fun j hj _ next=>?_
 ·show AV.int _=AV.int _
  rw[hlt']
  have e1:=Ep (w64 (s+1)+(x.tags.length:Int)) 1
  have e2:=Ep (s+1) (x.tags.length+1:Int)
  simp only[Za7,Za8,Za9]
  show AV.int (w64 (w64 (w64 (s+(1:Int))+(x.tags.length:Int))+1))=_
  rw[e1,Int.add_assoc,e2,show s+1+((x.tags.length:Int)+1)=s+(x.tags.length:Int)+2 by omega]
 have hcl:=choA_len x s en j
 by_cases hlt:j<x.tags.length
 ·obtain⟨b,hb⟩:∃b,x.tags[(j:Int).toNat]?=some b:=⟨_,Za6 hlt⟩
  have hb':x.tags[j]?=some b:=hb
  repeat' (first
|refine Yd 2 (Qu d s en _ _ _ _ (by first|omega|(simp only[Za7,Za8,Za9];omega))) rfl (by simp[AV.onlys,AV.only]) (by simp[AV.only,AV.onlys]) rfl rfl rfl (Yj _ _ _ _) (Yj _ _ _ _) rfl ⟨rfl,trivial⟩ (fun t h=>by injection h with h;subst h;exact tl hn rfl) ?_
|((first|refine Zc hn rfl rfl rfl ?_|refine Zl rfl rfl ?_);first
|refine⟨_,Xj rfl rfl (by omega),?_⟩)
|refine Zbg Zk hn rfl ?_
|refine Zbh ?_
|refine Za 30 rfl ?_
|((first|refine Zc hn rfl rfl rfl ?_|refine Zl rfl rfl ?_);first
|refine⟨_,We (t:=34) rfl rfl,?_⟩)
|(refine Zbf 30 rfl ?_;first|refine Zm rfl ?_|(refine Zd rfl ?_ ?_;·first|omega|rfl|assumption|(simp only[lmT];omega))|(refine Ze rfl ?_ ?_;·first|omega|rfl|assumption|(simp only[lmT];omega)))
|refine Zs rfl (tl hn rfl) ?_
|refine Zbi Zk hn rfl rfl ?_
|refine Zbj ?_
|refine Zo 30 Yc hn rfl (by kernel_rfl) rfl ?_
|((first|refine Zc hn rfl rfl rfl ?_|refine Zl rfl rfl ?_);first
|refine⟨_,Zq rfl rfl (by omega),?_⟩
|refine⟨_,Zb rfl rfl (by omega) (by assumption),?_⟩
|refine⟨_,Xj rfl rfl (by omega),?_⟩))
  refine next _ _ ⟨rfl,rfl,rfl,rfl,rfl,rfl,trivial⟩ hlt trivial (Ux ?_)
  unfold choA
  rw[Rq hb']
  have:=Ep (s+(x.tags.length:Int)+2) (2*(j:Int))
  show _::(_++[(⟨11,b,w64 (s+(x.tags.length:Int)+2+2*(j:Int))⟩:Ins)])=_::_++[(⟨11,b,w64 (w64 (s+(x.tags.length:Int)+2)+2*(j:Int))⟩:Ins)]
  rw[this]
  rfl
 ·obtain rfl:j=x.tags.length:=by omega
  repeat' (first
|refine Yd 2 (Qu d s en _ _ _ _ (by first|omega|(simp only[Za7,Za8,Za9];omega))) rfl (by simp[AV.onlys,AV.only]) (by simp[AV.only,AV.onlys]) rfl rfl rfl (Yj _ _ _ _) (Yj _ _ _ _) rfl ⟨rfl,trivial⟩ (fun t h=>by injection h with h;subst h;exact tl hn rfl) ?_
|refine Zbg Zk hn rfl ?_
|refine Zbh ?_
|refine Za 30 rfl ?_
|(refine Zbf 30 rfl ?_;first|refine Zm rfl ?_|(refine Zd rfl ?_ ?_;·first|omega|rfl|assumption|(simp only[lmT];omega))|(refine Ze rfl ?_ ?_;·first|omega|rfl|assumption|(simp only[lmT];omega)))
|refine Zs rfl (tl hn rfl) ?_
|refine Zbi Zk hn rfl rfl ?_
|refine Zbj ?_
|refine Zo 30 Yc hn rfl (by kernel_rfl) rfl ?_
|((first|refine Zc hn rfl rfl rfl ?_|refine Zl rfl rfl ?_);first
|refine⟨_,Zq rfl rfl (by omega),?_⟩
|refine⟨_,Zb rfl rfl (by omega) (by assumption),?_⟩
|refine⟨_,Xj rfl rfl (by omega),?_⟩))
  refine Yh 30 rfl (fun j=>[(0,.pin 0 0 (gs 0)),(3,.obj 2 0),(41,.int (x.tags.length:Int)),(42,.int (j:Int))]) (fun j=>cO d s en (choB x s en j)++[⟨78,0,(Xz x).map .ro⟩]) (fun _=>True) x.tags.length 0 (Nat.zero_le _) trivial ⟨rfl,rfl,by simp[look],rfl,trivial⟩ rfl fun j hj _ next2=>?_
  have hcb:=choB_len x s en j
  by_cases hlt:j<x.tags.length
  ·obtain⟨b,hb⟩:∃b,x.kids[((j:Int)+1).toNat]?=some b:=⟨_,Za6 (by omega)⟩
   have hb':x.kids[j+1]?=some b:=by rw[←hb];congr 1
   obtain⟨h3,h4⟩:=hr.2 (j+1) b hb'
   have hbn:choB x s en (j+1)=choB x s en j++((if j=0 then[] else[⟨10,0,0⟩])++[Y4 en b]):=by
    unfold choB
    rw[Tr hb']
    simp
   by_cases hj0:j=0
   ·subst hj0
    repeat' (first
|refine Yd 2 (Qu d s en _ _ _ _ (by first|omega|(simp only[Za7,Za8,Za9];omega))) rfl (by simp[AV.onlys,AV.only]) (by simp[AV.only,AV.onlys]) rfl rfl rfl (Yj _ _ _ _) (Yj _ _ _ _) rfl ⟨rfl,trivial⟩ (fun t h=>by injection h with h;subst h;exact tl hn rfl) ?_
|refine Yd 2 (J1 d s en _ _ (by first|omega|(simp only[Za7,Za8,Za9];omega)) (by omega) (by omega)) rfl (by simp[AV.onlys,AV.only]) (by simp[AV.only,AV.onlys]) rfl rfl rfl (Yj _ _ _ _) (Yj _ _ _ _) rfl ⟨rfl,trivial⟩ (fun t h=>by injection h with h;subst h;exact tl hn rfl) ?_
|refine Zbg Zk hn rfl ?_
|refine Zbh ?_
|refine Za 30 rfl ?_
|(refine Zbf 30 rfl ?_;first|refine Zm rfl ?_|(refine Zd rfl ?_ ?_;·first|omega|rfl|assumption|(simp only[lmT];omega))|(refine Ze rfl ?_ ?_;·first|omega|rfl|assumption|(simp only[lmT];omega)))
|refine Zs rfl (tl hn rfl) ?_
|refine Zbi Zk hn rfl rfl ?_
|refine Zbj ?_
|refine Zo 30 Yc hn rfl (by kernel_rfl) rfl ?_
|((first|refine Zc hn rfl rfl rfl ?_|refine Zl rfl rfl ?_);first
|refine⟨_,Zq rfl rfl (by omega),?_⟩
|refine⟨_,Zb rfl rfl (by omega) (by assumption),?_⟩
|refine⟨_,Xj rfl rfl (by omega),?_⟩))
    all_goals first
     |(exfalso;omega)
     |exact next2 _ _ ⟨rfl,rfl,rfl,rfl,trivial⟩ hlt trivial (Ux (by rw[hbn];rfl))
   ·repeat' (first
|refine Yd 2 (Qu d s en _ _ _ _ (by first|omega|(simp only[Za7,Za8,Za9];omega))) rfl (by simp[AV.onlys,AV.only]) (by simp[AV.only,AV.onlys]) rfl rfl rfl (Yj _ _ _ _) (Yj _ _ _ _) rfl ⟨rfl,trivial⟩ (fun t h=>by injection h with h;subst h;exact tl hn rfl) ?_
|refine Yd 2 (J1 d s en _ _ (by first|omega|(simp only[Za7,Za8,Za9];omega)) (by omega) (by omega)) rfl (by simp[AV.onlys,AV.only]) (by simp[AV.only,AV.onlys]) rfl rfl rfl (Yj _ _ _ _) (Yj _ _ _ _) rfl ⟨rfl,trivial⟩ (fun t h=>by injection h with h;subst h;exact tl hn rfl) ?_
|refine Zbg Zk hn rfl ?_
|refine Zbh ?_
|refine Za 30 rfl ?_
|(refine Zbf 30 rfl ?_;first|refine Zm rfl ?_|(refine Zd rfl ?_ ?_;·first|omega|rfl|assumption|(simp only[lmT];omega))|(refine Ze rfl ?_ ?_;·first|omega|rfl|assumption|(simp only[lmT];omega)))
|refine Zs rfl (tl hn rfl) ?_
|refine Zbi Zk hn rfl rfl ?_
|refine Zbj ?_
|refine Zo 30 Yc hn rfl (by kernel_rfl) rfl ?_
|((first|refine Zc hn rfl rfl rfl ?_|refine Zl rfl rfl ?_);first
|refine⟨_,Zq rfl rfl (by omega),?_⟩
|refine⟨_,Zb rfl rfl (by omega) (by assumption),?_⟩
|refine⟨_,Xj rfl rfl (by omega),?_⟩))
    all_goals first
     |(exfalso;omega)
     |exact next2 _ _ ⟨rfl,rfl,rfl,rfl,trivial⟩ hlt trivial (Ux (by rw[hbn,if_neg hj0];simp))
  ·obtain rfl:j=x.tags.length:=by omega
   repeat' (first
|refine Zbg Zk hn rfl ?_
|refine Zbh ?_
|refine Za 30 rfl ?_
|(refine Zbf 30 rfl ?_;first|refine Zm rfl ?_|(refine Zd rfl ?_ ?_;·first|omega|rfl|assumption|(simp only[lmT];omega))|(refine Ze rfl ?_ ?_;·first|omega|rfl|assumption|(simp only[lmT];omega)))
|refine Zs rfl (tl hn rfl) ?_
|refine Zbi Zk hn rfl rfl ?_
|refine Zbj ?_
|refine Zo 30 Yc hn rfl (by kernel_rfl) rfl ?_
|((first|refine Zc hn rfl rfl rfl ?_|refine Zl rfl rfl ?_);first
|refine⟨_,Zq rfl rfl (by omega),?_⟩
|refine⟨_,Zb rfl rfl (by omega) (by assumption),?_⟩
|refine⟨_,Xj rfl rfl (by omega),?_⟩))
   refine Zbf 30 rfl ?_
   refine Wm (t:=0) rfl (Ux ?_) (by simp[cO]) (Yj _ _ _ _) rfl
   simp[Y7,hk,choB,choA]
set_option maxRecDepth 100000
instance t1_cmpF:T1 Tryz.prog 70:=⟨by kernel_rfl⟩
instance sl_cmpF:SL Tryz.prog 73 70 (.nilFunc) 1 8:=⟨Jb Tryz.underlying73 (by kernel_rfl) rfl (by decide)⟩
def tblC:List AV:=[.fn (.func 33) [] [],.fn (.func 34) [] [],.fn (.func 35) [] [],.fn (.func 36) [] [],.fn (.func 37) [] [],.fn (.func 38) [] [],.fn (.func 39) [] [],.fn (.func 40) [] [],.fn (.func 41) [] [],.fn (.func 42) [] []]
theorem body_len{d:Des}{x:Rul}{en:List Int}(s:Int)(hk:Xi d x)(ht:x.total≤1048576):(Y7 x s en).length≤4194304:=by
 have etx:x.total=x.name.size+x.bytes.length+(x.names.length+(x.names.map ByteArray.size).sum)+x.tags.length+x.kids.length:=rfl
 have hc:=Qr x.kids en x.tags.length
 unfold Y7
 split
 ·simp
 split
 ·rw[lmT];omega
 split
 ·simp
 split
 ·simp
 split
 ·simp
 split
 ·rw[lmT];omega
 split
 ·simp only[Za8,Za7,Vg];omega
 split
 ·simp
 split
 ·simp
 ·simp
theorem Im(r:Nat→Nat):∀rs:List RV,Yx r (rs.map .ro)=rs.map .ro
 | []=>rfl
 |x::rs=>by simp only[List.map_cons,Yx,AV.ren,Im r rs]
set_option maxHeartbeats 8000000 in
theorem X0{f:FuncId}{fn:Func}[FN Tryz.prog f fn](d:Des)(hd:Wi d≤1048576)(n:Nat)(x:Rul)(hx:d[n]?=some x)(s:Int)(en:List Int)(hkn:ACv Tryz.prog 32 [X1 d,.int (n:Int)] (.bool true))(hen:n≤en.length)(hk:Xi d x)(h1:1≤x.kind)(h2:x.kind≤10)
  (hM:AM Tryz.prog f (cO d s en []) [0] [.obj 0 0,.ro (.agg (Xz x))] (cO d s en (Y7 x s en)) (.tup [])) (hT:tblC[(x.kind-1).toNat*1]?=some (.fn (.func f) [] [])) :
  AC Tryz.prog 15 [X1 d,.int (n:Int),.int s,Xe en] (fun rr=>rr = .row 51 3 ((Xh x s en).flatMap Ul)):=by
 have hlm:(d.map Xz).length=d.length:=lmT ..
 have hle:(en.map fun z=>[RV.int z]).length=en.length:=lmT ..
 have hx':d[(n:Int).toNat]?=some x:=hx
 have hb:=body_len s (en:=en) hk (Nat.le_trans (by have:=U7 Rul.total (Zba hx);have et:Wi d=d.length+(d.map Rul.total).sum:=rfl;omega) hd)
 have hA:=Qu d s en (Y7 x s en) 10 0 0 (by omega)
 refine Zz Tryz.func15 rfl _ Tryz.ntmps15 (by simp) fun C hn hm=>?_
 repeat' (first
|refine Y3 (id:=6) 30 [] [0,1,2,3,4,5,6,7] 8 [] Yc hn rfl (by kernel_rfl) rfl .nil (by decide) (by decide) (by decide) ?_
|refine Uz rfl rfl rfl rfl rfl (tl hn rfl) ?_
|refine RunsT.nil ?_
|refine RunsT.step Zk rfl rfl (fun _=>rfl) (by decide) ?_
|refine RunsT.pur (fun _=>Zi hkn rfl) (by decide) rfl rfl ?_
|refine RunsT.pur (fun _=>Z2 rfl) (by decide) rfl rfl ?_
|refine RunsT.pur (fun _=>Yk (n:=10) rfl rfl rfl rfl rfl (by omega) (by omega)) (by decide) rfl rfl ?_
|refine RunsT.pur (fun _=>Yn rfl rfl hT) (by decide) rfl rfl ?_
|refine RunsT.pur (fun _=>Ww rfl) (by decide) rfl rfl ?_
|refine RunsT.pur (fun _=>Z7 rfl rfl (by omega)) (by decide) rfl rfl ?_
|refine RunsT.pur (fun _=>Zb rfl rfl (by omega) (by assumption)) (by decide) rfl rfl ?_
|refine Zbg Zk hn rfl ?_
|refine Zbh ?_
|refine Za 30 rfl ?_
|(refine Zc hn rfl rfl rfl ?_;first
|refine⟨_,Zi hkn rfl,?_⟩
|refine⟨_,Z2 rfl,?_⟩
|refine⟨_,Yk (n:=10) rfl rfl rfl rfl rfl (by omega) (by omega),?_⟩
|refine⟨_,Yn rfl rfl hT,?_⟩
|refine⟨_,Ww rfl,?_⟩
|refine⟨_,Z7 rfl rfl (by omega),?_⟩)
|(refine Zbf 30 rfl ?_;first|(refine Ze rfl ?_ ?_;·first|omega|rfl|assumption|(simp only[lmT];omega))|refine Zbe (Zj hm rfl rfl ?_)|exact Zbe (Zf hm rfl rfl rfl (nbT rfl) rfl rfl))
|refine Zs rfl (tl hn rfl) ?_
|refine Zx (tl hn rfl) ?_
|refine Zr rfl rfl rfl rfl (nbT rfl) ?_
|(refine Zc hn rfl rfl rfl ?_;first
|refine⟨_,Zb rfl rfl (by omega) (by assumption),?_⟩
|refine⟨_,Z7 rfl rfl (by omega),?_⟩)
  )
 refine Hu 2 3 (e:=51) (sz:=3) (by decide) rfl rfl ?_
 refine op_callMF [2,4] rfl hM rfl (by simp[AV.onlys,AV.only,cO]) ⟨rfl,rfl,rfl,by decide,⟨rfl,rfl,trivial⟩,Yj _ _ _ _,rfl,⟨.inr rfl,.inr rfl,.inl rfl,.inr rfl,.inl rfl,trivial⟩⟩ (fun t h=>by injection h with h;subst h;exact tl hn rfl) ?_
 repeat' (first
|refine Gz [2,4] hA rfl (by simp[AV.onlys,AV.only,cO]) ⟨rfl,rfl,rfl,by decide,⟨rfl,rfl,trivial⟩,Yj _ _ _ _,rfl,⟨.inr rfl,.inr rfl,.inl rfl,.inr rfl,.inl rfl,trivial⟩⟩ (fun t h=>by injection h with h;subst h;exact tl hn rfl) ?_
|refine Zbg Zk hn rfl ?_
|refine Zbh ?_
|refine Za 30 rfl ?_
|(refine Zc hn rfl rfl rfl ?_;first
|refine⟨_,Ww rfl,?_⟩)
|(refine Zbf 30 rfl ?_;first|(refine Ze rfl ?_ ?_;·first|omega|rfl|assumption|(simp only[lmT];omega))|refine Zbe (Zj hm rfl rfl ?_)|exact Zbe (Zf hm rfl rfl rfl (nbT rfl) rfl rfl))
|refine Zs rfl (tl hn rfl) ?_
|refine Zx (tl hn rfl) ?_
|refine Zr rfl rfl rfl rfl (nbT rfl) ?_
|(refine Zc hn rfl rfl rfl ?_;first
|refine⟨_,Zb rfl rfl (by omega) (by assumption),?_⟩
|refine⟨_,Z7 rfl rfl (by omega),?_⟩)
  )
 exact Zbf 30 rfl (Zbe (Xl (rs:=(Xh x s en).flatMap Ul) hm rfl rfl rfl (Im _ _) rfl))
theorem Zar{d:Des}{x:Rul}(h:Xi d x):1≤x.kind∧x.kind≤10:=by
 unfold Xi at h
 omega
theorem Ro(d:Des)(hd:Wi d≤1048576)(hG:U5 d)(n:Nat)(x:Rul)(hx:d[n]?=some x)(s:Int)(en:List Int)(hkn:ACv Tryz.prog 32 [X1 d,.int (n:Int)] (.bool true))(hen:n≤en.length) :
  AC Tryz.prog 15 [X1 d,.int (n:Int),.int s,Xe en] (fun rr=>rr = .row 51 3 ((Xh x s en).flatMap Ul)):=by
 have hk:=Mf hG hx
 have hr:J6 d x en:=⟨hk,fun k z hz=>by have:=Ra hG hx hz;omega⟩
 obtain⟨b1,b2⟩:=Zar hk
 have hxt:=U7 Rul.total (Zba hx)
 have et:Wi d=d.length+(d.map Rul.total).sum:=rfl
 have etx:x.total=x.name.size+x.bytes.length+(x.names.length+(x.names.map ByteArray.size).sum)+x.tags.length+x.kids.length:=rfl
 have hb10:x.kind=10→x.bytes.length=1:=fun e=>by
  have h:=hk
  unfold Xi at h
  omega
 have hkk:x.kind=1∨x.kind=2∨x.kind=3∨x.kind=4∨x.kind=5∨x.kind=6∨x.kind=7∨x.kind=8∨x.kind=9∨x.kind=10:=by omega
 rcases hkk with e|e|e|e|e|e|e|e|e|e
 ·exact X0 d hd n x hx s en hkn hen hk b1 b2 (Zal d s en x e) (by rw[e];rfl)
 ·exact X0 d hd n x hx s en hkn hen hk b1 b2 (Rn d s en x e (by omega)) (by rw[e];rfl)
 ·exact X0 d hd n x hx s en hkn hen hk b1 b2 (fixed_am d s en x e) (by rw[e];rfl)
 ·exact X0 d hd n x hx s en hkn hen hk b1 b2 (sized_am d s en x e hr) (by rw[e];rfl)
 ·exact X0 d hd n x hx s en hkn hen hk b1 b2 (array_am d s en x e hr) (by rw[e];rfl)
 ·exact X0 d hd n x hx s en hkn hen hk b1 b2 (Pn d s en x e hr (by omega)) (by rw[e];rfl)
 ·exact X0 d hd n x hx s en hkn hen hk b1 b2 (choice_am d s en x e hr (by omega)) (by rw[e];rfl)
 ·exact X0 d hd n x hx s en hkn hen hk b1 b2 (option_am d s en x e hr) (by rw[e];rfl)
 ·exact X0 d hd n x hx s en hkn hen hk b1 b2 (Zat d s en x e hr) (by rw[e];rfl)
 ·exact X0 d hd n x hx s en hkn hen hk b1 b2 (Gk d s en x e (hb10 e)) (by rw[e];rfl)
noncomputable def cmpL(d:Des)(r s:Int)(en:List Int):List Ins:=open Classical in if Kn d r∧r≤en.length then(match d[r.toNat]? with
 |some x=>Xh x s en
 |none=>[]) else[]
theorem Hm{d:Des}{r s:Int}{en:List Int}{x:Rul}(h:Kn d r∧r≤en.length)(hx:d[r.toNat]?=some x):cmpL d r s en=Xh x s en:=by unfold cmpL;rw[if_pos h,hx]
theorem Rp{d:Des}{r s:Int}{en:List Int}(h:¬(Kn d r∧r≤en.length)):cmpL d r s en=[]:=by unfold cmpL;rw[if_neg h]
set_option maxHeartbeats 4000000 in
theorem T5(d:Des)(ho:H0 d)(hd:Wi d≤1048576)(r s:Int)(en:List Int):AC Tryz.prog 15 [X1 d,.int r,.int s,Xe en] (fun rr=>rr = .row 51 3 ((cmpL d r s en).flatMap Ul)):=by
 have hkn:=known_ac d ho hd r
 have hle:(en.map fun z=>[RV.int z]).length=en.length:=lmT ..
 by_cases hK:Kn d r
 ·rw[decide_eq_true hK]at hkn
  obtain⟨n,x,rfl,hn',hx⟩:=kn_nat hK
  by_cases hen:(n:Int)≤en.length
  ·rw[Hm ⟨hK,hen⟩ hx]
   exact Ro d hd hK.1 n x hx s en hkn (by omega)
  ·rw[Rp fun h=>hen h.2]
   refine Zz Tryz.func15 rfl _ Tryz.ntmps15 (by simp) fun C hn hm=>?_
   repeat' (first
|refine Xa (tl hn rfl) ?_
|refine Zbg Zk hn rfl ?_
|refine Zbh ?_
|refine Za 30 rfl ?_
|(refine Zc hn rfl rfl rfl ?_;first
|refine⟨_,Zi hkn rfl,?_⟩)
|(refine Zbf 30 rfl ?_;first|refine Zg rfl ?_|(refine Zd rfl ?_ ?_;·first|omega|rfl|assumption|(simp only[lmT];omega))|refine Zbe (Zj hm rfl rfl ?_)|exact Zbe (Zf hm rfl rfl rfl (nbT rfl) rfl rfl))
|refine Zs rfl (tl hn rfl) ?_
    )
   all_goals first
    |exact Zbf 30 rfl (Zbe (Xl (rs:=[]) hm rfl rfl rfl rfl rfl))
    |(exfalso;omega)
 ·rw[decide_eq_false hK]at hkn
  rw[Rp fun h=>hK h.1]
  refine Zz Tryz.func15 rfl _ Tryz.ntmps15 (by simp) fun C hn hm=>?_
  repeat' (first
|refine Xa (tl hn rfl) ?_
|refine Zbg Zk hn rfl ?_
|refine Zbh ?_
|refine Za 30 rfl ?_
|(refine Zc hn rfl rfl rfl ?_;first
|refine⟨_,Zi hkn rfl,?_⟩)
|(refine Zbf 30 rfl ?_;first|refine Zg rfl ?_|(refine Zd rfl ?_ ?_;·first|omega|rfl|assumption|(simp only[lmT];omega))|refine Zbe (Zj hm rfl rfl ?_)|exact Zbe (Zf hm rfl rfl rfl (nbT rfl) rfl rfl))
|refine Zs rfl (tl hn rfl) ?_
   )
  exact Zbf 30 rfl (Zbe (Xl (rs:=[]) hm rfl rfl rfl rfl rfl))
set_option maxRecDepth 100000
set_option maxRecDepth 100000
theorem body_len'{d:Des}{x:Rul}{en:List Int}(s:Int)(hk:Xi d x)(ht:x.total≤1048576):(Y7 x s en).length≤6+3*x.total:=by
 have etx:x.total=x.name.size+x.bytes.length+(x.names.length+(x.names.map ByteArray.size).sum)+x.tags.length+x.kids.length:=rfl
 have hc:=Qr x.kids en x.tags.length
 unfold Y7
 split
 ·simp only[Za8,Za9];omega
 split
 ·rw[lmT];omega
 split
 ·simp only[Za8,Za9];omega
 split
 ·simp only[Za8,Za9];omega
 split
 ·simp only[Za8,Za9];omega
 split
 ·rw[lmT];omega
 split
 ·simp only[Za8,Za7,Vg];omega
 split
 ·simp only[Za8,Za9];omega
 split
 ·simp only[Za8,Za9];omega
 ·simp only[Za8,Za9];omega
set_option maxRecDepth 100000
mutual
noncomputable def cdT(d:Des):Nat→List Ins
 |0=>[]
 |j+1=>cdT d j++cmpL d j ((cdT d j).length+2:Nat) (cdE d j)
noncomputable def cdE(d:Des):Nat→List Int
 |0=>[]
 |j+1=>cdE d j++[(((cdT d j).length+2:Nat):Int)]
end
def cdC(a:Int)(l:List Ins):List Ins:=⟨9,a,0⟩::⟨17,0,0⟩::l
theorem Ho(a:Int)(l:List Ins):(cdC a l).length=l.length+2:=rfl
theorem cdC_app(a:Int)(l m:List Ins):cdC a (l++m)=cdC a l++m:=rfl
theorem Ur(d:Des):∀j:Nat,(cdE d j).length=j
 |0=>by simp[cdE]
 |j+1=>by rw[cdE,Za7,Ur d j];rfl
theorem rule_len(d:Des)(hd:Wi d≤1048576)(j:Nat)(x:Rul)(hx:d[j]?=some x)(s:Int)(en:List Int):(cmpL d j s en).length≤7+3*x.total:=by
 have hxt:=U7 Rul.total (Zba hx)
 have et:Wi d=d.length+(d.map Rul.total).sum:=rfl
 by_cases h:Kn d (j:Int)∧(j:Int)≤en.length
 ·rw[Hm h hx]
  have:=body_len' s (en:=en) (Mf h.1.1 hx) (by omega)
  unfold Xh
  rw[Za7,Zbb]
  omega
 ·rw[Rp h];simp
theorem cdT_len(d:Des)(hd:Wi d≤1048576):∀j:Nat,j≤d.length→(cdT d j).length≤7*j+3*((d.take j).map Rul.total).sum
 |0,_=>by simp[cdT]
 |j+1,h=>by
  obtain⟨x,hx⟩:∃x,d[j]?=some x:=⟨_,Za6 (by omega)⟩
  have ih:=cdT_len d hd j (by omega)
  have hs:=Gm Rul.total hx
  have hr:=rule_len d hd j x hx ((cdT d j).length+2:Nat) (cdE d j)
  rw[cdT,Za7,hs]
  omega
theorem cdT_le(d:Des)(hd:Wi d≤1048576)(hG:U5 d)(j:Nat)(h:j≤d.length):(cdT d j).length≤3145896:=by
 have h1:=cdT_len d hd j h
 have h2:=Pi Rul.total d j
 have h3:=hG.2.1
 have et:Wi d=d.length+(d.map Rul.total).sum:=rfl
 omega
noncomputable def cdF(d:Des):Prg:=open Classical in if U5 d then⟨cdC (((cdE d d.length)[d.length-1]?).getD 0) (cdT d d.length),cdE d d.length⟩ else⟨[],[]⟩
theorem Rt{d:Des}(h:U5 d):cdF d=⟨cdC (((cdE d d.length)[d.length-1]?).getD 0) (cdT d d.length),cdE d d.length⟩:=by unfold cdF;rw[if_pos h]
theorem cdF_no{d:Des}(h:¬U5 d):cdF d=⟨[],[]⟩:=by unfold cdF;rw[if_neg h]
instance tb_prg:TB Tryz.prog 32 [(0,1),(1,1)] [.slice none 0 0,.slice none 0 0]:=⟨_,_,_,rfl,rfl,rfl,rfl,by kernel_rfl,by decide⟩
def cdS(d:Des)(c:List Ins)(e:List Int):List Ob:=[⟨26,0,[.ro (Wa d)]⟩,⟨32,0,[.nil,.nil]⟩,⟨51,3,(c.flatMap Ul).map .ro⟩,⟨32,0,[.own 2,.own 4]⟩,⟨3,1,(e.map RV.int).map .ro⟩]
theorem S5:∀l:List Ins,l.flatMap Ul=(l.flatMap insV).map .c
 | []=>rfl
 |x::l=>by rw[List.flatMap_cons,List.flatMap_cons,List.map_append,S5 l];rfl
theorem lend_e{C:Ctx}{d:Des}{c:List Ins}{e:List Int}{more:List Ob}:Lends C (cdS d c e++more) (.own 4) (Xe e):=
 Lends.own (o:=⟨3,1,(e.map RV.int).map .ro⟩) (els:=e.map fun z=>[RV.int z]) rfl (by
  have:(e.map fun z=>[RV.int z]).flatten=e.map RV.int:=by induction e with
   |nil=>rfl
   |cons a e ih=>simp[ih]
  rw[this]) (by simp)
theorem Oh(e:List Int):((e.map RV.int).map AV.ro).length=e.length*1:=by simp
theorem M8(c:List Ins):((c.flatMap Ul).map AV.ro).length=c.length*3:=by rw[lmT,Dy]
theorem Oj(d:Des)(hl:d.length≤maxLen):ACv Tryz.prog 16 [X1 d] (.int ((d.length:Int)-1)):=by
 have hlm:(d.map Xz).length=d.length:=lmT ..
 unfold maxLen at hl
 refine Zz Tryz.func16 rfl _ Tryz.ntmps16 (by simp) fun C hn hm=>?_
 repeat' (first
|refine Zbg Zk hn rfl ?_
|refine Zbh ?_
|refine Za 30 rfl ?_
|(refine Zbf 30 rfl ?_;first|refine Zbe (Zj hm rfl rfl ?_)|exact Zbe (Zf hm rfl rfl rfl (nbT rfl) rfl rfl))
|refine Zs rfl (tl hn rfl) ?_
|(refine Zc hn rfl rfl rfl ?_;first
|refine⟨_,Z7 rfl rfl (by omega),?_⟩
   ))
 exact Xu (by rw[hlm])
set_option maxHeartbeats 16000000 in
theorem K5(d:Des)(ho:H0 d)(hd:Wi d≤1048576):AC Tryz.prog 6 [X1 d] (fun rr=>rr = .agg [.row 51 3 ((cdF d).code.flatMap Ul),.row 3 1 ((cdF d).entries.map RV.int)]):=by
 have hlm:(d.map Xz).length=d.length:=lmT ..
 have hv:=Vp d ho hd
 have et:Wi d=d.length+(d.map Rul.total).sum:=rfl
 by_cases hG:U5 d
 ·have hl:=hG.2.1
  have hl1:=hG.1
  have hr:=Oj d (by unfold maxLen;omega)
  rw[decide_eq_true hG]at hv
  rw[Rt hG]
  refine Zz Tryz.func6 rfl _ Tryz.ntmps6 (by simp) fun C hn hm=>?_
  repeat' (first
|refine Uz (t:=12) rfl rfl rfl rfl rfl (tl hn rfl) ?_
|refine Zbg Zk hn rfl ?_
|refine Zbh ?_
|refine Za 30 rfl ?_
|(refine Zc hn rfl rfl rfl ?_;first
|refine⟨_,Zi hv rfl,?_⟩
|refine⟨_,Z2 rfl,?_⟩)
|(refine Zbf 30 rfl ?_;first|refine Zg rfl ?_|refine Zm rfl ?_|(refine Zd rfl ?_ ?_;·first|omega|rfl|assumption|(simp only[lmT];omega))|(refine Ze rfl ?_ ?_;·first|omega|rfl|assumption|(simp only[lmT];omega))|refine Zbe (Zj hm rfl rfl ?_)|exact Zbe (Zf hm rfl rfl rfl (nbT rfl) rfl rfl))
|refine Zs rfl (tl hn rfl) ?_
|refine Z5 rfl rfl rfl rfl (nbT rfl) ?_
|refine Zx (tl hn rfl) ?_
|refine Zr rfl rfl rfl rfl (nbT rfl) ?_
|(refine Zc hn rfl rfl rfl ?_;first
|refine⟨_,Zq rfl rfl (by omega),?_⟩
|refine⟨_,Zw rfl rfl rfl rfl rfl rfl,?_⟩))
  refine Z4 3 1 (e:=3) (sz:=1) (by decide) rfl rfl ?_
  refine Yh 30 rfl (fun j=>[(1,.obj 0 0),(2,.obj 1 0),(3,.obj 3 0),(16,.int (d.length:Int)),(17,.int (j:Int))]) (fun j=>cdS d (cdC 0 (cdT d j)) (cdE d j)) (fun _=>True) d.length 0 (Nat.zero_le _) trivial ⟨rfl,rfl,rfl,by simp[look],rfl,trivial⟩ (by rw[show cdT d 0=[] by simp[cdT],show cdE d 0=[] by simp[cdE]];rfl) fun j hj _ next=>?_
  have hcl:=cdT_le d hd hG j hj
  have hce:=Ur d j
  by_cases hlt:j<d.length
  ·have hR:=T5 d ho hd (j:Int) ((cdC 0 (cdT d j)).length:Nat) (cdE d j)
   have hcl1:=cdT_le d hd hG (j+1) hlt
   rw[cdT,Za7]at hcl1
   have hrl:(cmpL d j ((cdC 0 (cdT d j)).length:Nat) (cdE d j)).length≤3145896:=by
    rw[Ho];omega
   have hcc:(cdC 0 (cdT d j)).length=(cdT d j).length+2:=rfl
   generalize hq:cmpL d j ((cdC 0 (cdT d j)).length:Nat) (cdE d j)=q at hR hrl
   rw[S5]at hR
   repeat' (first
|refine Y3 (id:=8) 30 [] [0,1,2,3,4,5,6,7] 8 [] Yc hn rfl (by kernel_rfl) rfl .nil (by decide) (by decide) (by decide) ?_
|refine RunsL.junk 3 0 rfl (Yl (t:=31) (i:=2) (n:=(cdC 0 (cdT d j)).length) rfl rfl rfl rfl rfl rfl (by rw[Dy]) (FreeI.at_ (i:=2) (by repeat' (first|exact trivial|exact Yg _ _|exact(by decide:(4:Nat)≠2)|refine⟨?_,?_⟩))) (by simp only[lmT];omega) (by simp only[lmT];omega) (tl hn rfl) ?_)
|refine RunsL.junk 3 1 rfl (Yl (t:=37) (i:=4) (n:=(cdE d j).length) rfl rfl rfl rfl rfl rfl (by simp) (FreeI.at_ (i:=4) (by repeat' (first|exact trivial|exact Yg _ _|exact(by decide:(2:Nat)≠4)|refine⟨?_,?_⟩))) (by simp;omega) (by simp;omega) (tl hn rfl) ?_)
|refine RunsT.nil ?_
|refine RunsT.step Zk rfl rfl (fun _=>rfl) (by decide) ?_
|refine RunsT.pur (fun _=>Yo (n:=(cdC 0 (cdT d j)).length) rfl rfl (M8 _)) (by decide) rfl rfl ?_
|refine RunsT.pur (fun _=>Is hR (els:=q.map Ul) (S5 q) (fun x hx=>by obtain⟨y,_,rfl⟩:=List.mem_map.1 hx;rfl) (.cons .ro (.cons .ro (.cons .ro (.cons lend_e .nil))))) (by decide) rfl rfl ?_
|refine RunsT.pur (fun _=>Zq rfl rfl (by omega)) (by decide) rfl rfl ?_
|refine Zbg Zk hn rfl ?_
|refine Zbh ?_
|refine Za 30 rfl ?_
|(refine Zc hn rfl rfl rfl ?_;first
|refine⟨_,Yo (n:=(cdC 0 (cdT d j)).length) rfl rfl (M8 _),?_⟩
|refine⟨_,Is hR (els:=q.map Ul) (S5 q) (fun x hx=>by obtain⟨y,_,rfl⟩:=List.mem_map.1 hx;rfl) (.cons .ro (.cons .ro (.cons .ro (.cons lend_e .nil)))),?_⟩)
|(refine Zbf 30 rfl ?_;first|refine Zg rfl ?_|refine Zm rfl ?_|(refine Zd rfl ?_ ?_;·first|omega|rfl|assumption|(simp only[lmT];omega))|(refine Ze rfl ?_ ?_;·first|omega|rfl|assumption|(simp only[lmT];omega))|refine Zbe (Zj hm rfl rfl ?_)|exact Zbe (Zf hm rfl rfl rfl (nbT rfl) rfl rfl))
|refine Zs rfl (tl hn rfl) ?_
|refine Z5 rfl rfl rfl rfl (nbT rfl) ?_
|refine Zx (tl hn rfl) ?_
|refine Zr rfl rfl rfl rfl (nbT rfl) ?_
|(refine Zc hn rfl rfl rfl ?_;first
|refine⟨_,Zq rfl rfl (by omega),?_⟩
|refine⟨_,Zw rfl rfl rfl rfl rfl rfl,?_⟩))
   refine next _ _ ⟨rfl,rfl,rfl,rfl,rfl,trivial⟩ hlt trivial ?_
   have e1:cdT d (j+1)=cdT d j++q:=by rw[cdT,←hq];rfl
   have e2:cdE d (j+1)=cdE d j++[((cdC 0 (cdT d j)).length:Int)]:=by rw[cdE];rfl
   rw[e1,e2,cdC_app]
   unfold cdS
   rw[List.flatMap_append,List.map_append (f:=RV.int)]
   rfl
  ·obtain rfl:j=d.length:=by omega
   obtain⟨z,hz⟩:∃z,(cdE d d.length)[d.length-1]?=some z:=⟨_,Za6 (by omega)⟩
   have hzz:(((cdE d d.length).map RV.int).map AV.ro)[((d.length:Int)-1).toNat*1]?=some (.ro (.int z)):=by
    rw[show((d.length:Int)-1).toNat*1=d.length-1 by omega]
    simp[hz]
   rw[hz]
   repeat' (first
|refine Y3 (id:=11) 30 [] [0,1,2,3,4,5,6,7,8,9] 10 [] Yc hn rfl (by kernel_rfl) rfl .nil (by decide) (by decide) (by decide) ?_
|refine RunsT.nil ?_
|refine RunsT.step Zk rfl rfl (fun _=>rfl) (by decide) ?_
|refine RunsT.pur (fun _=>Zi hr rfl) (by decide) rfl rfl ?_
|refine RunsT.pur (fun _=>Yk (n:=d.length) (sz:=1) rfl rfl rfl rfl (by rw[Oh,hce]) (by omega) (by omega)) (by decide) rfl rfl ?_
|refine RunsT.pur (fun _=>Yn rfl rfl hzz) (by decide) rfl rfl ?_
|refine RunsT.pur (fun _=>Yk (n:=(cdC 0 (cdT d d.length)).length) (sz:=3) rfl rfl rfl rfl (M8 _) (by omega) (by rw[Ho];omega)) (by decide) rfl rfl ?_
|refine RunsT.pur (fun _=>Zq rfl rfl (by omega)) (by decide) rfl rfl ?_
|refine Zbg Zk hn rfl ?_
|refine Zbh ?_
|refine Za 30 rfl ?_
|(refine Zc hn rfl rfl rfl ?_;first
|refine⟨_,Zi hr rfl,?_⟩
|refine⟨_,Yk (n:=d.length) (sz:=1) rfl rfl rfl rfl (by rw[Oh,hce]) (by omega) (by omega),?_⟩
|refine⟨_,Yn rfl rfl hzz,?_⟩
|refine⟨_,Yk (n:=(cdC 0 (cdT d d.length)).length) (sz:=3) rfl rfl rfl rfl (M8 _) (by omega) (by rw[Ho];omega),?_⟩)
|(refine Zbf 30 rfl ?_;first|refine Zg rfl ?_|refine Zm rfl ?_|(refine Zd rfl ?_ ?_;·first|omega|rfl|assumption|(simp only[lmT];omega))|(refine Ze rfl ?_ ?_;·first|omega|rfl|assumption|(simp only[lmT];omega))|refine Zbe (Zj hm rfl rfl ?_)|exact Zbe (Zf hm rfl rfl rfl (nbT rfl) rfl rfl))
|refine Zs rfl (tl hn rfl) ?_
|refine Z5 rfl rfl rfl rfl (nbT rfl) ?_
|refine Zx (tl hn rfl) ?_
|refine Zr rfl rfl rfl rfl (nbT rfl) ?_
|(refine Zc hn rfl rfl rfl ?_;first
|refine⟨_,Zq rfl rfl (by omega),?_⟩
|refine⟨_,Zw rfl rfl rfl rfl rfl rfl,?_⟩))
   exact Zbf 30 rfl (Zbe (ends1 hm rfl (.agg [.own 2,.own 4]) ⟨1,0,_,rfl,rfl,.inr ⟨2,inferInstance,nbT rfl,rfl⟩⟩ (.agg [.row 51 3 ((cdC z (cdT d d.length)).flatMap Ul),.row 3 1 ((cdE d d.length).map RV.int)]) [2,4] ⟨_,rfl,_,_,[2],[4],rfl,rfl,⟨2,rfl,rfl,rfl⟩,_,_,[4],[],rfl,rfl,⟨4,rfl,rfl,rfl⟩,rfl,rfl⟩ (by simp) rfl))
 ·rw[decide_eq_false hG]at hv
  rw[cdF_no hG]
  refine Zz Tryz.func6 rfl _ Tryz.ntmps6 (by simp) fun C hn hm=>?_
  repeat' (first
|refine Zbg Zk hn rfl ?_
|refine Zbh ?_
|refine Za 30 rfl ?_
|(refine Zc hn rfl rfl rfl ?_;first
|refine⟨_,Zi hv rfl,?_⟩
|refine⟨_,Z2 rfl,?_⟩)
|(refine Zbf 30 rfl ?_;first|refine Zg rfl ?_|refine Zm rfl ?_|(refine Zd rfl ?_ ?_;·first|omega|rfl|assumption|(simp only[lmT];omega))|(refine Ze rfl ?_ ?_;·first|omega|rfl|assumption|(simp only[lmT];omega))|refine Zbe (Zj hm rfl rfl ?_)|exact Zbe (Zf hm rfl rfl rfl (nbT rfl) rfl rfl))
|refine Zs rfl (tl hn rfl) ?_
|refine Z5 rfl rfl rfl rfl (nbT rfl) ?_
|refine Zx (tl hn rfl) ?_
|refine Zr rfl rfl rfl rfl (nbT rfl) ?_
|(refine Zc hn rfl rfl rfl ?_;first
|refine⟨_,Zq rfl rfl (by omega),?_⟩
|refine⟨_,Zw rfl rfl rfl rfl rfl rfl,?_⟩))
  refine Zbf 30 rfl ?_
  refine Z4 1 0 (e:=51) (sz:=3) (by decide) rfl rfl ?_
  refine Z4 1 1 (e:=3) (sz:=1) (by decide) rfl rfl ?_
  exact Zbe (ends1 hm rfl (.agg [.own 2,.own 3]) ⟨1,0,_,rfl,rfl,.inr ⟨2,inferInstance,nbT rfl,rfl⟩⟩ (.agg [.row 51 3 [],.row 3 1 []]) [2,3] ⟨_,rfl,_,_,[2],[3],rfl,rfl,⟨2,rfl,rfl,rfl⟩,_,_,[3],[],rfl,rfl,⟨3,rfl,rfl,rfl⟩,rfl,rfl⟩ (by simp) rfl)
theorem Fw(e:TypeId)(l:List Ins):Seals (.row e 3 (l.flatMap Ul)) (Qp l):=B9 e 3 l Ul fun x _=>rfl
set_option maxRecDepth 100000
theorem seals_prg(p:Prg):Seals (.agg [.row 51 3 (p.code.flatMap Ul),.row 3 1 (p.entries.map RV.int)]) (Tm p):=by
 simp only[Seals,Tm]
 exact⟨_,rfl,_,_,rfl,Fw _ _,_,_,rfl,(by
  have h:=Nu 3 (p.entries.map RV.int)
  rw[List.map_map]at h
  exact h),rfl⟩
section
variable{C:Ctx}{env:Env}{σ:List Ob}{t:Nat}{ty:TypeId}{pos:String}{after:Array Edge}{gd:Option (Nat×Bool)}
end
theorem big_ac(b:List UInt8):ACv Tryz.prog 4 [Ya b] (.bool (decide ((1048576:Int)<b.length))):=by
 have hlb:(b.map fun z=>[RV.u8 z]).length=b.length:=lmT ..
 refine Zz Tryz.func4 rfl _ Tryz.ntmps4 (by simp) fun C hn hm=>?_
 repeat' (first
|(refine Zc hn rfl rfl rfl ?_;first
|refine⟨_,Zu b.length rfl hlb,?_⟩)
|refine Zbg Zk hn rfl ?_
|refine Zbh ?_
|refine Za 30 rfl ?_
|(refine Zbf 30 rfl ?_;first|refine Zbe (Zj hm rfl rfl ?_)|exact Zbe (Zf hm rfl rfl rfl (nbT rfl) rfl rfl))
  )
 all_goals exact Z3 rfl
theorem kn_at{d:Des}(hG:U5 d){j:Nat}(hj:j<d.length):Kn d (j:Int):=⟨hG,by
 show HasR d j
 exact⟨by omega,by omega⟩⟩
def fnd(l:List Int)(a:Int):Int:=if a∈l then(l.idxOf a:Int) else -1
theorem S6:∀{l:List Int} {j:Nat} {a:Int},l[j]?=some a→a∉l.take j→l.idxOf a=j
 | [],j,a,h,_=>by simp at h
 |x::l,0,a,h,_=>by simp at h;subst h;simp
 |x::l,j+1,a,h,hn=>by
  simp only[List.getElem?_cons_succ]at h
  simp only[List.take_succ_cons,List.mem_cons,not_or]at hn
  rw[List.idxOf_cons]
  have:(x == a)=false:=by simpa using fun e=>hn.1 e.symm
  rw[this,cond_false,S6 h hn.2]
theorem fnd_yes{l:List Int}{j:Nat}{a:Int}(h:l[j]?=some a)(hn:a∉l.take j):fnd l a=j:=by
 unfold fnd
 rw[if_pos (Zba h),S6 h hn]
theorem fnd_no{l:List Int}{a:Int}(h:a∉l):fnd l a = -1:=if_neg h
theorem fnd_ge(l:List Int)(a:Int):(0≤fnd l a)↔a∈l:=by
 unfold fnd
 split
 ·rename_i h;exact⟨fun _=>h,fun _=>by omega⟩
 ·rename_i h;exact⟨fun h'=>absurd h' (by omega),fun h'=>absurd h' h⟩
theorem place1_ac(p:Prg)(tgt idx blk:Int)(h0:0≤blk)(h1:blk≤9223372036854775806)(hl:p.entries.length≤maxLen) :
  ACv Tryz.prog 108 [.int tgt,.rp [.int idx],.rp [Qp p.code,Xe p.entries],.rp [.int blk]] (.bool (decide (idx<tgt∧tgt<endA p blk))):=by
 have he:=Mk p blk h0 h1 hl
 refine Zz Tryz.func108 rfl _ Tryz.ntmps108 (by simp) fun C hn hm=>?_
 repeat' (first
|refine Zbg Zk hn rfl ?_
|refine Zbh ?_
|refine Za 30 rfl ?_
|(refine Zc hn rfl rfl rfl ?_;first
|refine⟨_,Zi he rfl,?_⟩)
|(refine Zbf 30 rfl ?_;first|refine Zbe (Zj hm rfl rfl ?_)|exact Zbe (Zf hm rfl rfl rfl (nbT rfl) rfl rfl))
|(refine Zh rfl rfl rfl ?_ ?_<;>intro h<;>try(exfalso;first|omega|contradiction)))
 all_goals exact Z3 (by rw[Bool.eq_iff_iff];simp[*])
theorem place2_ac(e:Int)(x:Ins):ACv Tryz.prog 110 [.int e,.rp (Ul x)] (.bool (decide (e=x.a))):=by
 refine Zz Tryz.func110 rfl _ Tryz.ntmps110 (by simp) fun C hn hm=>?_
 repeat' (first
|refine Zbg Zk hn rfl ?_
|refine Zbh ?_
|refine Za 30 rfl ?_
|(refine Zbf 30 rfl ?_;first|refine Zbe (Zj hm rfl rfl ?_)|exact Zbe (Zf hm rfl rfl rfl (nbT rfl) rfl rfl))
  )
 exact Z3 rfl
set_option maxHeartbeats 4000000 in
theorem Oi(l:List Int)(x:Ins)(hl:l.length≤maxLen):ACA Tryz.prog 109 [.ro (Xe l),.fn (.func 110) [] [.ro (.rp (Ul x))]] (fun rr=>rr = .ro (.int (fnd l x.a))):=by
 have hlm:(l.map fun z=>[RV.int z]).length=l.length:=lmT ..
 unfold maxLen at hl
 refine O6 Tryz.func109 rfl _ Tryz.ntmps109 (by simp) fun C hn hm=>?_
 repeat' (first
|refine Zbg Zk hn rfl ?_
|refine Zbh ?_
|refine Za 30 rfl ?_
|(refine Zbf 30 rfl ?_;first|(refine Zd rfl ?_ ?_;·first|omega|rfl|assumption|(simp only[lmT];omega))|(refine Ze rfl ?_ ?_;·first|omega|rfl|assumption|(simp only[lmT];omega))|refine Z1 rfl (fun h=>?_) (fun h=>?_)|refine Zbe (Zj hm rfl rfl ?_)|exact Zbe (Zf hm rfl rfl rfl (nbT rfl) rfl rfl))
|(refine Zc hn rfl rfl rfl ?_;first
|refine⟨_,Zq rfl rfl (by omega),?_⟩
|refine⟨_,Zb rfl rfl (by omega) (by assumption),?_⟩
   ))
 refine Yh 30 rfl (fun j=>[(7,.ro (Xe l)),(8,.int (l.length:Int)),(1,.fn (.func 110) [] [.ro (.rp (Ul x))]),(9,.int (j:Int))]) (fun _=>[]) (fun j=>x.a∉l.take j) l.length 0 (Nat.zero_le _) (by simp) ⟨rfl,by simp[look],rfl,rfl,trivial⟩ rfl fun j hj hQ next=>?_
 by_cases hlt:j<l.length
 ·obtain⟨z,hz⟩:∃z,l[(j:Int).toNat]?=some z:=⟨_,Za6 hlt⟩
  have hz':l[j]?=some z:=hz
  have h2:=place2_ac z x
  repeat' (first
|refine Zbg Zk hn rfl ?_
|refine Zbh ?_
|refine Za 30 rfl ?_
|(refine Zc hn rfl rfl rfl ?_;first
|refine⟨_,Li rfl h2 (.cons .ro (.cons .ro .nil)),?_⟩)
|(refine Zbf 30 rfl ?_;first|(refine Zd rfl ?_ ?_;·first|omega|rfl|assumption|(simp only[lmT];omega))|(refine Ze rfl ?_ ?_;·first|omega|rfl|assumption|(simp only[lmT];omega))|refine Z1 rfl (fun h=>?_) (fun h=>?_)|refine Zbe (Zj hm rfl rfl ?_)|exact Zbe (Zf hm rfl rfl rfl (nbT rfl) rfl rfl))
|(refine Zc hn rfl rfl rfl ?_;first
|refine⟨_,Zq rfl rfl (by omega),?_⟩
|refine⟨_,Zb rfl rfl (by omega) (by assumption),?_⟩
    ))
  ·exact Xu (fnd_yes (by rw[hz',h]) hQ).symm
  ·refine next _ _ ⟨rfl,rfl,rfl,rfl,trivial⟩ hlt ?_ rfl
   rw[List.take_succ_eq_append_getElem hlt,List.mem_append]
   rintro(hm'|hm')
   ·exact hQ hm'
   ·rw[Za6 hlt]at hz';injection hz' with hz'
    simp only[List.mem_singleton]at hm'
    exact h (by rw[hm',hz'])
 ·repeat' (first
|refine Zbg Zk hn rfl ?_
|refine Zbh ?_
|refine Za 30 rfl ?_
|(refine Zbf 30 rfl ?_;first|(refine Zd rfl ?_ ?_;·first|omega|rfl|assumption|(simp only[lmT];omega))|(refine Ze rfl ?_ ?_;·first|omega|rfl|assumption|(simp only[lmT];omega))|refine Z1 rfl (fun h=>?_) (fun h=>?_)|refine Zbe (Zj hm rfl rfl ?_)|exact Zbe (Zf hm rfl rfl rfl (nbT rfl) rfl rfl))
|(refine Zc hn rfl rfl rfl ?_;first
|refine⟨_,Zq rfl rfl (by omega),?_⟩
|refine⟨_,Zb rfl rfl (by omega) (by assumption),?_⟩
   ))
  rw[show j=l.length by omega,List.take_length]at hQ
  exact Xu (fnd_no hQ).symm
def Uy(p:Prg)(b:Nat)(k:Int)(x:Ins):Prop:=
 x.op≠17∧(x.op=9→x.a∈p.entries.take b)∧(x.op=7→Jh p k∧k<x.a∧x.a<endA p b)∧(x.op=8→Jh p (k-2))∧(x.op=6→Jh p (k+1)) ∧
 (x.op=13→k<x.a∧x.a<endA p b)∧(x.op=11→k<x.b∧x.b<endA p b)∧(x.op=14→Gf p k)∧(x.op=15→Gf p (k-2))
noncomputable instance (p:Prg) (b:Nat) (k:Int) (x:Ins):Decidable (Uy p b k x):=Classical.propDecidable _
set_option maxHeartbeats 16000000 in
theorem Ie(p:Prg)(b:Nat)(k:Int)(x:Ins)(hb:b<p.entries.length)(hk:0≤k∧k≤1000)(hx:p.code[k.toNat]?=some x)(hl:p.entries.length≤maxLen) :
  ACv Tryz.prog 80 [Tm p,.int (b:Int),.int k] (.bool (decide (Uy p b k x))):=by
 have hlm:(p.entries.map fun z=>[RV.int z]).length=p.entries.length:=lmT ..
 have hl':=hl
 unfold maxLen at hl'
 have p1:=fun tgt=>place1_ac p tgt k b (by omega) (by omega) hl
 have hf:=Oi (p.entries.take b) x (by rw[List.length_take];unfold maxLen;omega)
 have hge:=fnd_ge (p.entries.take b) x.a
 have l1:=L6 p k ⟨by omega,by omega⟩
 have l2:=L6 p (k-2) ⟨by omega,by omega⟩
 have l3:=L6 p (k+1) ⟨by omega,by omega⟩
 have m1:=E1 p k ⟨by omega,by omega⟩
 have m2:=E1 p (k-2) ⟨by omega,by omega⟩
 refine Zz Tryz.func80 rfl _ Tryz.ntmps80 (by simp) fun C hn hm=>?_
 by_cases k17:x.op=17
 ·repeat' (first
|refine Zbg Zk hn rfl ?_
|refine Zbh ?_
|refine Za 30 rfl ?_
|(refine Zc hn rfl rfl rfl ?_;first
|refine⟨_,Xw,?_⟩)
|(refine Zbf 30 rfl ?_;first|(refine Zd rfl ?_ ?_;·first|omega|rfl|assumption|(simp only[lmT];omega))|(refine Ze rfl ?_ ?_;·first|omega|rfl|assumption|(simp only[lmT];omega))|refine Zbe (Zj hm rfl rfl ?_)|exact Zbe (Zf hm rfl rfl rfl (nbT rfl) rfl rfl))
|refine Zs rfl (tl hn rfl) ?_
|refine Zx (tl hn rfl) ?_
|refine Zr rfl rfl rfl rfl (nbT rfl) ?_
|(refine Zc hn rfl rfl rfl ?_;first
|refine⟨_,Zq rfl rfl (by omega),?_⟩
|refine⟨_,Zb rfl rfl (by omega) (by assumption),?_⟩
|refine⟨_,Z7 rfl rfl (by omega),?_⟩
   )
|(refine Zh rfl rfl rfl ?_ ?_<;>intro h<;>try(exfalso;first|omega|contradiction|(simp only[lmT]at h;omega))))
  all_goals exact Z3 (by rw[Bool.eq_iff_iff];simp[Uy, *])
 by_cases k9:x.op=9
 ·repeat' (first
|refine Zbg Zk hn rfl ?_
|refine Zbh ?_
|refine Za 30 rfl ?_
|(refine Zc hn rfl rfl rfl ?_;first
|refine⟨_,Xw,?_⟩
|refine⟨_,Xv rfl rfl (by omega) (by omega),?_⟩
|refine⟨_,Sp hf (.cons (Nm Lends.ro) (.cons (LendsA.fn .nil (.cons (Nm (Lends.obj rfl (.cons .ro (.cons .ro (.cons .ro .nil))))) .nil)) .nil)),?_⟩)
|(refine Zbf 30 rfl ?_;first|(refine Zd rfl ?_ ?_;·first|omega|rfl|assumption|(simp only[lmT];omega))|(refine Ze rfl ?_ ?_;·first|omega|rfl|assumption|(simp only[lmT];omega))|refine Zbe (Zj hm rfl rfl ?_)|exact Zbe (Zf hm rfl rfl rfl (nbT rfl) rfl rfl))
|refine Zs rfl (tl hn rfl) ?_
|refine Zx (tl hn rfl) ?_
|refine Zr rfl rfl rfl rfl (nbT rfl) ?_
|(refine Zc hn rfl rfl rfl ?_;first
|refine⟨_,Zq rfl rfl (by omega),?_⟩
|refine⟨_,Zb rfl rfl (by omega) (by assumption),?_⟩
|refine⟨_,Z7 rfl rfl (by omega),?_⟩
   )
|(refine Zh rfl rfl rfl ?_ ?_<;>intro h<;>try(exfalso;first|omega|contradiction|(simp only[lmT]at h;omega))))
  all_goals exact Z3 (by rw[Bool.eq_iff_iff];simp[Uy, *])
 by_cases k7:x.op=7
 ·repeat' (first
|refine Zbg Zk hn rfl ?_
|refine Zbh ?_
|refine Za 30 rfl ?_
|(refine Zc hn rfl rfl rfl ?_;first
|refine⟨_,Xw,?_⟩
|refine⟨_,Zi l1 rfl,?_⟩
|refine⟨_,Li rfl (p1 _) (.cons .ro (.cons (Lends.obj rfl (.cons .ro .nil)) (.cons (Lends.obj rfl (.cons .ro (.cons .ro .nil))) (.cons (Lends.obj rfl (.cons .ro .nil)) .nil)))),?_⟩)
|(refine Zbf 30 rfl ?_;first|(refine Zd rfl ?_ ?_;·first|omega|rfl|assumption|(simp only[lmT];omega))|(refine Ze rfl ?_ ?_;·first|omega|rfl|assumption|(simp only[lmT];omega))|refine Zbe (Zj hm rfl rfl ?_)|exact Zbe (Zf hm rfl rfl rfl (nbT rfl) rfl rfl))
|refine Zs rfl (tl hn rfl) ?_
|refine Zx (tl hn rfl) ?_
|refine Zr rfl rfl rfl rfl (nbT rfl) ?_
|(refine Zc hn rfl rfl rfl ?_;first
|refine⟨_,Zq rfl rfl (by omega),?_⟩
|refine⟨_,Zb rfl rfl (by omega) (by assumption),?_⟩
|refine⟨_,Z7 rfl rfl (by omega),?_⟩
   )
|(refine Zh rfl rfl rfl ?_ ?_<;>intro h<;>try(exfalso;first|omega|contradiction|(simp only[lmT]at h;omega))))
  all_goals exact Z3 (by rw[Bool.eq_iff_iff];simp[Uy, *])
 by_cases k8:x.op=8
 ·repeat' (first
|refine Zbg Zk hn rfl ?_
|refine Zbh ?_
|refine Za 30 rfl ?_
|(refine Zc hn rfl rfl rfl ?_;first
|refine⟨_,Xw,?_⟩
|refine⟨_,Zi l2 rfl,?_⟩)
|(refine Zbf 30 rfl ?_;first|(refine Zd rfl ?_ ?_;·first|omega|rfl|assumption|(simp only[lmT];omega))|(refine Ze rfl ?_ ?_;·first|omega|rfl|assumption|(simp only[lmT];omega))|refine Zbe (Zj hm rfl rfl ?_)|exact Zbe (Zf hm rfl rfl rfl (nbT rfl) rfl rfl))
|refine Zs rfl (tl hn rfl) ?_
|refine Zx (tl hn rfl) ?_
|refine Zr rfl rfl rfl rfl (nbT rfl) ?_
|(refine Zc hn rfl rfl rfl ?_;first
|refine⟨_,Zq rfl rfl (by omega),?_⟩
|refine⟨_,Zb rfl rfl (by omega) (by assumption),?_⟩
|refine⟨_,Z7 rfl rfl (by omega),?_⟩
   )
|(refine Zh rfl rfl rfl ?_ ?_<;>intro h<;>try(exfalso;first|omega|contradiction|(simp only[lmT]at h;omega))))
  all_goals exact Z3 (by rw[Bool.eq_iff_iff];simp[Uy, *])
 by_cases k6:x.op=6
 ·repeat' (first
|refine Zbg Zk hn rfl ?_
|refine Zbh ?_
|refine Za 30 rfl ?_
|(refine Zc hn rfl rfl rfl ?_;first
|refine⟨_,Xw,?_⟩
|refine⟨_,Zi l3 rfl,?_⟩)
|(refine Zbf 30 rfl ?_;first|(refine Zd rfl ?_ ?_;·first|omega|rfl|assumption|(simp only[lmT];omega))|(refine Ze rfl ?_ ?_;·first|omega|rfl|assumption|(simp only[lmT];omega))|refine Zbe (Zj hm rfl rfl ?_)|exact Zbe (Zf hm rfl rfl rfl (nbT rfl) rfl rfl))
|refine Zs rfl (tl hn rfl) ?_
|refine Zx (tl hn rfl) ?_
|refine Zr rfl rfl rfl rfl (nbT rfl) ?_
|(refine Zc hn rfl rfl rfl ?_;first
|refine⟨_,Zq rfl rfl (by omega),?_⟩
|refine⟨_,Zb rfl rfl (by omega) (by assumption),?_⟩
|refine⟨_,Z7 rfl rfl (by omega),?_⟩
   )
|(refine Zh rfl rfl rfl ?_ ?_<;>intro h<;>try(exfalso;first|omega|contradiction|(simp only[lmT]at h;omega))))
  all_goals exact Z3 (by rw[Bool.eq_iff_iff];simp[Uy, *])
 by_cases k13:x.op=13
 ·repeat' (first
|refine Zbg Zk hn rfl ?_
|refine Zbh ?_
|refine Za 30 rfl ?_
|(refine Zc hn rfl rfl rfl ?_;first
|refine⟨_,Xw,?_⟩
|refine⟨_,Li rfl (p1 _) (.cons .ro (.cons (Lends.obj rfl (.cons .ro .nil)) (.cons (Lends.obj rfl (.cons .ro (.cons .ro .nil))) (.cons (Lends.obj rfl (.cons .ro .nil)) .nil)))),?_⟩)
|(refine Zbf 30 rfl ?_;first|(refine Zd rfl ?_ ?_;·first|omega|rfl|assumption|(simp only[lmT];omega))|(refine Ze rfl ?_ ?_;·first|omega|rfl|assumption|(simp only[lmT];omega))|refine Zbe (Zj hm rfl rfl ?_)|exact Zbe (Zf hm rfl rfl rfl (nbT rfl) rfl rfl))
|refine Zs rfl (tl hn rfl) ?_
|refine Zx (tl hn rfl) ?_
|refine Zr rfl rfl rfl rfl (nbT rfl) ?_
|(refine Zc hn rfl rfl rfl ?_;first
|refine⟨_,Zq rfl rfl (by omega),?_⟩
|refine⟨_,Zb rfl rfl (by omega) (by assumption),?_⟩
|refine⟨_,Z7 rfl rfl (by omega),?_⟩
   )
|(refine Zh rfl rfl rfl ?_ ?_<;>intro h<;>try(exfalso;first|omega|contradiction|(simp only[lmT]at h;omega))))
  all_goals exact Z3 (by rw[Bool.eq_iff_iff];simp[Uy, *])
 by_cases k11:x.op=11
 ·repeat' (first
|refine Zbg Zk hn rfl ?_
|refine Zbh ?_
|refine Za 30 rfl ?_
|(refine Zc hn rfl rfl rfl ?_;first
|refine⟨_,Xw,?_⟩
|refine⟨_,Li rfl (p1 _) (.cons .ro (.cons (Lends.obj rfl (.cons .ro .nil)) (.cons (Lends.obj rfl (.cons .ro (.cons .ro .nil))) (.cons (Lends.obj rfl (.cons .ro .nil)) .nil)))),?_⟩)
|(refine Zbf 30 rfl ?_;first|(refine Zd rfl ?_ ?_;·first|omega|rfl|assumption|(simp only[lmT];omega))|(refine Ze rfl ?_ ?_;·first|omega|rfl|assumption|(simp only[lmT];omega))|refine Zbe (Zj hm rfl rfl ?_)|exact Zbe (Zf hm rfl rfl rfl (nbT rfl) rfl rfl))
|refine Zs rfl (tl hn rfl) ?_
|refine Zx (tl hn rfl) ?_
|refine Zr rfl rfl rfl rfl (nbT rfl) ?_
|(refine Zc hn rfl rfl rfl ?_;first
|refine⟨_,Zq rfl rfl (by omega),?_⟩
|refine⟨_,Zb rfl rfl (by omega) (by assumption),?_⟩
|refine⟨_,Z7 rfl rfl (by omega),?_⟩
   )
|(refine Zh rfl rfl rfl ?_ ?_<;>intro h<;>try(exfalso;first|omega|contradiction|(simp only[lmT]at h;omega))))
  all_goals exact Z3 (by rw[Bool.eq_iff_iff];simp[Uy, *])
 by_cases k14:x.op=14
 ·repeat' (first
|refine Zbg Zk hn rfl ?_
|refine Zbh ?_
|refine Za 30 rfl ?_
|(refine Zc hn rfl rfl rfl ?_;first
|refine⟨_,Xw,?_⟩
|refine⟨_,Zi m1 rfl,?_⟩)
|(refine Zbf 30 rfl ?_;first|(refine Zd rfl ?_ ?_;·first|omega|rfl|assumption|(simp only[lmT];omega))|(refine Ze rfl ?_ ?_;·first|omega|rfl|assumption|(simp only[lmT];omega))|refine Zbe (Zj hm rfl rfl ?_)|exact Zbe (Zf hm rfl rfl rfl (nbT rfl) rfl rfl))
|refine Zs rfl (tl hn rfl) ?_
|refine Zx (tl hn rfl) ?_
|refine Zr rfl rfl rfl rfl (nbT rfl) ?_
|(refine Zc hn rfl rfl rfl ?_;first
|refine⟨_,Zq rfl rfl (by omega),?_⟩
|refine⟨_,Zb rfl rfl (by omega) (by assumption),?_⟩
|refine⟨_,Z7 rfl rfl (by omega),?_⟩
   )
|(refine Zh rfl rfl rfl ?_ ?_<;>intro h<;>try(exfalso;first|omega|contradiction|(simp only[lmT]at h;omega))))
  all_goals exact Z3 (by rw[Bool.eq_iff_iff];simp[Uy, *])
 by_cases k15:x.op=15
 ·repeat' (first
|refine Zbg Zk hn rfl ?_
|refine Zbh ?_
|refine Za 30 rfl ?_
|(refine Zc hn rfl rfl rfl ?_;first
|refine⟨_,Xw,?_⟩
|refine⟨_,Zi m2 rfl,?_⟩)
|(refine Zbf 30 rfl ?_;first|(refine Zd rfl ?_ ?_;·first|omega|rfl|assumption|(simp only[lmT];omega))|(refine Ze rfl ?_ ?_;·first|omega|rfl|assumption|(simp only[lmT];omega))|refine Zbe (Zj hm rfl rfl ?_)|exact Zbe (Zf hm rfl rfl rfl (nbT rfl) rfl rfl))
|refine Zs rfl (tl hn rfl) ?_
|refine Zx (tl hn rfl) ?_
|refine Zr rfl rfl rfl rfl (nbT rfl) ?_
|(refine Zc hn rfl rfl rfl ?_;first
|refine⟨_,Zq rfl rfl (by omega),?_⟩
|refine⟨_,Zb rfl rfl (by omega) (by assumption),?_⟩
|refine⟨_,Z7 rfl rfl (by omega),?_⟩
   )
|(refine Zh rfl rfl rfl ?_ ?_<;>intro h<;>try(exfalso;first|omega|contradiction|(simp only[lmT]at h;omega))))
  all_goals exact Z3 (by rw[Bool.eq_iff_iff];simp[Uy, *])
 ·repeat' (first
|refine Zbg Zk hn rfl ?_
|refine Zbh ?_
|refine Za 30 rfl ?_
|(refine Zc hn rfl rfl rfl ?_;first
|refine⟨_,Xw,?_⟩)
|(refine Zbf 30 rfl ?_;first|(refine Zd rfl ?_ ?_;·first|omega|rfl|assumption|(simp only[lmT];omega))|(refine Ze rfl ?_ ?_;·first|omega|rfl|assumption|(simp only[lmT];omega))|refine Zbe (Zj hm rfl rfl ?_)|exact Zbe (Zf hm rfl rfl rfl (nbT rfl) rfl rfl))
|refine Zs rfl (tl hn rfl) ?_
|refine Zx (tl hn rfl) ?_
|refine Zr rfl rfl rfl rfl (nbT rfl) ?_
|(refine Zc hn rfl rfl rfl ?_;first
|refine⟨_,Zq rfl rfl (by omega),?_⟩
|refine⟨_,Zb rfl rfl (by omega) (by assumption),?_⟩
|refine⟨_,Z7 rfl rfl (by omega),?_⟩
   )
|(refine Zh rfl rfl rfl ?_ ?_<;>intro h<;>try(exfalso;first|omega|contradiction|(simp only[lmT]at h;omega))))
  all_goals exact Z3 (by rw[Bool.eq_iff_iff];simp[Uy, *])
end Go.Proofs.YtnecoghfhcimeaaGreat
