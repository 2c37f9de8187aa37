/- Gathered texts. -/
import Derived.Test.YtnecoghfhcimeaaGreatGat0
import Derived.Test.YtnecoghfhcimeaaGreatGat1
import Derived.Test.YtnecoghfhcimeaaGreatGat2
import Derived.Test.YtnecoghfhcimeaaGreatGat3
import Derived.Test.YtnecoghfhcimeaaGreatGat4
import Derived.Test.YtnecoghfhcimeaaGreatGat5
import Derived.Test.YtnecoghfhcimeaaGreatGat6
/- The machine counts a byte. -/
namespace Go.Proofs.YtnecoghfhcimeaaGreat
set_option linter.unusedSimpArgs false
set_option linter.unusedVariables false
set_option linter.unusedSectionVars false
open Go.RowKit
open AV (Mem Wn)
set_option maxRecDepth 100000
def cntF(b z:Int):Int:=(w64 (z+b)).tmod 256
def Pf(b:Int)(s:List Int)(j:Nat):List Int:=(s.take j).map (cntF b)++s.drop j
theorem Fh(b:Int)(s:List Int)(j:Nat):(Pf b s j).length=s.length:=by
 unfold Pf
 rw[Za7,lmT,List.length_take,List.length_drop]
 omega
theorem cntS_at{b:Int}{s:List Int}{j:Nat}{z:Int}(h:s[j]?=some z):(Pf b s j)[j]?=some z:=by
 have hj:=(Za5.1 h).1
 unfold Pf
 rw[Zbd (by rw[lmT,List.length_take];omega),lmT,List.length_take,List.getElem?_drop]
 rw[show j+(j-min j s.length)=j by omega,h]
theorem cntS_next{b:Int}{s:List Int}{j:Nat}{z:Int}(h:s[j]?=some z):(Pf b s j).set j (cntF b z)=Pf b s (j+1):=by
 have hj:=(Za5.1 h).1
 have hlen:((s.take j).map (cntF b)).length=j:=by rw[lmT,List.length_take];omega
 have hd:s.drop j=z::s.drop (j+1):=by
  rw[List.drop_eq_getElem_cons hj]
  have:=(Za5.1 h).2
  rw[this]
 unfold Pf
 rw[List.set_append_right _ _ (by omega),hlen,Nat.sub_self,hd,List.set_cons_zero,List.take_add_one,h,List.map_append,List.append_assoc]
 rfl
set_option maxHeartbeats 4000000 in
theorem Ff(m:Mch)(b:Int)(hm:Uu m):AM Tryz.prog 83 (mO m) [0] [.obj 0 0,.int b] (mO (Yi m b)) (.tup []):=by
 refine Yz Tryz.func83 rfl _ Tryz.ntmps83 (by simp) (by simp) fun C gs hn=>?_
 have hb:=hm.2
 have hl:((m.sums.map RV.int).map AV.ro).length=m.sums.length*1:=by simp
 repeat' (first
|refine Zbg Zk hn rfl ?_
|refine Zbh ?_
|refine Za 30 rfl ?_
|(refine Zc hn rfl rfl rfl ?_;first
|refine⟨_,Z9 rfl,?_⟩
|refine⟨_,Yo (n:=m.sums.length) rfl rfl hl,?_⟩)
|(refine Zbf 30 rfl ?_;first|(refine Zd rfl ?_ ?_;·first|omega|rfl|assumption|(simp only[lmT];omega))|(refine Ze rfl ?_ ?_;·first|omega|rfl|assumption|(simp only[lmT];omega)))
|refine Z5 rfl rfl rfl rfl (nbT rfl) ?_
|(refine Zc hn rfl rfl rfl ?_;first
|refine⟨_,Zq rfl rfl (by omega),?_⟩))
 refine Yh 30 rfl (fun j=>[(0,.pin 0 0 (gs 0)),(1,.int b),(9,.int (m.sums.length:Int)),(10,.int (j:Int))]) (fun j=>mO {m with sums:=Pf b m.sums j}) (fun _=>True) m.sums.length 0 (Nat.zero_le _) trivial ⟨rfl,rfl,rfl,rfl,trivial⟩ (by rw[show Pf b m.sums 0=m.sums by simp[Pf]]) fun j hj _ next=>?_
 have hcl:(((Pf b m.sums j).map RV.int).map AV.ro).length=m.sums.length*1:=by simp[Fh]
 by_cases hlt:j<m.sums.length
 ·obtain⟨z,hz⟩:∃z,m.sums[j]?=some z:=⟨_,Za6 hlt⟩
  have hc:=cntS_at (b:=b) hz
  have hc':(((Pf b m.sums j).map RV.int).map AV.ro)[(j:Int).toNat*1]?=some (.ro (.int z)):=by simp[hc]
  repeat' (first
|refine Y3 (id:=3) 30 [] [0,1,2,3,4,5,6,7,8,9,10,11,12,13,14,15] 16 [] Yc hn rfl (by kernel_rfl) rfl .nil (by decide) (by decide) (by decide) ?_
|refine Z5 rfl rfl rfl rfl (by simp[Fh];omega) ?_
|refine RunsT.nil ?_
|refine RunsT.step Zk rfl rfl (fun _=>rfl) (by decide) ?_
|refine RunsT.pur (fun _=>Z9 rfl) (by decide) rfl rfl ?_
|refine RunsT.pur (fun _=>Yk (n:=m.sums.length) (sz:=1) rfl rfl rfl rfl hcl (by omega) (by omega)) (by decide) rfl rfl ?_
|refine RunsT.pur (fun _=>Yn rfl rfl hc') (by decide) rfl rfl ?_
|refine RunsT.pur (fun _=>Iq rfl rfl) (by decide) rfl rfl ?_
|refine RunsT.pur (fun _=>We (t:=26) rfl rfl) (by decide) rfl rfl ?_
|refine RunsT.pur (fun _=>Zq rfl rfl (by omega)) (by decide) rfl rfl ?_
|refine Zbg Zk hn rfl ?_
|refine Zbh ?_
|refine Za 30 rfl ?_
|(refine Zc hn rfl rfl rfl ?_;first
|refine⟨_,Z9 rfl,?_⟩
|refine⟨_,Yk (n:=m.sums.length) (sz:=1) rfl rfl rfl rfl hcl (by omega) (by omega),?_⟩
|refine⟨_,Yn rfl rfl hc',?_⟩
|refine⟨_,Iq rfl rfl,?_⟩
|refine⟨_,We (t:=26) rfl rfl,?_⟩)
|(refine Zbf 30 rfl ?_;first|(refine Zd rfl ?_ ?_;·first|omega|rfl|assumption|(simp only[lmT];omega))|(refine Ze rfl ?_ ?_;·first|omega|rfl|assumption|(simp only[lmT];omega)))
|refine Z5 rfl rfl rfl rfl (nbT rfl) ?_
|(refine Zc hn rfl rfl rfl ?_;first
|refine⟨_,Zq rfl rfl (by omega),?_⟩))
  refine next _ _ ⟨rfl,rfl,rfl,rfl,trivial⟩ hlt trivial ?_
  rw[←cntS_next hz]
  unfold mO
  simp only[]
  rw[List.map_set,List.map_set,show(((Pf b m.sums j).map RV.int).map AV.ro).set j (AV.ro (RV.int (cntF b z)))=(((Pf b m.sums j).map RV.int).map AV.ro).set ((j:Int).toNat*1) (AV.ro (RV.int (cntF b z))) from by rw[show(j:Int).toNat*1=j by simp]]
  rfl
 ·obtain rfl:j=m.sums.length:=by omega
  repeat' (first
|refine Zbg Zk hn rfl ?_
|refine Zbh ?_
|refine Za 30 rfl ?_
|(refine Zc hn rfl rfl rfl ?_;first
|refine⟨_,Z9 rfl,?_⟩
|refine⟨_,We rfl rfl,?_⟩
|refine⟨_,Pv rfl rfl,?_⟩)
|(refine Zbf 30 rfl ?_;first|(refine Zd rfl ?_ ?_;·first|omega|rfl|assumption|(simp only[lmT];omega))|(refine Ze rfl ?_ ?_;·first|omega|rfl|assumption|(simp only[lmT];omega)))
|refine Z5 rfl rfl rfl rfl (nbT rfl) ?_
|(refine Zc hn rfl rfl rfl ?_;first
|refine⟨_,Zq rfl rfl (by omega),?_⟩))
  refine Zbf 30 rfl ?_
  refine Wx (t:=0) (more:=[]) rfl ?_ rfl
  rw[show Yi m b={m with sums:=Pf b m.sums m.sums.length,read:=w64 (m.read+1),left:=w64 (m.left-1)} from by simp[Yi,Pf,cntF]]
  rfl
theorem avs_app{m:Mem}:∀(xs:List AV) (us:List Value) {ys:List AV} {vs:List Value},AV.rels m xs us→AV.rels m ys vs→AV.rels m (xs++ys) (us++vs)
 | [],us,ys,vs,h,h'=>by
  simp only[AV.rels]at h
  subst h
  exact h'
 |x::xs,us,ys,vs,h,h'=>by
  simp only[AV.rels]at h
  obtain⟨u,us',rfl,h1,h2⟩:=h
  simp only[List.cons_append,AV.rels]
  exact⟨u,us'++vs,rfl,h1,avs_app xs us' h2 h'⟩
section
variable{P:Program}{C:Ctx}{ops:Array Oper}{rest:List Oper}{k:List Item}{R:Act→World→Prop}{env:Env}{σ:List Ob}{t:Nat}{ty:TypeId}{pos:String}{after:Array Edge}
theorem op_callMC{f:FuncId}{fn:Func}{x:Operand}{xs:Array Operand}{ats:Array TypeId}{σ0 σ1:List Ob}{st:List Nat}{args cap:List AV}{v:AV}{d:Option Nat}[hfn:FN P f fn](ι:List Nat)(hx:ev env x = .fn (.func f) [] cap)(hf:AM P f σ0 st args σ1 v)
  (ha:(xs.toList.map (ev env)++cap).map unpin=Yx (rof ι) args) (hcl:AV.onlys (fun i=>i<σ0.length) args) (hL:Lent ι st σ σ0 σ1) (ht:∀t,d=some t→t<C.n)
  (hk:RunsL P C ops rest k R ⟨Mz d (v.ren (rof ι)) (Ly (Wt ι) (Fv ι st) env),Wu ι σ σ1 0⟩) :
  RunsL P C ops (⟨d,.call {callee:=.value x,args:=xs,argTypes:=ats},ty,pos,after,none⟩::rest) k R ⟨env,σ⟩:=by
 refine⟨fun a w ⟨s1,s2,φ,hG,hH⟩=>?_⟩
 refine wpList_plain rfl fun K hK'=>?_
 have h0:=Xy hH x
 rw[hx]at h0
 simp only[AV.rel,AV.rels]at h0
 obtain⟨us,vs,e,hu,hv0⟩:=h0
 have hu':us=#[]:=by cases us;simp_all
 subst hu'
 have hr:=Le _ _ (avs_app _ _ (X4 (a:=a) (m:=⟨w,φ,σ,C.ok⟩) xs.toList fun x hx=>Xy hH x) hv0)
 rw[ha]at hr
 obtain⟨hG0,hun⟩:=Dm hL hG rfl
 have key:∀(vs:List AV) (us:List Value),AV.onlys (fun i=>i<σ0.length) vs→AV.rels ⟨w,φ,σ,C.ok⟩ (Yx (rof ι) vs) us→AV.rels ⟨w,fun j=>φ (rof ι j),σ0,fun b=>C.ok b∧∀i,i<σ.length→Wt ι i=false→φ i≠some b⟩ vs us:=by
  intro vs
  induction vs with
  |nil=>intro us _ h;simpa [Yx,AV.rels] using h
  |cons x xs ih=>
   intro us ho h
   simp only[Yx,AV.rels,AV.onlys]at h ho ⊢
   obtain⟨u,us',e,h1,h2⟩:=h
   exact⟨u,us',e,hun x u ho.1 h1,ih us' ho.2 h2⟩
 unfold Oper.wp execOp
 simp only[resolve,e,Deferred.ofValue,Sem.run_bind,Sem.run_pure,Result.andThen_ok,invoke]
 rw[Wq hfn]
 simp only[Oper.upon]
 refine(hf w _ _ _ hG0 (by simpa using key args _ hcl hr)).mono ?_
 rintro e w' ⟨u,φ1,rfl,hG1,hv,hst⟩
 obtain⟨φ',g1,g2,g3⟩:=Dl hL hG rfl hG1 hst
 cases d with
 |none=>exact hK' _ _ (hk.run _ _ ⟨s1,s2,φ',g1,fun s=>by rw[show look (⟨Mz none _ _,_⟩:St).env s=_ from Ve _ _ _ _];exact g2 _ _ (hH s)⟩)
 |some t=>exact hK' _ _ (hk.run _ _ ⟨s1,by simp[Act.put,s2],φ',g1,Holds.put (fun s=>by rw[Ve];exact g2 _ _ (hH s)) (by rw[s2];exact ht t rfl) (g3 _ _ hv)⟩)
theorem M3{f:FuncId}{fn:Func}{x:Operand}{xs:Array Operand}{ats:Array TypeId}{σ0 σ1 more:List Ob}{st:List Nat}{args cap:List AV}{v:AV}{d:Option Nat}[hfn:FN P f fn](n:Nat)(hx:ev env x = .fn (.func f) [] cap)(hf:AM P f σ0 st args σ1 v)
  (ha:(xs.toList.map (ev env)++cap).map unpin=args) (hcl:AV.onlys (fun i=>i<n) args) (hv:v.only fun i=>i<n) (hσ:σ=σ0++more) (hn0:Nat.beq σ0.length n=true) (hn1:Nat.beq σ1.length n=true) (h0:FreeO n σ0) (h1:FreeO n σ1) (hst:(st.all fun j=>Nat.ble (j+1) n)=true) (hfree:FreeP n st more) (ht:∀t,d=some t→t<C.n)
  (hk:RunsL P C ops rest k R ⟨Mz d v (Ly (ltB n) (memB st) env),σ1++more⟩) :
  RunsL P C ops (⟨d,.call {callee:=.value x,args:=xs,argTypes:=ats},ty,pos,after,none⟩::rest) k R ⟨env,σ⟩:=by
 subst hσ
 obtain⟨hL,hp⟩:=Ax hn0 hn1 h0 h1 hst hfree
 have hr:∀i,i<n→rof (List.range n) i=i:=fun i hi=>Qd hi
 have e0:σ0.length=n:=Nat.eq_of_beq_eq_true hn0
 refine op_callMC (List.range n) hx hf (by rw[ha,Jo hr args hcl]) (by rw[e0];exact hcl) hL ht ?_
 rw[hp,Mc,Ew hst,ren_id hr v hv]
 exact hk
theorem Xc{o:Oper}{v:AV}{s i off g:Nat}(hs:look env s = .pin i off g)(h:Pur P C o ((s,.obj i off)::env) σ v):Pur P C o env σ v:=
 ⟨fun a m hG hσ hH K Q hK=>h.run a m hG hσ (fun x hx=>by
  have h0:=hH x hx
  cases x with
  |tmp s'=>
   show AV.rel m (look ((s,.obj i off)::env) s') _
   rw[Yy]
   split
   ·rename_i e
    subst e
    have h1:AV.rel m (look env s) (a.eval (.tmp s)):=h0
    rw[hs]at h1
    exact Jk (v:=.pin i off g) h1
   ·exact h0
  |const c=>exact h0
  |global c=>exact h0
  |func c=>exact h0) K Q hK⟩
theorem Zaq{w:World}{xt:TypeId}{f:Fn}{us vs:Array Value}{ps rs:_}{vr:_}(d:Nat)(hu:P.underlying xt=some (.func ps rs vr)):(Op.equalIn (d+1) xt (.func f us vs) .nilFunc).run P w = .ok false w:=by
 simp[Op.equalIn,run_underlying hu]
theorem pu_neqNil{gd:Option (Nat×Bool)}{xt yt:TypeId}{x y:Operand}{f:Fn}{a b:List AV}{ps rs:_}{vr:_}(hu:P.underlying xt=some (.func ps rs vr))(hx:ev env x = .fn f a b)(hy:ev env y = .ro (.c .nilFunc)):Pur P C ⟨some t,.binOp .neq xt x y yt,ty,pos,after,gd⟩ env σ (.bool true):=
 Xm (fun ac m hG hσ hH=>by
  have h:=hH x (by simp[Op.operands,Call.operands])
  rw[hx]at h
  simp only[AV.rel]at h
  obtain⟨us,vs,e,_,_⟩:=h
  have h':=hH y (by simp[Op.operands,Call.operands])
  rw[hy]at h'
  simp only[AV.rel,RV.rel]at h'
  refine⟨.bool true,?_,by simp[AV.rel,RV.rel]⟩
  simp only[execOp,e,h']
  simp[go_sem,binOp,Op.equal]
  rw[show Op.maxDepth=9999+1 from rfl,Zaq _ hu]
  rfl)
theorem Rj{w:World}{xt:TypeId}{ps rs:_}{vr:_}(d:Nat)(hu:P.underlying xt=some (.func ps rs vr)):(Op.equalIn (d+1) xt .nilFunc .nilFunc).run P w = .ok true w:=by
 simp[Op.equalIn,run_underlying hu]
theorem So{gd:Option (Nat×Bool)}{xt yt:TypeId}{x y:Operand}{ps rs:_}{vr:_}(hu:P.underlying xt=some (.func ps rs vr))(hx:ev env x = .ro (.c .nilFunc))(hy:ev env y = .ro (.c .nilFunc)):Pur P C ⟨some t,.binOp .neq xt x y yt,ty,pos,after,gd⟩ env σ (.bool false):=
 Xm (fun ac m hG hσ hH=>by
  have h:=hH x (by simp[Op.operands,Call.operands])
  rw[hx]at h
  have h':=hH y (by simp[Op.operands,Call.operands])
  rw[hy]at h'
  simp only[AV.rel,RV.rel]at h h'
  refine⟨.bool false,?_,by simp[AV.rel,RV.rel]⟩
  simp only[execOp,h,h']
  simp[go_sem,binOp,Op.equal]
  rw[show Op.maxDepth=9999+1 from rfl,Rj _ hu]
  rfl)
end
theorem Ni{P:Program}{f:FuncId}{fn:Func}{c:Code}{σ σ':List Ob}{st:List Nat}{args:List AV}{v:AV}(hf:P.funcs[f]?=some fn)(hb:fn.body=some c)(n:Nat)(hn:fn.ntmps=n)(hl:args.length≤n)
  (g j k off:Nat) {o:Ob} (ho:σ[j]?=some o) (hk:o.cs[k]?=some (.pin 0 off g)) (hst:∀i∈st,i=0∨∃off,AV.obj i off∈args)
  (h:∀(C:Ctx) (gs:Nat→Nat),C.n=n→gs 0=g→Runs P C [.code c] (Pc P C fn gs st σ' v) ⟨Uh 0 (args.map (pinA gs)),σ⟩):AM P f σ st args σ' v:=by
 intro w φ ok us hG hu
 have hlen:=AV.rels_len args _ hu
 have h0:φ 0=some g:=by
  have hob:=hG.ob j o ho
  simp only at hob
  cases hφ:φ j with
  |none=>
   rw[hφ]at hob
   simp only[ObRel]at hob
   rw[hob]at hk
   simp at hk
  |some b=>
   rw[hφ]at hob
   obtain⟨us',q1,q2,q3⟩:=hob
   obtain⟨u,e1,e2,e3⟩:=q3 k _ hk
   simp only[AV.rel]at e3
   exact e3.2.1
 refine Wz hf hb ?_
 let gs:Nat→Nat:=fun i=>(φ i).getD 0
 have hs:Sim ⟨w,ok,mine φ σ.length,n⟩ ⟨Uh 0 (args.map (pinA gs)),σ⟩ {tmps:=us++Array.replicate (fn.ntmps-us.size) undef,defers:=[]} w:=by
  refine⟨rfl,by simp at hlen ⊢;omega,φ,S9 hG,fun t=>?_⟩
  rw[L5]
  simp only[Nat.zero_le,if_true,Nat.sub_zero,List.getElem?_map]
  cases hr:args[t]? with
  |none=>simp[AV.rel]
  |some r=>
   obtain⟨u,e1,e2⟩:=AV.rels_at args _ hu t r hr
   have ht:t<us.size:=by have:=(Za5.1 e1).1;simpa using this
   have:(us++Array.replicate (fn.ntmps-us.size) undef).getD t undef=u:=by
    rw[Array.getD_eq_getD_getElem?,Array.getElem?_append_left ht]
    have:us[t]?=some u:=by simpa using e1
    simp[this]
   simp only[Option.map_some,Option.getD_some]
   rw[this]
   cases r<;>simp only[pinA]<;>try exact e2
   case obj i off=>
    simp only[AV.rel]at e2 ⊢
    obtain⟨k1,g,k2,k3⟩:=e2
    have:gs i=g:=by simp only[gs,k2,Option.getD_some]
    rw[this]
    exact⟨k1,k2,k3⟩
 have hr:=(h ⟨w,ok,mine φ σ.length,n⟩ gs rfl (by simp only[gs,h0,Option.getD_some])).run _ w hs
 intro b cs
 obtain⟨a',w',todo,⟨hd,u,hv,φ',h1,h2,h3⟩,hstep⟩:=hr b cs
 refine⟨a',w',todo,⟨hd,u,hv,u,φ',rfl,S9 h1,h2,fun i hi=>?_⟩,hstep⟩
 rcases hst i hi with rfl|⟨off,ho⟩
 ·rw[h3 0 hi]
  simp only[gs,h0,Option.getD_some]
 ·obtain⟨j,hj⟩:=List.mem_iff_getElem?.1 ho
  obtain⟨u',_,e2⟩:=AV.rels_at args _ hu j _ hj
  simp only[AV.rel]at e2
  obtain⟨_,g,k2,_⟩:=e2
  rw[h3 i hi]
  simp only[gs,k2,Option.getD_some]
class TBR (P:Program) (t:TypeId) (zs:outParam (List Value)):Prop where
 h:∃it n e z ie,P.info? t=some it∧P.underlying t=some (.array n e)∧it.zero=some z∧z.cells=zs.toArray∧P.info? e=some ie∧ie.size=1∧∀x∈zs,x.oneCell'=true
def Zao(pl:Nat→Option (Nat×Nat))(env:Env):List AV→List (Nat×Operand)→Option (List AV)
 |cells,[]=>some cells
 |cells,(i,x)::l=>match pl i with
  |some (off,size)=>match cells? (ev env x) with
   |some cs=>match Nat.beq cs.length size,Nat.ble (off+size) cells.length with
    |true,true=>Zao pl env (W8 cells off cs) l
    |_,_=>none
   |none=>none
  |none=>none
theorem Fb{m:Mem}{env:Env}{a:Act}{pl:Nat→Option (Nat×Nat)}:∀(l:List (Nat×Operand)) (vs vs':List AV) (cells:Array Value),(∀p∈l,AV.rel m (ev env p.2) (a.eval p.2))→cells.size=vs.length→(∀(j:Nat) x,vs[j]?=some x→∃y,cells[j]?=some y∧y.oneCell'=true∧AV.rel m x y) →
  Zao pl env vs l=some vs'→∃cells',Instr.fill pl cells (l.map fun p=>(p.1,a.eval p.2))=some cells'∧cells'.size=vs'.length∧∀(j:Nat) x,vs'[j]?=some x→∃y,cells'[j]?=some y∧y.oneCell'=true∧AV.rel m x y
 | [],vs,vs',cells,_,hs,hv,h=>by
  simp only[Zao,Option.some.injEq]at h
  subst h
  exact⟨cells,rfl,hs,hv⟩
 |(i,x)::l,vs,vs',cells,hH,hs,hv,h=>by
  unfold Zao at h
  split at h
  ·rename_i off size hp
   split at h
   ·rename_i cs hc
    split at h
    ·rename_i hb1 hb2
     have e1:=Nat.eq_of_beq_eq_true hb1
     have e2:=nbT hb2
     obtain⟨c1,c2⟩:=Ku (hH (i,x) (by simp)) hc
     obtain⟨k1,k2⟩:=Ns (m:=m) (a.eval x).cells.toList 0 cells off cs vs (by simpa using c1) (fun j y hj=>by simpa using c2 j y hj) (by omega) hs hv
     rw[Nat.add_zero]at k2
     obtain⟨cells',q1,q2⟩:=Fb l _ vs' _ (fun p hp=>hH p (by simp[hp])) (by rw[Nt];exact k1) k2 h
     refine⟨cells',?_,q2⟩
     simp only[List.map_cons,Instr.fill]
     rw[hp]
     simp only
     have c1':(a.eval x).cells.size=cs.length:=c1
     rw[if_neg (by rw[c1'];simp;omega),←q1]
     congr 1
     rw[←Array.foldl_toList,Array.toList_zipIdx]
    ·cases h
   ·cases h
  ·cases h
def oneP(i:Nat):Option (Nat×Nat):=some (i*1,1)
section
variable{P:Program}{C:Ctx}{env:Env}{σ:List Ob}{t:Nat}{ty:TypeId}{pos:String}{after:Array Edge}{gd:Option (Nat×Bool)}
theorem pu_buildR{tt:TypeId}{parts:Array (Nat×Operand)}{zs:List Value}{vs:List AV}[hb:TBR P tt zs](h:Zao oneP env (zs.map fun v=>.ro (.c v)) parts.toList=some vs) :
  Pur P C ⟨some t,.build tt parts,ty,pos,after,gd⟩ env σ (aggOf vs):=
 Xm (fun a m hG hσ hH=>by
  obtain⟨it,n,e,z,ie,h1,h2,h3,h4,h5,h7,h6⟩:=hb.h
  obtain⟨cells',q1,q2,q3⟩:=Fb (m:=m) (a:=a) parts.toList _ vs zs.toArray (fun p hp=>hH p.2 (by simp[Op.operands];exact⟨p.1,by simpa using hp⟩)) (by simp) (fun j x hj=>by
   rw[List.getElem?_map,Option.map_eq_some_iff]at hj
   obtain⟨y,hy,rfl⟩:=hj
   exact⟨y,by simpa using hy,h6 y (Zba hy),by simp[AV.rel,RV.rel]⟩) h
  have hbt:P.built tt (parts.map fun p=>(p.1,a.eval p.2)).toList=some cells':=by
   unfold Program.built
   simp only[h1,h2,h3,h5,h4,h7]
   rw[Array.toList_map]
   exact q1
  refine⟨.agg cells',by simp only[execOp];exact by simp[run_build m.w tt _ _ hbt],?_⟩
  have hrel:AV.rels m vs cells'.toList:=AV.rels_of _ _ (by simpa using q2) fun j r u hj hu=>by
   obtain⟨y,e1,_,e3⟩:=q3 j r hj
   have:y=u:=by simpa [e1] using hu
   rwa [this]at e3
  unfold aggOf
  split
  ·rename_i rs hrs
   rw[Lt hrs]at hrel
   simp only[AV.rel,RV.rel]
   exact⟨_,rfl,L8 _ _ hrel⟩
  ·simp only[AV.rel]
   exact⟨_,rfl,hrel⟩)
end
set_option maxRecDepth 100000
def tO(g:Nat)(i:Ins)(b:Int):List Ob:=[⟨82,0,[.pin 0 0 g]⟩,⟨51,0,(Ul i).map .ro⟩,⟨3,0,[.int b]⟩]
theorem Jl(m:Mch)(g:Nat)(i:Ins)(b:Int):FreeO 6 (mO m++tO g i b):=by
 simp only[mO,tO,List.cons_append,List.nil_append,FreeO]
 exact⟨by simp[AV.onlys,AV.only],Uj _ _,Uj _ _,by simp[AV.onlys,AV.only],Uj _ _,by simp[AV.onlys,AV.only],trivial⟩
theorem tO_app{m m':Mch}{g:Nat}{i:Ins}{b:Int}(h:m=m'):mO m++tO g i b=mO m'++tO g i b:=by rw[h]
theorem st4{env:Env}{gs:Nat→Nat}{k a b c:Nat}(h0:look env k = .pin 0 0 (gs 0))(h3:look env a = .pin 3 0 (gs 3))(h4:look env b = .pin 4 0 (gs 4))(h5:look env c = .pin 5 0 (gs 5)):∀i∈[0,3,4,5],∃t off,look env t = .pin i off (gs i):=fun i hi=>by
 simp only[List.mem_cons,List.not_mem_nil,or_false]at hi
 rcases hi with rfl|rfl|rfl|rfl
 ·exact⟨k,0,h0⟩
 ·exact⟨a,0,h3⟩
 ·exact⟨b,0,h4⟩
 ·exact⟨c,0,h5⟩
theorem take1_am(g:Nat)(m:Mch)(i:Ins)(b:Int)(hs:i.b=1→0≤i.a-m.left-1∧i.a-m.left-1≤3∧0≤i.a∧i.a≤4)(hb:0≤b∧b≤255):AM Tryz.prog 84 (mO m++tO g i b) [0,3,4,5] [.obj 3 0,.obj 4 0,.obj 5 0] (mO (Ws {m with register:=if i.b=1 then w64 (m.register+b*2 ^ (8*(i.a-m.left-1)).toNat) else w64 (w64 (256*m.register)+b)})++tO g i b) (.tup []):=by
 refine Ni Tryz.func84 rfl _ Tryz.ntmps84 (by simp) g 3 0 0 rfl rfl (by simp) fun C gs hn hg=>?_
 subst hg
 repeat' (first
|refine Yd 3 (Bq m i b hs hb) rfl (by simp[AV.onlys,AV.only]) (by simp[AV.only,AV.onlys]) rfl rfl rfl (Yb _) (Yb _) rfl (by first|exact trivial|exact⟨rfl,trivial⟩|exact⟨rfl,rfl,trivial⟩|exact⟨rfl,rfl,rfl,trivial⟩|exact⟨rfl,rfl,rfl,rfl,trivial⟩) (fun t h=>by injection h with h;subst h;exact tl hn rfl) ?_
|refine Zbh ?_
|refine Za 30 rfl ?_
|(refine Zc hn rfl rfl rfl ?_;first
|refine⟨_,Xc (s:=0) rfl (Yn rfl rfl rfl),?_⟩
|refine⟨_,Xc (s:=0) rfl (Xq rfl rfl rfl rfl),?_⟩
|refine⟨_,Xc (s:=1) rfl (Yn rfl rfl rfl),?_⟩
|refine⟨_,Xc (s:=1) rfl (Xq rfl rfl rfl rfl),?_⟩
|refine⟨_,Xc (s:=2) rfl (Yn rfl rfl rfl),?_⟩
|refine⟨_,Xc (s:=2) rfl (Xq rfl rfl rfl rfl),?_⟩)
  )
 refine Zbf 30 rfl ?_
 exact Kv (Tq (st4 (k:=3) (a:=0) (b:=1) (c:=2) rfl rfl rfl rfl) rfl rfl)
theorem take2_am(g:Nat)(m:Mch)(i:Ins)(b:Int)  : AM Tryz.prog 86 (mO m++tO g i b) [0,3,4,5] [.obj 3 0,.obj 4 0,.obj 5 0] (mO (if 1<b then X6 m 4 else if m.left≠0 then m else {m with started:=false,pc:=if b=0 then i.a else w64 (m.pc+1)})++tO g i b) (.tup []):=by
 refine Ni Tryz.func86 rfl _ Tryz.ntmps86 (by simp) g 3 0 0 rfl rfl (by simp) fun C gs hn hg=>?_
 subst hg
 repeat' (first
|refine Yd 3 (Pq m i b) rfl (by simp[AV.onlys,AV.only]) (by simp[AV.only,AV.onlys]) rfl rfl rfl (Yb _) (Yb _) rfl (by first|exact trivial|exact⟨rfl,trivial⟩|exact⟨rfl,rfl,trivial⟩|exact⟨rfl,rfl,rfl,trivial⟩|exact⟨rfl,rfl,rfl,rfl,trivial⟩) (fun t h=>by injection h with h;subst h;exact tl hn rfl) ?_
|refine Zbh ?_
|refine Za 30 rfl ?_
|(refine Zc hn rfl rfl rfl ?_;first
|refine⟨_,Xc (s:=0) rfl (Yn rfl rfl rfl),?_⟩
|refine⟨_,Xc (s:=0) rfl (Xq rfl rfl rfl rfl),?_⟩
|refine⟨_,Xc (s:=1) rfl (Yn rfl rfl rfl),?_⟩
|refine⟨_,Xc (s:=1) rfl (Xq rfl rfl rfl rfl),?_⟩
|refine⟨_,Xc (s:=2) rfl (Yn rfl rfl rfl),?_⟩
|refine⟨_,Xc (s:=2) rfl (Xq rfl rfl rfl rfl),?_⟩)
  )
 refine Zbf 30 rfl ?_
 exact Kv (Tq (st4 (k:=3) (a:=0) (b:=1) (c:=2) rfl rfl rfl rfl) rfl rfl)
theorem take3_am(g:Nat)(m:Mch)(i:Ins)(b:Int)  : AM Tryz.prog 88 (mO m++tO g i b) [0,3,4,5] [.obj 3 0,.obj 4 0,.obj 5 0] (mO (if m.escaped=false∧b=i.a then Ws m else {m with escaped := !m.escaped&&decide (b=92),left:=1})++tO g i b) (.tup []):=by
 refine Ni Tryz.func88 rfl _ Tryz.ntmps88 (by simp) g 3 0 0 rfl rfl (by simp) fun C gs hn hg=>?_
 subst hg
 repeat' (first
|refine Yd 3 (Ip m i b) rfl (by simp[AV.onlys,AV.only]) (by simp[AV.only,AV.onlys]) rfl rfl rfl (Yb _) (Yb _) rfl (by first|exact trivial|exact⟨rfl,trivial⟩|exact⟨rfl,rfl,trivial⟩|exact⟨rfl,rfl,rfl,trivial⟩|exact⟨rfl,rfl,rfl,rfl,trivial⟩) (fun t h=>by injection h with h;subst h;exact tl hn rfl) ?_
|refine Zbh ?_
|refine Za 30 rfl ?_
|(refine Zc hn rfl rfl rfl ?_;first
|refine⟨_,Xc (s:=0) rfl (Yn rfl rfl rfl),?_⟩
|refine⟨_,Xc (s:=0) rfl (Xq rfl rfl rfl rfl),?_⟩
|refine⟨_,Xc (s:=1) rfl (Yn rfl rfl rfl),?_⟩
|refine⟨_,Xc (s:=1) rfl (Xq rfl rfl rfl rfl),?_⟩
|refine⟨_,Xc (s:=2) rfl (Yn rfl rfl rfl),?_⟩
|refine⟨_,Xc (s:=2) rfl (Xq rfl rfl rfl rfl),?_⟩)
  )
 refine Zbf 30 rfl ?_
 exact Kv (Tq (st4 (k:=3) (a:=0) (b:=1) (c:=2) rfl rfl rfl rfl) rfl rfl)
theorem take4_am(g:Nat)(m:Mch)(i:Ins)(b:Int)  : AM Tryz.prog 90 (mO m++tO g i b) [0,3,4,5] [.obj 5 0,.obj 4 0,.obj 3 0] (mO (if b≠i.a then X6 m 2 else Ws m)++tO g i b) (.tup []):=by
 refine Ni Tryz.func90 rfl _ Tryz.ntmps90 (by simp) g 3 0 0 rfl rfl (by simp) fun C gs hn hg=>?_
 subst hg
 repeat' (first
|refine Yd 3 (Xf m 2) rfl (by simp[AV.onlys,AV.only]) (by simp[AV.only,AV.onlys]) rfl rfl rfl (Yb _) (Yb _) rfl (by first|exact trivial|exact⟨rfl,trivial⟩|exact⟨rfl,rfl,trivial⟩|exact⟨rfl,rfl,rfl,trivial⟩|exact⟨rfl,rfl,rfl,rfl,trivial⟩) (fun t h=>by injection h with h;subst h;exact tl hn rfl) ?_
|refine Yd 3 (V3 m) rfl (by simp[AV.onlys,AV.only]) (by simp[AV.only,AV.onlys]) rfl rfl rfl (Yb _) (Yb _) rfl (by first|exact trivial|exact⟨rfl,trivial⟩|exact⟨rfl,rfl,trivial⟩|exact⟨rfl,rfl,rfl,trivial⟩|exact⟨rfl,rfl,rfl,rfl,trivial⟩) (fun t h=>by injection h with h;subst h;exact tl hn rfl) ?_
|refine Zbg Zk hn rfl ?_
|refine Zbh ?_
|refine Za 30 rfl ?_
|(refine Zc hn rfl rfl rfl ?_;first
|refine⟨_,Xc (s:=0) rfl (Yn rfl rfl rfl),?_⟩
|refine⟨_,Xc (s:=1) rfl (Yn rfl rfl rfl),?_⟩
|refine⟨_,Xc (s:=2) rfl (Yn rfl rfl rfl),?_⟩
   )
|(refine Zbf 30 rfl ?_;first|refine Z8 rfl (fun h=>?_) (fun h=>?_)|refine Zbe (Zj hm rfl rfl ?_)|exact Zbe (Zf hm rfl rfl rfl (nbT rfl) rfl rfl))
  )
 ·refine Zbf 30 rfl ?_
  exact Zbe (Tq (st4 (k:=7) (a:=2) (b:=1) (c:=0) rfl rfl rfl rfl) rfl (tO_app (by rw[if_pos (by assumption)])))
 ·refine Zbf 30 rfl ?_
  exact Kv (Tq (st4 (k:=9) (a:=2) (b:=1) (c:=0) rfl rfl rfl rfl) rfl (tO_app (by rw[if_neg (by simp[*])])))
set_option maxRecDepth 100000
instance tbr_take:TBR Tryz.prog 108 (List.replicate 18 .nilFunc):=⟨_,_,_,_,_,rfl,rfl,rfl,by kernel_rfl,rfl,rfl,by decide⟩
instance t1_take:T1 Tryz.prog 1:=⟨by kernel_rfl⟩
instance tz_take:TZ Tryz.prog 108 (List.replicate 18 .nilFunc):=⟨_,_,rfl,rfl,rfl,fun x hx=>by rw[List.eq_of_mem_replicate hx];rfl⟩
def Sw:AV:=.ro (.c .nilFunc)
def takeT:List AV:=[Sw,.fn (.func 84) [] [.obj 3 0,.obj 4 0,.obj 5 0],.fn (.func 90) [] [.obj 5 0,.obj 4 0,.obj 3 0],Sw,Sw,Sw,Sw,Sw,Sw,Sw,Sw,Sw,Sw,.fn (.func 86) [] [.obj 3 0,.obj 4 0,.obj 5 0],Sw,Sw,.fn (.func 88) [] [.obj 3 0,.obj 4 0,.obj 5 0],Sw]
theorem It{P:Program}{C:Ctx}{env:Env}{σ:List Ob}{t:Nat}{ty:TypeId}{pos:String}{after:Array Edge}{gd:Option (Nat×Bool)}{tt:TypeId}{parts:Array (Nat×Operand)}{zs:List Value}[hb:TBR P tt zs](h:Zao oneP env (zs.map fun v=>.ro (.c v)) parts.toList=some takeT):Pur P C ⟨some t,.build tt parts,ty,pos,after,gd⟩ env σ (.agg takeT):=pu_buildR h
set_option maxHeartbeats 16000000 in
theorem take_amN(m:Mch)(i:Ins)(b:Int)(hm:Uu m)(ho:0≤i.op∧i.op≤17)(h15:i.op≠15)(hb:0≤b∧b≤255)(h1:i.op=1→1≤m.left∧m.left≤i.a∧i.a≤4):AM Tryz.prog 51 (mO m) [0] [.obj 0 0,.ro (.agg (Ul i)),.int b] (mO (Uo m i b)) (.tup []):=by
 refine Yz Tryz.func51 rfl _ Tryz.ntmps51 (by simp) (by simp) fun C gs hn=>?_
 have hL:=Ta (b:=b) hm
 obtain⟨op,ia,ib⟩:=i
 simp only at ho h15 h1
 have hs:op=1→ib=1→0≤ia-(Yi m b).left-1∧ia-(Yi m b).left-1≤3∧0≤ia∧ia≤4:=fun e _=>by
  have:=h1 e
  have hw:(Yi m b).left=m.left-1:=Wh (by omega)
  rw[hw]
  omega
 have ht:Uo m ⟨op,ia,ib⟩ b=Vi (Yi m b) ⟨op,ia,ib⟩ b:=by unfold Uo;rw[if_neg h15]
 rw[ht]
 clear ht h1
 have hop:op=0∨op=1∨op=2∨op=3∨op=4∨op=5∨op=6∨op=7∨op=8∨op=9∨op=10∨op=11∨op=12∨op=13∨op=14∨op=16∨op=17:=by omega
 rcases hop with rfl|rfl|rfl|rfl|rfl|rfl|rfl|rfl|rfl|rfl|rfl|rfl|rfl|rfl|rfl|rfl|rfl
 all_goals
  repeat' (first
|refine Yd 3 (Ff m b hm) rfl (by simp[AV.onlys,AV.only]) (by simp[AV.only,AV.onlys]) rfl rfl rfl (Yb _) (Yb _) rfl (by first|exact trivial|exact⟨rfl,trivial⟩|exact⟨rfl,rfl,trivial⟩|exact⟨rfl,rfl,rfl,trivial⟩|exact⟨rfl,rfl,rfl,rfl,trivial⟩) (fun t h=>by injection h with h;subst h;exact tl hn rfl) ?_
|refine Yd 3 (V3 (Yi m b)) rfl (by simp[AV.onlys,AV.only]) (by simp[AV.only,AV.onlys]) rfl rfl rfl (Yb _) (Yb _) rfl (by first|exact trivial|exact⟨rfl,trivial⟩|exact⟨rfl,rfl,trivial⟩|exact⟨rfl,rfl,rfl,trivial⟩|exact⟨rfl,rfl,rfl,rfl,trivial⟩) (fun t h=>by injection h with h;subst h;exact tl hn rfl) ?_
|refine M3 6 rfl (take1_am (gs 0) (Yi m b) ⟨1,ia,ib⟩ b (hs rfl) hb) rfl (by simp[AV.onlys,AV.only]) (by simp[AV.only,AV.onlys]) rfl rfl rfl (Jl _ _ _ _) (Jl _ _ _ _) rfl ⟨rfl,trivial⟩ (fun t h=>by injection h with h;subst h;exact tl hn rfl) ?_
|refine M3 6 rfl (take2_am (gs 0) (Yi m b) ⟨_,ia,ib⟩ b) rfl (by simp[AV.onlys,AV.only]) (by simp[AV.only,AV.onlys]) rfl rfl rfl (Jl _ _ _ _) (Jl _ _ _ _) rfl ⟨rfl,trivial⟩ (fun t h=>by injection h with h;subst h;exact tl hn rfl) ?_
|refine M3 6 rfl (take3_am (gs 0) (Yi m b) ⟨_,ia,ib⟩ b) rfl (by simp[AV.onlys,AV.only]) (by simp[AV.only,AV.onlys]) rfl rfl rfl (Jl _ _ _ _) (Jl _ _ _ _) rfl ⟨rfl,trivial⟩ (fun t h=>by injection h with h;subst h;exact tl hn rfl) ?_
|refine M3 6 rfl (take4_am (gs 0) (Yi m b) ⟨_,ia,ib⟩ b) rfl (by simp[AV.onlys,AV.only]) (by simp[AV.only,AV.onlys]) rfl rfl rfl (Jl _ _ _ _) (Jl _ _ _ _) rfl ⟨rfl,trivial⟩ (fun t h=>by injection h with h;subst h;exact tl hn rfl) ?_
|refine Zbg Zk hn rfl ?_
|refine Zbh ?_
|refine Za 30 rfl ?_
|(refine Zc hn rfl rfl rfl ?_;first
|refine⟨_,It rfl,?_⟩
|refine⟨_,Xw,?_⟩
|refine⟨_,Jc (t:=48) rfl rfl (by simp) (by simp),?_⟩
|refine⟨_,Yn (t:=49) rfl rfl rfl,?_⟩
|refine⟨_,pu_neqNil (t:=51) Tryz.underlying1 rfl rfl,?_⟩
|refine⟨_,So (t:=51) Tryz.underlying1 rfl rfl,?_⟩)
|(refine Zbf 30 rfl ?_;first|refine Zg rfl ?_|refine Zm rfl ?_)
|refine Zs rfl (tl hn rfl) ?_
|refine Zx (tl hn rfl) ?_
|refine Zr rfl rfl rfl rfl (nbT rfl) ?_
   )
  all_goals refine Zbf 30 rfl ?_
  all_goals first
   |(refine Uk (t:=0) rfl ((List.append_assoc _ _ _).trans (Xx ?_)) rfl
     simp[Vi];done)
   |(refine Wx (t:=0) rfl (Xx ?_) rfl
     simp[Vi];done)
set_option maxRecDepth 100000
set_option maxHeartbeats 16000000 in
theorem take_am15(m:Mch)(i:Ins)(b:Int)(hm:Uu m)(h15:i.op=15)(hs:m.sums.length≠0):AM Tryz.prog 51 (mO m) [0] [.obj 0 0,.ro (.agg (Ul i)),.int b] (mO (Uo m i b)) (.tup []):=by
 refine Yz Tryz.func51 rfl _ Tryz.ntmps51 (by simp) (by simp) fun C gs hn=>?_
 obtain⟨op,ia,ib⟩:=i
 simp only at h15
 subst h15
 have hb:=hm.2
 have hl:((m.sums.map RV.int).map AV.ro).length=m.sums.length*1:=by simp
 obtain⟨z,hz⟩:∃z,m.sums[m.sums.length-1]?=some z:=⟨_,Za6 (by omega)⟩
 have hz':((m.sums.map RV.int).map AV.ro)[((m.sums.length:Int)-1).toNat*1]?=some (.ro (.int z)):=by
  rw[show((m.sums.length:Int)-1).toNat*1=m.sums.length-1 by omega];simp[hz]
 have e1:((m.sums.map RV.int).map AV.ro).take (((m.sums.length:Int)-1).toNat*1)=((m.sums.take (m.sums.length-1)).map RV.int).map AV.ro:=by
  rw[show((m.sums.length:Int)-1).toNat*1=m.sums.length-1 by omega,List.map_take,List.map_take]
 have hm':Uu {m with sums:=m.sums.take (m.sums.length-1)}:=⟨hm.1,by simp only[List.length_take];omega⟩
 have hC:=Ff {m with sums:=m.sums.take (m.sums.length-1)} b hm'
 have hS:=V3 (Yi {m with sums:=m.sums.take (m.sums.length-1)} b)
 have ht:Uo m ⟨15,ia,ib⟩ b=(if z≠b then X6 m 5 else Ws (Yi {m with sums:=m.sums.take (m.sums.length-1)} b)):=by
  unfold Uo;rw[if_pos rfl,hz];simp[Vi]
 rw[ht]
 clear ht
 repeat' (first
|refine O8 (id:=5) 30 9 Yc rfl (by kernel_rfl) (by kernel_rfl) ?_
|refine RunsL.junk 0 3 rfl (Ss (i:=2) (n:=m.sums.length) (q:=(m.sums.length:Int)-1) rfl rfl rfl rfl hl (by omega) (by omega) (by omega) (by repeat' (first|exact trivial|exact Uj _ _|exact(by decide:(1:Nat)≠2)|exact(by decide:(0:Nat)≠2)|refine And.intro ?_ ?_)) (fun j v hj=>Vm (Uj _ _) j v hj) (tl hn rfl) ?_)
|refine Yd 3 (Xf m 5) rfl (by simp[AV.onlys,AV.only]) (by simp[AV.only,AV.onlys]) rfl rfl rfl (Yb _) (Yb _) rfl (by first|exact trivial|exact⟨rfl,trivial⟩|exact⟨rfl,rfl,trivial⟩|exact⟨rfl,rfl,rfl,trivial⟩|exact⟨rfl,rfl,rfl,rfl,trivial⟩) (fun t h=>by injection h with h;subst h;exact tl hn rfl) ?_
|refine Zbg Zk hn rfl ?_
|refine Zbh ?_
|refine Za 30 rfl ?_
|((first|refine Zc hn rfl rfl rfl ?_|refine Zl rfl rfl ?_);first
|refine⟨_,Z9 rfl,?_⟩
|refine⟨_,Yo (n:=m.sums.length) rfl rfl hl,?_⟩
|refine⟨_,Z7 rfl rfl (by omega),?_⟩
|refine⟨_,Yk (n:=m.sums.length) (sz:=1) rfl rfl rfl rfl hl (by omega) (by omega),?_⟩
|refine⟨_,Yn rfl rfl hz',?_⟩)
|(refine Zbf 30 rfl ?_;first|refine Zg rfl ?_|refine Zm rfl ?_|refine Z8 rfl (fun h=>?_) (fun h=>?_))
|refine Zs rfl (tl hn rfl) ?_
|refine Z5 rfl rfl rfl rfl (nbT rfl) ?_
|refine Zx (tl hn rfl) ?_
|refine Zr rfl rfl rfl rfl (nbT rfl) ?_
|refine Zbi Zk hn rfl rfl ?_
|refine Zbj ?_
|refine Zo 30 Yc hn rfl (by kernel_rfl) rfl ?_
|((first|refine Zc hn rfl rfl rfl ?_|refine Zl rfl rfl ?_);first
|refine⟨_,Z7 rfl rfl (by omega),?_⟩))
 ·refine Zbf 30 rfl ?_
  refine Uk (t:=0) rfl (Xx ?_) rfl
  rw[if_pos (by assumption)]
 ·rw[e1]
  repeat' (first
|refine Yd 3 (hC) rfl (by simp[AV.onlys,AV.only]) (by simp[AV.only,AV.onlys]) rfl rfl rfl (Yb _) (Yb _) rfl (by first|exact trivial|exact⟨rfl,trivial⟩|exact⟨rfl,rfl,trivial⟩|exact⟨rfl,rfl,rfl,trivial⟩|exact⟨rfl,rfl,rfl,rfl,trivial⟩) (fun t h=>by injection h with h;subst h;exact tl hn rfl) ?_
|refine Yd 3 (hS) rfl (by simp[AV.onlys,AV.only]) (by simp[AV.only,AV.onlys]) rfl rfl rfl (Yb _) (Yb _) rfl (by first|exact trivial|exact⟨rfl,trivial⟩|exact⟨rfl,rfl,trivial⟩|exact⟨rfl,rfl,rfl,trivial⟩|exact⟨rfl,rfl,rfl,rfl,trivial⟩) (fun t h=>by injection h with h;subst h;exact tl hn rfl) ?_
|refine Zbg Zk hn rfl ?_
|refine Zbh ?_
|refine Za 30 rfl ?_
|((first|refine Zc hn rfl rfl rfl ?_|refine Zl rfl rfl ?_);first
|refine⟨_,Z9 rfl,?_⟩
|refine⟨_,It rfl,?_⟩
|refine⟨_,Xw,?_⟩
|refine⟨_,Jc (t:=48) rfl rfl (by simp) (by simp),?_⟩
|refine⟨_,Yn (t:=49) rfl rfl rfl,?_⟩
|refine⟨_,So (t:=51) Tryz.underlying1 rfl rfl,?_⟩)
|(refine Zbf 30 rfl ?_;first|refine Zg rfl ?_|refine Zm rfl ?_|refine Z8 rfl (fun h=>?_) (fun h=>?_))
|refine Zs rfl (tl hn rfl) ?_
|refine Z5 rfl rfl rfl rfl (nbT rfl) ?_
|refine Zx (tl hn rfl) ?_
|refine Zr rfl rfl rfl rfl (nbT rfl) ?_
|refine Zbi Zk hn rfl rfl ?_
|refine Zbj ?_
|refine Zo 30 Yc hn rfl (by kernel_rfl) rfl ?_
|((first|refine Zc hn rfl rfl rfl ?_|refine Zl rfl rfl ?_);first
|refine⟨_,Z7 rfl rfl (by omega),?_⟩))
  refine Zbf 30 rfl ?_
  refine Wx (t:=0) rfl (Xx ?_) rfl
  rw[if_neg (by simp[*])]
theorem take_am(m:Mch)(i:Ins)(b:Int)(hm:Uu m)(ho:0≤i.op∧i.op≤17)(hb:0≤b∧b≤255)(h1:i.op=1→1≤m.left∧m.left≤i.a∧i.a≤4)(hs:i.op=15→m.sums.length≠0):AM Tryz.prog 51 (mO m) [0] [.obj 0 0,.ro (.agg (Ul i)),.int b] (mO (Uo m i b)) (.tup []):=by
 by_cases h:i.op=15
 ·exact take_am15 m i b hm h (hs h)
 ·exact take_amN m i b hm ho h hb h1
set_option maxRecDepth 100000
set_option maxHeartbeats 16000000 in
theorem feed_am(p:Prg)(f:Bool)(m:Mch)(b:Int)(hm:Uu m)(hc:p.code.length≤4194304)(hf:f=true→∀(k:Nat) x,p.code[k]?=some x→Tv x)(hb:0≤b∧b≤255):AM Tryz.prog 22 (mO m) [0] [.obj 0 0,.ro (Tm p),.bool f,.int b] (mO (Qj p f m b)) (.tup []):=by
 refine Yz Tryz.func22 rfl _ Tryz.ntmps22 (by simp) (by simp) fun C gs hn=>?_
 have hlc:(p.code.map Ul).length=p.code.length:=lmT ..
 have hA:=Gb p f m hm hc
 have hL:=Ed (p:=p) (f:=f) hm
 have hI:=fun h=>mAdv_idx (p:=p) (f:=f) (m:=m) h
 have hF:Qj p f m b=(if(Uq p f m).state=1 then X6 (Uq p f m) 7 else if(Uq p f m).state≠0 then Uq p f m else Bt p (Uq p f m) b):=rfl
 rw[hF]
 clear hF
 generalize Uq p f m=q at hA hL hI ⊢
 by_cases h1:q.state=1
 ·repeat' (first
|refine Yd 3 (hA) rfl (by simp[AV.onlys,AV.only]) (by simp[AV.only,AV.onlys]) rfl rfl rfl (Yb _) (Yb _) rfl (by first|exact trivial|exact⟨rfl,trivial⟩|exact⟨rfl,rfl,trivial⟩|exact⟨rfl,rfl,rfl,trivial⟩|exact⟨rfl,rfl,rfl,rfl,trivial⟩) (fun t h=>by injection h with h;subst h;exact tl hn rfl) ?_
|refine Yd 3 (Xf q 7) rfl (by simp[AV.onlys,AV.only]) (by simp[AV.only,AV.onlys]) rfl rfl rfl (Yb _) (Yb _) rfl (by first|exact trivial|exact⟨rfl,trivial⟩|exact⟨rfl,rfl,trivial⟩|exact⟨rfl,rfl,rfl,trivial⟩|exact⟨rfl,rfl,rfl,rfl,trivial⟩) (fun t h=>by injection h with h;subst h;exact tl hn rfl) ?_
|refine Zbg Zk hn rfl ?_
|refine Zbh ?_
|refine Za 30 rfl ?_
|((first|refine Zc hn rfl rfl rfl ?_|refine Zl rfl rfl ?_);first
|refine⟨_,Z9 rfl,?_⟩)
|(refine Zbf 30 rfl ?_;first|refine Zg rfl ?_|refine Zm rfl ?_|(refine Zd rfl ?_ ?_;·first|omega|rfl|assumption|(simp only[lmT];omega))|(refine Ze rfl ?_ ?_;·first|omega|rfl|assumption|(simp only[lmT];omega)))
|refine Zs rfl (tl hn rfl) ?_
|refine Zr rfl rfl rfl rfl (nbT rfl) ?_
|refine Zbi Zk hn rfl rfl ?_
|refine Zbj ?_
|refine Zo 30 Yc hn rfl (by kernel_rfl) rfl ?_
|((first|refine Zc hn rfl rfl rfl ?_|refine Zl rfl rfl ?_);first
|refine⟨_,Zb rfl rfl (by omega) (by assumption),?_⟩)
|((first|refine Zv rfl rfl rfl ?_ ?_|refine Yu rfl rfl rfl ?_ ?_)<;>intro h<;>try(exfalso;first|omega|contradiction|(simp only[lmT]at h;omega))))
  all_goals first
   |(exfalso;omega)
   |(refine Zbf 30 rfl ?_
     refine Uk (t:=0) (more:=[⟨32,0,[.ro (Qp p.code),.ro (Xe p.entries)]⟩]) rfl (Xx ?_) rfl
     rw[if_pos h1])
 ·by_cases h0:q.state=0
  ·obtain⟨hft,hst,hi⟩:=hI h0
   obtain⟨x,hx⟩:∃x,p.code[q.pc.toNat]?=some x:=⟨_,Za6 (by unfold Idx at hi;omega)⟩
   have hxa:mAt p q=x:=by unfold mAt;rw[hx];rfl
   have hok:=hf hft _ _ hx
   unfold Idx at hi
   have ho:0≤x.op∧x.op≤17:=by have:=hok.2.2.2.2.2;unfold InR at this;omega
   have ho1:x.op=1→x.a≤4:=fun h=>by have:=(hok.1 h).1;unfold InR at this;omega
   have hl:((q.sums.map RV.int).map AV.ro).length=q.sums.length*1:=by simp
   rw[if_neg h1,if_neg (by simp[h0])]
   unfold Bt
   rw[hxa]
   by_cases hbad:(x.op=1∧¬InR q.left 1 x.a)∨(x.op=15∧q.sums.length=0)
   ·rw[if_pos hbad]
    repeat' (first
|refine Y3 (id:=6) 30 [] [0,1,2,3,4,5,6,7,8] 9 [(8,51,[.int .i64 0,.int .i64 0,.int .i64 0])] Yc hn rfl (by kernel_rfl) rfl .nil (by decide) (by decide) (by decide) ?_
|refine Yd 3 (hA) rfl (by simp[AV.onlys,AV.only]) (by simp[AV.only,AV.onlys]) rfl rfl rfl (Yb _) (Yb _) rfl (by first|exact trivial|exact⟨rfl,trivial⟩|exact⟨rfl,rfl,trivial⟩|exact⟨rfl,rfl,rfl,trivial⟩|exact⟨rfl,rfl,rfl,rfl,trivial⟩) (fun t h=>by injection h with h;subst h;exact tl hn rfl) ?_
|refine Yd 3 (Xf q 8) rfl (by simp[AV.onlys,AV.only]) (by simp[AV.only,AV.onlys]) rfl rfl rfl (Yb _) (Yb _) rfl (by first|exact trivial|exact⟨rfl,trivial⟩|exact⟨rfl,rfl,trivial⟩|exact⟨rfl,rfl,rfl,trivial⟩|exact⟨rfl,rfl,rfl,rfl,trivial⟩) (fun t h=>by injection h with h;subst h;exact tl hn rfl) ?_
|refine RunsT.nil ?_
|refine RunsT.step Zk rfl rfl (fun _=>rfl) (by decide) ?_
|refine RunsT.pur (fun _=>Z9 rfl) (by decide) rfl rfl ?_
|refine RunsT.pur (fun _=>Zi (Y2 _ _ _) rfl) (by decide) rfl rfl ?_
|refine RunsT.pur (fun _=>Yo (n:=q.sums.length) rfl rfl hl) (by decide) rfl rfl ?_
|refine RunsT.pur (fun _=>Zb rfl rfl (by omega) (by assumption)) (by decide) rfl rfl ?_
|refine RunsT.alloc (p:=0) rfl inferInstance ?_
|refine RunsT.alloc (p:=1) rfl inferInstance ?_
|refine Zbg Zk hn rfl ?_
|refine Zbh ?_
|refine Za 30 rfl ?_
|((first|refine Zc hn rfl rfl rfl ?_|refine Zl rfl rfl ?_);first
|refine⟨_,Z9 rfl,?_⟩
|refine⟨_,Zi (Y2 _ _ _) rfl,?_⟩
|refine⟨_,Yo (n:=q.sums.length) rfl rfl hl,?_⟩)
|(refine Zbf 30 rfl ?_;first|refine Zg rfl ?_|refine Zm rfl ?_|(refine Zd rfl ?_ ?_;·first|omega|rfl|assumption|(simp only[lmT];omega))|(refine Ze rfl ?_ ?_;·first|omega|rfl|assumption|(simp only[lmT];omega)))
|refine Zs rfl (tl hn rfl) ?_
|refine Zr rfl rfl rfl rfl (nbT rfl) ?_
|refine Zbi Zk hn rfl rfl ?_
|refine Zbj ?_
|refine Zo 30 Yc hn rfl (by kernel_rfl) rfl ?_
|((first|refine Zc hn rfl rfl rfl ?_|refine Zl rfl rfl ?_);first
|refine⟨_,Zb rfl rfl (by omega) (by assumption),?_⟩)
|((first|refine Zv rfl rfl rfl ?_ ?_|refine Yu rfl rfl rfl ?_ ?_)<;>intro h<;>try(exfalso;first|omega|contradiction|(simp only[lmT]at h;omega))))
    all_goals first
     |(exfalso;first|omega|(unfold InR at *;omega))
     |(refine Zbf 30 rfl ?_
       refine Uk (t:=0) (more:=[⟨32,0,[.ro (Qp p.code),.ro (Xe p.entries)]⟩,⟨51,0,(Ul x).map .ro⟩]) rfl (Xx rfl) rfl)
   ·rw[if_neg hbad]
    have hT:=take_am q x b hL ho hb (fun h=>⟨by unfold InR at hbad;omega,by unfold InR at hbad;omega,ho1 h⟩) (fun h h'=>hbad (.inr ⟨h,h'⟩))
    repeat' (first
|refine Y3 (id:=6) 30 [] [0,1,2,3,4,5,6,7,8] 9 [(8,51,[.int .i64 0,.int .i64 0,.int .i64 0])] Yc hn rfl (by kernel_rfl) rfl .nil (by decide) (by decide) (by decide) ?_
|refine Yd 3 (hA) rfl (by simp[AV.onlys,AV.only]) (by simp[AV.only,AV.onlys]) rfl rfl rfl (Yb _) (Yb _) rfl (by first|exact trivial|exact⟨rfl,trivial⟩|exact⟨rfl,rfl,trivial⟩|exact⟨rfl,rfl,rfl,trivial⟩|exact⟨rfl,rfl,rfl,rfl,trivial⟩) (fun t h=>by injection h with h;subst h;exact tl hn rfl) ?_
|refine Yd 3 (hT) rfl (by simp[AV.onlys,AV.only]) (by simp[AV.only,AV.onlys]) rfl rfl rfl (Yb _) (Yb _) rfl (by first|exact trivial|exact⟨rfl,trivial⟩|exact⟨rfl,rfl,trivial⟩|exact⟨rfl,rfl,rfl,trivial⟩|exact⟨rfl,rfl,rfl,rfl,trivial⟩) (fun t h=>by injection h with h;subst h;exact tl hn rfl) ?_
|refine RunsT.nil ?_
|refine RunsT.step Zk rfl rfl (fun _=>rfl) (by decide) ?_
|refine RunsT.pur (fun _=>Z9 rfl) (by decide) rfl rfl ?_
|refine RunsT.pur (fun _=>Zi (Y2 _ _ _) rfl) (by decide) rfl rfl ?_
|refine RunsT.pur (fun _=>Yo (n:=q.sums.length) rfl rfl hl) (by decide) rfl rfl ?_
|refine RunsT.pur (fun _=>Zb rfl rfl (by omega) (by assumption)) (by decide) rfl rfl ?_
|refine RunsT.alloc (p:=0) rfl inferInstance ?_
|refine RunsT.alloc (p:=1) rfl inferInstance ?_
|refine Zbg Zk hn rfl ?_
|refine Zbh ?_
|refine Za 30 rfl ?_
|((first|refine Zc hn rfl rfl rfl ?_|refine Zl rfl rfl ?_);first
|refine⟨_,Z9 rfl,?_⟩
|refine⟨_,Zi (Y2 _ _ _) rfl,?_⟩
|refine⟨_,Yo (n:=q.sums.length) rfl rfl hl,?_⟩)
|(refine Zbf 30 rfl ?_;first|refine Zg rfl ?_|refine Zm rfl ?_|(refine Zd rfl ?_ ?_;·first|omega|rfl|assumption|(simp only[lmT];omega))|(refine Ze rfl ?_ ?_;·first|omega|rfl|assumption|(simp only[lmT];omega)))
|refine Zs rfl (tl hn rfl) ?_
|refine Zr rfl rfl rfl rfl (nbT rfl) ?_
|refine Zbi Zk hn rfl rfl ?_
|refine Zbj ?_
|refine Zo 30 Yc hn rfl (by kernel_rfl) rfl ?_
|((first|refine Zc hn rfl rfl rfl ?_|refine Zl rfl rfl ?_);first
|refine⟨_,Zb rfl rfl (by omega) (by assumption),?_⟩)
|((first|refine Zv rfl rfl rfl ?_ ?_|refine Yu rfl rfl rfl ?_ ?_)<;>intro h<;>try(exfalso;first|omega|contradiction|(simp only[lmT]at h;omega))))
    all_goals first
     |(exfalso;first|omega|(unfold InR at *;omega))
     |(refine Zbf 30 rfl ?_
       refine Wx (t:=0) (more:=[⟨32,0,[.ro (Qp p.code),.ro (Xe p.entries)]⟩,⟨51,0,(Ul x).map .ro⟩]) rfl (Xx rfl) rfl)
  ·repeat' (first
|refine Yd 3 (hA) rfl (by simp[AV.onlys,AV.only]) (by simp[AV.only,AV.onlys]) rfl rfl rfl (Yb _) (Yb _) rfl (by first|exact trivial|exact⟨rfl,trivial⟩|exact⟨rfl,rfl,trivial⟩|exact⟨rfl,rfl,rfl,trivial⟩|exact⟨rfl,rfl,rfl,rfl,trivial⟩) (fun t h=>by injection h with h;subst h;exact tl hn rfl) ?_
|refine Yd 3 (Xf q 7) rfl (by simp[AV.onlys,AV.only]) (by simp[AV.only,AV.onlys]) rfl rfl rfl (Yb _) (Yb _) rfl (by first|exact trivial|exact⟨rfl,trivial⟩|exact⟨rfl,rfl,trivial⟩|exact⟨rfl,rfl,rfl,trivial⟩|exact⟨rfl,rfl,rfl,rfl,trivial⟩) (fun t h=>by injection h with h;subst h;exact tl hn rfl) ?_
|refine Zbg Zk hn rfl ?_
|refine Zbh ?_
|refine Za 30 rfl ?_
|((first|refine Zc hn rfl rfl rfl ?_|refine Zl rfl rfl ?_);first
|refine⟨_,Z9 rfl,?_⟩)
|(refine Zbf 30 rfl ?_;first|refine Zg rfl ?_|refine Zm rfl ?_|(refine Zd rfl ?_ ?_;·first|omega|rfl|assumption|(simp only[lmT];omega))|(refine Ze rfl ?_ ?_;·first|omega|rfl|assumption|(simp only[lmT];omega)))
|refine Zs rfl (tl hn rfl) ?_
|refine Zr rfl rfl rfl rfl (nbT rfl) ?_
|refine Zbi Zk hn rfl rfl ?_
|refine Zbj ?_
|refine Zo 30 Yc hn rfl (by kernel_rfl) rfl ?_
|((first|refine Zc hn rfl rfl rfl ?_|refine Zl rfl rfl ?_);first
|refine⟨_,Zb rfl rfl (by omega) (by assumption),?_⟩)
|((first|refine Zv rfl rfl rfl ?_ ?_|refine Yu rfl rfl rfl ?_ ?_)<;>intro h<;>try(exfalso;first|omega|contradiction|(simp only[lmT]at h;omega))))
   all_goals first
    |(exfalso;omega)
    |(refine Zbf 30 rfl ?_
      refine Uk (t:=0) (more:=[⟨32,0,[.ro (Qp p.code),.ro (Xe p.entries)]⟩]) rfl (Xx ?_) rfl
      rw[if_neg h1,if_pos h0])
set_option maxRecDepth 100000
def mC(m:Mch)(a b:Nat):List AV:=[.int m.pc,.int m.register,.own a,.own b,.int m.left,.bool m.started,.bool m.escaped,.int m.state,.int m.code,.int m.read]
def Ad(l:List Int):Ob:=⟨3,1,(l.map RV.int).map .ro⟩
def T2(m:Mch):RR:=.agg [.ro (.int m.pc),.ro (.int m.register),.row 3 1 (m.stack.map RV.int),.row 3 1 (m.sums.map RV.int),.ro (.int m.left),.ro (.bool m.started),.ro (.bool m.escaped),.ro (.int m.state),.ro (.int m.code),.ro (.int m.read)]
theorem Mt(m:Mch):Seals (T2 m) (Pe m):=by
 have h1:=Aa 3 m.stack
 have h2:=Aa 3 m.sums
 unfold T2 Pe
 generalize (RR.row 3 1 (m.stack.map RV.int))=r1 at h1 ⊢
 generalize (RR.row 3 1 (m.sums.map RV.int))=r2 at h2 ⊢
 simp only[Seals,Wc]
 exact⟨_,rfl,_,_,rfl,rfl,_,_,rfl,rfl,_,_,rfl,h1,_,_,rfl,h2,_,_,rfl,rfl,_,_,rfl,rfl,_,_,rfl,rfl,_,_,rfl,rfl,_,_,rfl,rfl,_,_,rfl,rfl,rfl⟩
theorem Gr(r:Nat→Nat):∀rs:List RV,Yx r (rs.map .ro)=rs.map .ro
 | []=>rfl
 |x::xs=>by simp only[List.map_cons,Yx,AV.ren,Gr r xs]
theorem Ii(l:List Int):(⟨3,1,(([]:List RV)++(l.map fun z=>[RV.int z]).flatten).map .ro⟩:Ob)=Ad l:=by
 unfold Ad
 congr 2
 induction l with
 |nil=>rfl
 |cons x l ih=>simpa using ih
theorem Ia:∀rs:List RV,(rs.map AV.ro).map unpin=rs.map .ro
 | []=>rfl
 |x::xs=>by simp only[List.map_cons,unpin,Ia xs]
section
variable{P:Program}{C:Ctx}{fn:Func}{ops:Array Oper}{rest:List Oper}{k:List Item}{env:Env}{σ:List Ob}{t:Nat}{ty:TypeId}{pos:String}{after:Array Edge}
theorem S8{m:Mch}{a b:Nat}(h1:σ[a]?=some (Ad m.stack))(h2:σ[b]?=some (Ad m.sums)):Kx σ (T2 m) (.agg (mC m a b)) [a,b]:=by
 simp only[T2,mC,Kx,Vy,Ad]at *
 exact⟨_,rfl,_,_,[],_,rfl,rfl,⟨rfl,rfl⟩,_,_,[],_,rfl,rfl,⟨rfl,rfl⟩,_,_,[a],[b],rfl,rfl,⟨a,rfl,h1,rfl⟩,_,_,[b],[],rfl,rfl,⟨b,rfl,h2,rfl⟩,_,_,[],_,rfl,rfl,⟨rfl,rfl⟩,_,_,[],_,rfl,rfl,⟨rfl,rfl⟩,_,_,[],_,rfl,rfl,⟨rfl,rfl⟩,_,_,[],_,rfl,rfl,⟨rfl,rfl⟩,_,_,[],_,rfl,rfl,⟨rfl,rfl⟩,_,_,[],_,rfl,rfl,⟨rfl,rfl⟩,rfl,rfl⟩
theorem Sh{p i a b:Nat}{m:Mch}{tt tt':TypeId}[TN P tt 10](hp:look env p = .obj i 0)(hi:σ[i]?=some ⟨tt',0,mC m a b⟩):H3 P ⟨env,σ⟩ (.cell p tt) (.agg (mC m a b)):=by
 simp only[H3]
 exact⟨i,0,_,hp,hi,.inr ⟨10,inferInstance,Nat.le_refl _,rfl⟩⟩
theorem Ej{R:RR→Prop}{p i a b:Nat}{m:Mch}{tt tt':TypeId}[TN P tt 10](hm:∀b,¬C.mu b)(hr:fn.results=#[.cell p tt])(hp:look env p = .obj i 0)(hi:σ[i]?=some ⟨tt',0,mC m a b⟩)(h1:σ[a]?=some (Ad m.stack))(h2:σ[b]?=some (Ad m.sums))(hab:a≠b)(hR:R (T2 m)) :
  ∀ac w,Sim C ⟨env,σ⟩ ac w→R7 P C fn R ac w:=
 ends1 hm hr _ (Sh hp hi) (T2 m) [a,b] (S8 h1 h2) (by simp[hab]) hR
theorem D6{R:RR→Prop}{p q i a b:Nat}{m:Mch}{r:RV}{tt tt':TypeId}[TN P tt 10](hm:∀b,¬C.mu b)(hr:fn.results=#[.cell p tt,.tmp q])(hp:look env p = .obj i 0)(hi:σ[i]?=some ⟨tt',0,mC m a b⟩)(h1:σ[a]?=some (Ad m.stack))(h2:σ[b]?=some (Ad m.sums))(hab:a≠b)(hq:look env q = .ro r)(hR:R (.tup [T2 m,.ro r])) :
  ∀ac w,Sim C ⟨env,σ⟩ ac w→R7 P C fn R ac w:=
 endsN (xs:=[.cell p tt,.tmp q]) hm hr (by simp) [.agg (mC m a b),.ro r] (by simp only[J7];exact⟨_,_,rfl,Sh hp hi,_,_,rfl,by simp only[H3];exact hq.symm,rfl⟩) [T2 m,.ro r] [a,b] (by
  simp only[Vy]
  exact⟨_,_,[a,b],[],rfl,rfl,S8 h1 h2,_,_,[],[],rfl,rfl,by simp[Kx],rfl,rfl⟩) (by simp[hab]) hR
variable{R:Act→World→Prop}
theorem Ap{f:FuncId}{fn:Func}{xs:Array Operand}{ats:Array TypeId}{m m':Mch}{rs:List RV}{d:Option Nat}[hfn:FN P f fn](i a b:Nat)(hf:AM P f (mO m) [0] (.obj 0 0::rs.map .ro) (mO m') (.tup []))(ha:xs.toList.map (ev env) = .obj i 0::rs.map .ro)
  (hi:σ[i]?=some ⟨40,0,mC m a b⟩) (h1:σ[a]?=some (Ad m.stack)) (h2:σ[b]?=some (Ad m.sums)) (hne:i≠a∧i≠b∧a≠b) (hfree:FreeR [i,a,b] [0] 0 σ) (ht:∀t,d=some t→t<C.n)
  (hk:RunsL P C ops rest k R ⟨Mz d (.tup []) (Ly (Wt [i,a,b]) (Fv [i,a,b] [0]) env),((σ.set i ⟨40,0,mC m' a b⟩).set a (Ad m'.stack)).set b (Ad m'.sums)⟩) :
  RunsL P C ops (⟨d,.call {callee:=.value (.func f),args:=xs,argTypes:=ats},ty,pos,after,none⟩::rest) k R ⟨env,σ⟩:=by
 have il:=(Za5.1 hi).1
 have al:=(Za5.1 h1).1
 have bl:=(Za5.1 h2).1
 have eM:∀m:Mch,(⟨40,0,mC m 1 2⟩:Ob).ren (rof [i,a,b])=⟨40,0,mC m a b⟩:=fun m=>rfl
 have eR:∀l:List Int,(Ad l).ren (rof [i,a,b])=Ad l:=fun l=>by unfold Ad Ob.ren;simp only[Gr]
 have eO:∀m:Mch,mO m=[⟨40,0,mC m 1 2⟩,Ad m.stack,Ad m.sums]:=fun m=>rfl
 refine Gz (σ0:=mO m) (σ1:=mO m') [i,a,b] hf ?_ ?_ ?_ ht ?_
 ·rw[ha,List.map_cons,Ia]
  simp only[Yx,AV.ren,Gr,unpin]
  rfl
 ·simp only[AV.onlys,AV.only]
  exact⟨by simp[mO],Uj _ _⟩
 ·refine⟨rfl,rfl,?_,?_,?_,Yb m,rfl,hfree⟩
  ·simp only[List.all_cons,List.all_nil,Bool.and_eq_true]
   exact⟨Nat.ble_eq_true_of_le il,Nat.ble_eq_true_of_le al,Nat.ble_eq_true_of_le bl,trivial⟩
  ·simp[hne]
  ·rw[eO]
   simp only[LentAt]
   refine⟨?_,?_,?_,trivial⟩
   ·rw[eM];exact hi
   ·rw[eR];exact h1
   ·rw[eR];exact h2
 ·rw[eO m']
  simp only[Wu,eM,eR]
  exact hk
end
set_option maxHeartbeats 4000000 in
theorem Ka(m:Mch)(hm:Uu m):AC Tryz.prog 20 [Pe m] fun rr=>rr=T2 m:=by
 have h1:=hm.1
 have h2:=hm.2
 refine Zz Tryz.func20 rfl _ Tryz.ntmps20 (by simp) fun C hn hm=>?_
 repeat' (first
|refine Zbg Zk hn rfl ?_
|refine Zbh ?_
|refine Za 30 rfl ?_
|refine Xa (tl hn rfl) ?_
|refine U9 rfl rfl rfl rfl rfl rfl (by repeat' (first|exact trivial|exact Uj _ _|exact(by decide:(2:Nat)≠3)|refine And.intro ?_ ?_)) (by simp;omega) rfl (tl hn rfl) ?_
|(refine Zbf 30 rfl ?_;first|refine Zbe (Zj hm rfl rfl ?_)|exact Zbe (Zf hm rfl rfl rfl (nbT rfl) rfl rfl))
|refine Zs rfl (tl hn rfl) ?_
|refine Z5 rfl rfl rfl rfl (nbT rfl) ?_
|refine Zx (tl hn rfl) ?_
|refine Zr rfl rfl rfl rfl (nbT rfl) ?_
  )
 refine Zbf 30 rfl ?_
 exact Zbe (Ej (i:=1) (a:=2) (b:=3) hm rfl rfl rfl (congrArg some (Ii m.stack)) (congrArg some (Ii m.sums)) (by decide) rfl)
theorem fitsOk{p:Prg}{f:Bool}(h:f=decide (Mm p∧need p≤60))(hf:f=true):∀(k:Nat) x,p.code[k]?=some x→Tv x:=fun k x hx=>by
 subst h
 have hS:=(of_decide_eq_true hf).1
 have hk:=(Za5.1 hx).1
 exact((U8 (p:=p) (i:=(k:Int)) (by simpa using hx)).1 (hS.1.ins k hk)).2.1
noncomputable def Nc(p:Prg):Bool:=decide (Mm p∧need p≤60)
set_option maxHeartbeats 8000000 in
theorem Mg(p:Prg)(m:Mch)(hB:PrgB p)(hm0:Uu m):AC Tryz.prog 19 [Tm p,Pe m] fun rr=>rr=T2 (Uq p (Nc p) m):=by
 have hF:=Je p hB
 have hc:=hB.code
 have hA:=Gb p (Nc p) m hm0 (by omega)
 refine Zz Tryz.func19 rfl _ Tryz.ntmps19 (by simp) fun C hn hm=>?_
 repeat' (first
|refine Y3 (id:=2) 30 [] [0,1,2] 3 [] Yc hn rfl (by kernel_rfl) rfl .nil (by decide) (by decide) (by decide) ?_
|refine Ui (Ka m hm0) rfl (tl hn rfl) ?_
|refine Ap (rs:=[Tm p,.bool (Nc p)]) 5 3 4 hA rfl rfl rfl rfl (by decide) (by repeat' (first|exact trivial|exact .inl rfl|exact .inr rfl|refine And.intro ?_ ?_)) (fun t h=>by injection h with h;subst h;exact tl hn rfl) ?_
|refine RunsT.nil ?_
|refine RunsT.step Zk rfl rfl (fun _=>rfl) (by decide) ?_
|refine RunsT.pur (fun _=>Zi hF rfl) (by decide) rfl rfl ?_
|refine Zbg Zk hn rfl ?_
|refine Zbh ?_
|refine Za 30 rfl ?_
|(refine Zbf 30 rfl ?_;first|refine Zbe (Zj hm rfl rfl ?_)|exact Zbe (Zf hm rfl rfl rfl (nbT rfl) rfl rfl))
|refine Zs rfl (tl hn rfl) ?_
|refine Zx (tl hn rfl) ?_
|refine Zr rfl rfl rfl rfl (nbT rfl) ?_
  )
 refine Zbf 30 rfl ?_
 exact Zbe (Ej (i:=2) (a:=3) (b:=4) hm rfl rfl rfl rfl rfl (by decide) rfl)
instance tb_mch:TB Tryz.prog 40 [(0,1),(1,1),(2,1),(3,1),(4,1),(5,1),(6,1),(7,1),(8,1),(9,1)] [.int .i64 0,.int .i64 0,.slice none 0 0,.slice none 0 0,.int .i64 0,.bool false,.bool false,.int .i64 0,.int .i64 0,.int .i64 0]:=⟨_,_,_,rfl,rfl,rfl,rfl,by kernel_rfl,by decide⟩
theorem Jv:ACv Tryz.prog 10 [] (Pe m0):=by
 refine Zz Tryz.func10 rfl _ Tryz.ntmps10 (by simp) fun C hn hm=>?_
 repeat' (first
|refine Zbh ?_
|refine Za 30 rfl ?_
|(refine Zc hn rfl rfl rfl ?_;first
|refine⟨_,Z2 rfl,?_⟩)
|(refine Zbf 30 rfl ?_;first|refine Zbe (Zj hm rfl rfl ?_)|exact Zbe (Zf hm rfl rfl rfl (nbT rfl) rfl rfl))
|refine Zx (tl hn rfl) ?_
|refine Zr rfl rfl rfl rfl (nbT rfl) ?_
  )
 refine Zbf 30 rfl ?_
 refine Zbe (Or (r:=Pe m0) hm rfl (v:=.agg ([.int 0,.int 0,.nil,.nil,.int 0,.bool false,.bool false,.int 0,.int 0,.int 0]:List AV)) ?_ rfl ?_)
 ·simp only[H3]
  exact⟨0,0,_,rfl,rfl,.inr ⟨10,inferInstance,Nat.le_refl _,rfl⟩⟩
 ·exact Lends.agg (.cons .ro (.cons .ro (.cons (Lends.nil 1) (.cons (Lends.nil 1) (.cons .ro (.cons .ro (.cons .ro (.cons .ro (.cons .ro (.cons .ro .nil))))))))))
def Qq(p:Prg)(f:Bool)(m:Mch)(l:List UInt8):Mch:=l.foldl (fun m c=>Qj p f m (c.toNat:Int)) m
theorem Nd{p:Prg}{f:Bool}:∀(l:List UInt8) {m:Mch},Uu m→Uu (Qq p f m l)
 | [],m,h=>h
 |c::l,m,h=>Nd l (mFeed_len h)
theorem Zap{p:Prg}{f:Bool}{m:Mch}{l:List UInt8}{j:Nat}{c:UInt8}(h:l[j]?=some c):Qq p f m (l.take (j+1))=Qj p f (Qq p f m (l.take j)) (c.toNat:Int):=by
 unfold Qq
 rw[List.take_add_one,h,List.foldl_append]
 rfl
def mO3(p:Prg)(m q:Mch):List Ob:=[⟨32,0,[.ro (Qp p.code),.ro (Xe p.entries)]⟩,⟨40,0,[.ro (.int m.pc),.ro (.int m.register),.ro (Xe m.stack),.ro (Xe m.sums),.ro (.int m.left),.ro (.bool m.started),.ro (.bool m.escaped),.ro (.int m.state),.ro (.int m.code),.ro (.int m.read)]⟩,
 ⟨40,0,[.int 0,.int 0,.nil,.nil,.int 0,.bool false,.bool false,.int 0,.int 0,.int 0]⟩,Ad q.stack,Ad q.sums,⟨40,0,mC q 3 4⟩]
set_option maxHeartbeats 8000000 in
theorem Lz(p:Prg)(m:Mch)(l:List UInt8)(hB:PrgB p)(hm0:Uu m)(hl:l.length≤1048576):AC Tryz.prog 9 [Tm p,Pe m,Ya l] fun rr=>rr=T2 (Qq p (Nc p) m l):=by
 have hF:=Je p hB
 have hc:=hB.code
 have hll:(l.map fun z=>[RV.u8 z]).length=l.length:=lmT ..
 refine Zz Tryz.func9 rfl _ Tryz.ntmps9 (by simp) fun C hn hm=>?_
 by_cases h0:l=[]
 ·subst h0
  repeat' (first
|refine Ui (Ka m hm0) rfl (tl hn rfl) ?_
|refine Zbg Zk hn rfl ?_
|refine Zbh ?_
|refine Za 30 rfl ?_
|(refine Zc hn rfl rfl rfl ?_;first
|refine⟨_,Zi hF rfl,?_⟩)
|(refine Zbf 30 rfl ?_;first|refine Zg rfl ?_|(refine Zd rfl ?_ ?_;·first|omega|rfl|assumption|(simp only[lmT];omega))|(refine Ze rfl ?_ ?_;·first|omega|rfl|assumption|(simp only[lmT];omega))|refine Zbe (Zj hm rfl rfl ?_)|exact Zbe (Zf hm rfl rfl rfl (nbT rfl) rfl rfl))
|refine Zs rfl (tl hn rfl) ?_
|refine Zx (tl hn rfl) ?_
|refine Zr rfl rfl rfl rfl (nbT rfl) ?_
|(refine Zc hn rfl rfl rfl ?_;first
|refine⟨_,Zq rfl rfl (by omega),?_⟩
|refine⟨_,Zb rfl rfl (by omega) (by assumption),?_⟩
    ))
  refine Zbf 30 rfl ?_
  exact Zbe (Ej (i:=2) (a:=3) (b:=4) hm rfl rfl rfl rfl rfl (by decide) rfl)
 ·have hpos:0<l.length:=List.length_pos_iff.2 h0
  repeat' (first
|refine Ui (Ka m hm0) rfl (tl hn rfl) ?_
|refine Zbg Zk hn rfl ?_
|refine Zbh ?_
|refine Za 30 rfl ?_
|(refine Zc hn rfl rfl rfl ?_;first
|refine⟨_,Zi hF rfl,?_⟩)
|(refine Zbf 30 rfl ?_;first|refine Zg rfl ?_|(refine Zd rfl ?_ ?_;·first|omega|rfl|assumption|(simp only[lmT];omega))|(refine Ze rfl ?_ ?_;·first|omega|rfl|assumption|(simp only[lmT];omega))|refine Zbe (Zj hm rfl rfl ?_)|exact Zbe (Zf hm rfl rfl rfl (nbT rfl) rfl rfl))
|refine Zs rfl (tl hn rfl) ?_
|refine Zx (tl hn rfl) ?_
|refine Zr rfl rfl rfl rfl (nbT rfl) ?_
|(refine Zc hn rfl rfl rfl ?_;first
|refine⟨_,Zq rfl rfl (by omega),?_⟩
|refine⟨_,Zb rfl rfl (by omega) (by assumption),?_⟩
    ))
  refine Yh 30 rfl (fun j=>[(3,.obj 0 0),(6,.obj 2 0),(7,.obj 5 0),(8,.bool (Nc p)),(19,.ro (Ya l)),(20,.int ((l.map fun z=>[RV.u8 z]).length:Int)),(21,.int (j:Int))]) (fun j=>mO3 p m (Qq p (Nc p) m (l.take j))) (fun _=>True) l.length 0 (Nat.zero_le _) trivial ⟨rfl,rfl,rfl,rfl,rfl,rfl,rfl,trivial⟩ rfl fun j hj _ next=>?_
  by_cases hlt:j<l.length
  ·obtain⟨x,hx⟩:∃x,l[(j:Int).toNat]?=some x:=⟨_,Za6 hlt⟩
   have hx':l[j]?=some x:=hx
   have hnx:=Zap (p:=p) (f:=Nc p) (m:=m) hx'
   have hL:=Nd (p:=p) (f:=Nc p) (l.take j) hm0
   generalize Qq p (Nc p) m (l.take j)=q at hnx hL ⊢
   have hA:=feed_am p (Nc p) q (x.toNat:Int) hL (by omega) (fitsOk rfl) ⟨by omega,by have:=x.toNat_lt;omega⟩
   repeat' (first
|refine Ap (rs:=[Tm p,.bool (Nc p),.int (x.toNat:Int)]) 5 3 4 hA rfl rfl rfl rfl (by decide) (by repeat' (first|exact trivial|exact .inl rfl|exact .inr rfl|refine And.intro ?_ ?_)) (fun t h=>by injection h with h;subst h;exact tl hn rfl) ?_
|(refine Zc hn rfl rfl rfl ?_;first
|refine⟨_,Wv rfl,?_⟩)
|refine Zbg Zk hn rfl ?_
|refine Zbh ?_
|refine Za 30 rfl ?_
|(refine Zbf 30 rfl ?_;first|refine Zg rfl ?_|(refine Zd rfl ?_ ?_;·first|omega|rfl|assumption|(simp only[lmT];omega))|(refine Ze rfl ?_ ?_;·first|omega|rfl|assumption|(simp only[lmT];omega))|refine Zbe (Zj hm rfl rfl ?_)|exact Zbe (Zf hm rfl rfl rfl (nbT rfl) rfl rfl))
|refine Zs rfl (tl hn rfl) ?_
|refine Zx (tl hn rfl) ?_
|refine Zr rfl rfl rfl rfl (nbT rfl) ?_
|(refine Zc hn rfl rfl rfl ?_;first
|refine⟨_,Zq rfl rfl (by omega),?_⟩
|refine⟨_,Zb rfl rfl (by omega) (by assumption),?_⟩
     ))
   refine next _ _ ⟨rfl,rfl,rfl,rfl,rfl,rfl,rfl,trivial⟩ hlt trivial ?_
   rw[hnx]
   rfl
  ·obtain rfl:j=l.length:=by omega
   rw[List.take_length]
   repeat' (first
|refine Zbg Zk hn rfl ?_
|refine Zbh ?_
|refine Za 30 rfl ?_
|(refine Zbf 30 rfl ?_;first|refine Zg rfl ?_|(refine Zd rfl ?_ ?_;·first|omega|rfl|assumption|(simp only[lmT];omega))|(refine Ze rfl ?_ ?_;·first|omega|rfl|assumption|(simp only[lmT];omega))|refine Zbe (Zj hm rfl rfl ?_)|exact Zbe (Zf hm rfl rfl rfl (nbT rfl) rfl rfl))
|refine Zs rfl (tl hn rfl) ?_
|refine Zx (tl hn rfl) ?_
|refine Zr rfl rfl rfl rfl (nbT rfl) ?_
|(refine Zc hn rfl rfl rfl ?_;first
|refine⟨_,Zq rfl rfl (by omega),?_⟩
|refine⟨_,Zb rfl rfl (by omega) (by assumption),?_⟩
     ))
   refine Zbf 30 rfl ?_
   exact Zbe (Ej (i:=2) (a:=3) (b:=4) hm rfl rfl rfl rfl rfl (by decide) rfl)
set_option maxHeartbeats 8000000 in
theorem Q5(p:Prg)(m:Mch)(hB:PrgB p)(hm0:Uu m):AC Tryz.prog 8 [Tm p,Pe m] fun rr=>rr = .tup [T2 (Uq p (Nc p) m),.ro (.int (I6 (Uq p (Nc p) m)))]:=by
 have hA:=Mg p m hB hm0
 refine Zz Tryz.func8 rfl _ Tryz.ntmps8 (by simp) fun C hn hm=>?_
 repeat' (first
|refine R4 (id:=7) 30 [[0,1,2,3,4],[0,1,3,2,4],[0,3,1,2,4],[1,0,2,3,4],[1,0,3,2,4],[1,2,0,3,4]] Yc rfl (by kernel_rfl) (by kernel_rfl) (by kernel_rfl) ⟨?_,?_,?_,?_,?_,?_,trivial⟩
|refine Ui hA rfl (tl hn rfl) ?_
|refine Zbg Zk hn rfl ?_
|refine Zbh ?_
|refine Za 30 rfl ?_
|(refine Zbf 30 rfl ?_;first|refine Z1 rfl (fun h=>?_) (fun h=>?_)|refine Zbe (Zj hm rfl rfl ?_)|exact Zbe (Zf hm rfl rfl rfl (nbT rfl) rfl rfl))
|refine Zs rfl (tl hn rfl) ?_
|refine Zx (tl hn rfl) ?_
|refine Zr rfl rfl rfl rfl (nbT rfl) ?_
  )
 all_goals refine Zbf 30 rfl ?_
 ·exact Zbe (D6 (i:=2) (a:=3) (b:=4) hm rfl rfl rfl rfl rfl (by decide) rfl (by unfold I6;rw[if_pos (by assumption)]))
 ·exact Zbe (D6 (i:=2) (a:=3) (b:=4) hm rfl rfl rfl rfl rfl (by decide) rfl (by unfold I6;rw[if_neg (by assumption),if_pos (by assumption)]))
 all_goals exact Zbe (D6 (i:=2) (a:=3) (b:=4) hm rfl rfl rfl rfl rfl (by decide) rfl (by unfold I6;rw[if_neg (by assumption),if_neg (by assumption)]))
set_option maxRecDepth 100000
theorem Qk{m:Mch}{c:Int}:(X7 m c).read=m.read:=by unfold X7;split<;>rfl
theorem Aw{m:Mch}{c d:Int}:(Q9 m c d).read=m.read:=by unfold Q9;split<;>rfl
theorem Zab{m:Mch}{a:Int}:(Js m a).read=m.read:=by
 unfold Js;split
 ·rfl
 split<;>rfl
theorem Zad{m:Mch}:(Mb m).read=m.read:=by unfold Mb;split<;>rfl
theorem Zaa{m:Mch}{i:Ins}:(Yq m i).read=m.read:=by
 unfold Yq
 refine Ye (P:=fun x:Mch=>x.read=m.read) (fun _=>Qk) fun _=>?_
 refine Ye (P:=fun x:Mch=>x.read=m.read) (fun _=>Qk) fun _=>?_
 refine Ye (P:=fun x:Mch=>x.read=m.read) (fun _=>Qk) fun _=>?_
 refine Ye (P:=fun x:Mch=>x.read=m.read) (fun _=>Qk) fun _=>?_
 refine Ye (P:=fun x:Mch=>x.read=m.read) (fun _=>Ye (P:=fun x:Mch=>x.read=m.read) (fun _=>rfl) fun _=>rfl) fun _=>?_
 refine Ye (P:=fun x:Mch=>x.read=m.read) (fun _=>Aw) fun _=>?_
 refine Ye (P:=fun x:Mch=>x.read=m.read) (fun _=>Zab) fun _=>?_
 refine Ye (P:=fun x:Mch=>x.read=m.read) (fun _=>rfl) fun _=>?_
 refine Ye (P:=fun x:Mch=>x.read=m.read) (fun _=>Aw) fun _=>?_
 refine Ye (P:=fun x:Mch=>x.read=m.read) (fun _=>Zad) fun _=>?_
 refine Ye (P:=fun x:Mch=>x.read=m.read) (fun _=>Ye (P:=fun x:Mch=>x.read=m.read) (fun _=>rfl) fun _=>rfl) fun _=>?_
 refine Ye (P:=fun x:Mch=>x.read=m.read) (fun _=>rfl) fun _=>?_
 refine Ye (P:=fun x:Mch=>x.read=m.read) (fun _=>Ye (P:=fun x:Mch=>x.read=m.read) (fun _=>rfl) fun _=>rfl) fun _=>?_
 refine Ye (P:=fun x:Mch=>x.read=m.read) (fun _=>Ye (P:=fun x:Mch=>x.read=m.read) (fun _=>rfl) fun _=>Qk) fun _=>?_
 exact Ye (P:=fun x:Mch=>x.read=m.read) (fun _=>rfl) fun _=>rfl
theorem I0{p:Prg}:∀(n:Nat) (m:Mch),(U1 p n m).read=m.read
 |0,m=>by unfold U1;split<;>rfl
 |n+1,m=>by
  rw[U1]
  split
  ·split
   ·rw[I0 n,Zaa]
   ·rfl
  ·rfl
theorem I8{p:Prg}{f:Bool}{m:Mch}:(Uq p f m).read=m.read:=by
 unfold Uq
 split
 ·rfl
 split
 ·rfl
 ·exact I0 _ _
theorem Ll{m:Mch}:(Ws m).read=m.read:=by unfold Ws;split<;>rfl
theorem Av{m:Mch}{i:Ins}{b:Int}:(Vi m i b).read=m.read:=by
 unfold Vi
 refine Ye (P:=fun x:Mch=>x.read=m.read) (fun _=>Ll) fun _=>?_
 refine Ye (P:=fun x:Mch=>x.read=m.read) (fun _=>Ye (P:=fun x:Mch=>x.read=m.read) (fun _=>rfl) fun _=>Ye (P:=fun x:Mch=>x.read=m.read) (fun _=>rfl) fun _=>rfl) fun _=>?_
 refine Ye (P:=fun x:Mch=>x.read=m.read) (fun _=>Ye (P:=fun x:Mch=>x.read=m.read) (fun _=>Ll) fun _=>rfl) fun _=>?_
 refine Ye (P:=fun x:Mch=>x.read=m.read) (fun _=>Ye (P:=fun x:Mch=>x.read=m.read) (fun _=>rfl) fun _=>Ll) fun _=>?_
 exact Ll
theorem Zac{p:Prg}{f:Bool}{m:Mch}{b:Int}{n:Nat}(h:0≤m.read∧m.read≤n)(hn:n≤1000000):0≤(Qj p f m b).read∧(Qj p f m b).read≤(n+1:Nat):=by
 have ha:(Uq p f m).read=m.read:=I8
 have key:∀x:Mch,x.read=m.read∨x.read=w64 (m.read+1)→0≤x.read∧x.read≤(n+1:Nat):=fun x hx=>by
  rcases hx with e|e
  ·rw[e];omega
  ·rw[e,Wh (by omega)];omega
 refine key _ ?_
 unfold Qj
 split
 ·exact .inl ha
 split
 ·exact .inl ha
 unfold Bt
 split
 ·exact .inl ha
 unfold Uo
 split
 ·split
  ·exact .inl ha
  ·rw[Av];exact .inr (by show w64 (_+1)=_;rw[ha])
 ·rw[Av];exact .inr (by show w64 (_+1)=_;rw[ha])
theorem A7{p:Prg}{f:Bool}:∀(l:List UInt8) (m:Mch) (n:Nat),0≤m.read∧m.read≤n→n+l.length≤1000000→0≤(Qq p f m l).read∧(Qq p f m l).read≤(n+l.length:Nat)
 | [],m,n,h,_=>h
 |c::l,m,n,h,hl=>by
  rw[Za8]at hl ⊢
  have:=A7 (p:=p) (f:=f) l (Qj p f m (c.toNat:Int)) (n+1) (Zac h (by omega)) (by omega)
  rwa [show n+1+l.length=n+(l.length+1) by omega]at this
set_option maxHeartbeats 8000000 in
theorem T3(p:Prg)(l:List UInt8)(hB:PrgB p)(hl:l.length≤1048576):ACv Tryz.prog 11 [Tm p,Ya l] (.int (I6 (Uq p (Nc p) (Qq p (Nc p) m0 l)))):=by
 have h0:Uu m0:=⟨by decide,by decide⟩
 have hF:=(Lz p m0 l hB h0 hl).shut (r:=Pe (Qq p (Nc p) m0 l)) (by rintro _ rfl;exact Mt _)
 have hN:=(Q5 p (Qq p (Nc p) m0 l) hB (Nd l h0)).shut (r:=.tup [Pe (Uq p (Nc p) (Qq p (Nc p) m0 l)),.int (I6 (Uq p (Nc p) (Qq p (Nc p) m0 l)))]) (by
  rintro _ rfl
  simp only[Seals,Wc]
  exact⟨_,rfl,_,_,rfl,Mt _,_,_,rfl,rfl,rfl⟩)
 refine Zz Tryz.func11 rfl _ Tryz.ntmps11 (by simp) fun C hn hm=>?_
 repeat' (first
|refine Y0 (id:=1) 30 [8] [0,1,2,3,4,5,6,7,8,9] 10 [(9,40,[.int .i64 0,.int .i64 0,.slice none 0 0,.slice none 0 0,.int .i64 0,.bool false,.bool false,.int .i64 0,.int .i64 0,.int .i64 0])] Yc hn rfl (by kernel_rfl) rfl (by decide) (by decide) ?_
|refine RunsT.nil ?_
|refine RunsT.step Zk rfl rfl (fun _=>rfl) (by decide) ?_
|refine RunsT.pur (fun _=>Zi Jv rfl) (by decide) rfl rfl ?_
|refine RunsT.pur (fun _=>Zi hF rfl) (by decide) rfl rfl ?_
|refine RunsT.pur (fun _=>Zi hN rfl) (by decide) rfl rfl ?_
|refine RunsT.alloc (p:=0) rfl inferInstance ?_
|refine RunsT.alloc (p:=1) rfl inferInstance ?_
|refine Zbg Zk hn rfl ?_
|refine Zbh ?_
|refine Za 30 rfl ?_
|(refine Zbf 30 rfl ?_;first|refine Zbe (Zj hm rfl rfl ?_)|exact Zbe (Zf hm rfl rfl rfl (nbT rfl) rfl rfl))
|refine Zs rfl (tl hn rfl) ?_
|refine Zr rfl rfl rfl rfl (nbT rfl) ?_
  )
 exact Xu rfl
def Mo(z:Int)(u:List UInt8):Int:=u.foldl (fun z c=>(w64 (z+(c.toNat:Int))).tmod 256) z
def redF(r:Int)(u:List UInt8):Int:=u.foldl (fun r _=>w64 (r+1)) r
def Vj(m:Mch)(u:List UInt8):Mch:={m with sums:=m.sums.map fun z=>Mo z u,read:=redF m.read u}
theorem Eb(m:Mch):Vj m []=m:=by simp[Vj,Mo,redF]
theorem U2(m:Mch)(u v:List UInt8):Vj (Vj m u) v=Vj m (u++v):=by simp[Vj,Mo,redF,Function.comp_def]
noncomputable def fin(p:Prg)(m:Mch)(l:List UInt8):Mch:=Uq p true (l.foldl (fun m c=>Qj p true m (c.toNat:Int)) m)
def Bad(m:Mch):Prop:=m.state=2∧m.code=8
section
variable{p:Prg}{m:Mch}
theorem Ls{c:UInt8}{l:List UInt8}:fin p m (c::l)=fin p (Qj p true m (c.toNat:Int)) l:=rfl
theorem Nk(h:m.state≠0):Uq p true m=m:=by unfold Uq;rw[if_pos h]
theorem Vq(h:m.state=2):∀l,fin p m l=m
 | []=>Nk (m:=m) (by omega)
 |c::l=>by
  rw[Ls,show Qj p true m (c.toNat:Int)=m by unfold Qj;rw[Nk (by omega),if_neg (by omega),if_pos (by omega)]]
  exact Vq h l
theorem fin_adv{m':Mch}(e:Uq p true m=Uq p true m'):∀l,fin p m l=fin p m' l
 | []=>e
 |c::l=>by rw[Ls,Ls];unfold Qj;rw[e]
theorem fin_bad(h:Bad (Uq p true m)):∀l,Bad (fin p m l)
 | []=>h
 |c::l=>by
  have h1:=h.1
  rw[Ls,show Qj p true m (c.toNat:Int)=Uq p true m by unfold Qj;rw[if_neg (by omega),if_pos (by omega)],Vq h1]
  exact h
theorem I1:∀(n:Nat) (m:Mch),¬Bad (U1 p n m)→U1 p (n+1) m=U1 p n m
 |0,m,h=>by
  by_cases hr:Pa m
  ·exfalso;apply h;unfold U1;rw[if_pos hr];exact⟨rfl,rfl⟩
  ·rw[Vn hr,Vn hr]
 |n+1,m,h=>by
  by_cases hr:Pa m
  ·by_cases hi:Idx p m.pc
   ·have e:∀k,U1 p (k+1) m=U1 p k (Yq m (mAt p m)):=fun k=>by rw[U1,if_pos hr,if_pos hi]
    rw[e]at h
    rw[e,e]
    exact I1 n _ h
   ·have e:∀k,U1 p (k+1) m=X6 m 8:=fun k=>by rw[U1,if_pos hr,if_neg hi]
    rw[e,e]
  ·rw[Vn hr,Vn hr]
theorem Ry(hr:m.state=0)(hi:m.started=true→Idx p m.pc):Uq p true m=U1 p (100000+1) m:=by
 unfold Uq
 rw[if_neg (by omega),if_neg (by rintro(e|e);cases e;exact e.2 (hi e.1))]
theorem Hf{l:List UInt8}(hr:Pa m)(hi:Idx p m.pc)(hB:¬Bad (fin p m l)):fin p m l=fin p (Yq m (mAt p m)) l:=by
 refine fin_adv ?_ l
 have hb:¬Bad (Uq p true m):=fun h=>hB (fin_bad h l)
 have e1:Uq p true m=U1 p 100000 (Yq m (mAt p m)):=by rw[Ry hr.1 (fun _=>hi),U1,if_pos hr,if_pos hi]
 rw[e1]at hb ⊢
 by_cases hs:(Yq m (mAt p m)).state=0
 ·rw[Ry hs (I5 hr.2 hi),I1 _ _ hb]
 ·rw[Nk hs,Vn fun h=>hs h.1]
theorem Fq(h0:m.state=0)(h1:m.started=true)(hi:Idx p m.pc):Uq p true m=m:=by
 rw[Ry h0 fun _=>hi,Vn fun h=>by have:=h.2;rw[h1]at this;cases this]
theorem fin_byte{c:UInt8}{l:List UInt8}(h0:m.state=0)(h1:m.started=true)(hi:Idx p m.pc):fin p m (c::l)=fin p (Bt p m (c.toNat:Int)) l:=by
 rw[Ls]
 unfold Qj
 rw[Fq h0 h1 hi,if_neg (by omega),if_neg (by omega)]
theorem fin_wait(h0:m.state=0)(h1:m.started=true)(hi:Idx p m.pc):I6 (fin p m [])=1:=by
 show I6 (Uq p true m)=1
 rw[Fq h0 h1 hi]
 unfold I6
 rw[if_neg (by omega),if_pos h0]
end
abbrev Got:=Except Int Nat
def plus(k:Nat):Got→Got
 | .ok j=>.ok (k+j)
 | .error c=>.error c
def bnd(e:Got)(f:Nat→Got):Got:=match e with
 | .ok k=>plus k (f k)
 | .error c=>.error c
def rdS(f:Int→List UInt8→Got):List Int→List UInt8→Got
 | [],_=>.ok 0
 |z::zs,l=>bnd (f z l) fun k=>rdS f zs (l.drop k)
def rdI(n:Nat)(l:List UInt8):Got:=if l.length<n then .error 1 else .ok n
def H2:List UInt8→List UInt8→Got
 | [],_=>.ok 0
 |_::_,[]=>.error 1
 |a::u,c::l=>if c=a then plus 1 (H2 u l) else .error 2
def til(t:UInt8):List UInt8→Got
 | []=>.error 1
 |c::l=>if c=t then .ok 1 else if c=92 then(match l with
  | []=>.error 1
  |_::l'=>plus 2 (til t l')) else plus 1 (til t l)
def rdN(little:Bool)(u:List UInt8):Int:=(if little then u.reverse else u).foldl (fun n c=>n*256+(c.toNat:Int)) 0
def blank:Rul:=⟨⟨#[]⟩,0,0,false,[],[],[],[]⟩
def ru(d:Des)(z:Int):Rul:=(d[z.toNat]?).getD blank
def itL(x:Rul)(n:Int)(c:Nat):List Int:=(List.range c).map fun i:Nat=>Xb x n (i:Int)
def rdF(d:Des):Nat→Int→List UInt8→Got
 |0,_,_=>.error 8
 |n+1,z,l=>
  if(ru d z).kind=1∨(ru d z).kind=3 then rdI (ru d z).size.toNat l
  else if(ru d z).kind=2 then H2 (ru d z).bytes l
  else if(ru d z).kind=10 then til ((ru d z).bytes.headD 0) l
  else if(ru d z).kind=6 then rdS (rdF d n) (itL (ru d z) 0 (ru d z).kids.length) l
  else if(ru d z).kind=8 then(match l with
   | []=>.error 1
   |c::l'=>if 1<c.toNat then .error 4 else plus 1 (rdS (rdF d n) (itL (ru d z) 0 c.toNat) l'))
  else if(ru d z).kind=9 then bnd (rdS (rdF d n) (itL (ru d z) 0 1) l) (fun k=>match l.drop k with
   | []=>.error 1
   |c::_=>if(c.toNat:Int)=Mo 0 (l.take k) then .ok 1 else .error 5)
  else bnd (rdI (ru d ((ru d z).kids.headD 0)).size.toNat l) fun k=>
   if(ru d z).kind=4 then rdI (rdN (ru d ((ru d z).kids.headD 0)).little (l.take k)).toNat (l.drop k)
   else if(ru d z).kind=5 then(if 40<rdN (ru d ((ru d z).kids.headD 0)).little (l.take k) then .error 6 else rdS (rdF d n) (itL (ru d z) 0 (rdN (ru d ((ru d z).kids.headD 0)).little (l.take k)).toNat) (l.drop k))
   else if W7 (ru d z).tags (rdN (ru d ((ru d z).kids.headD 0)).little (l.take k))<(ru d z).tags.length then rdS (rdF d n) (itL (ru d z) (rdN (ru d ((ru d z).kids.headD 0)).little (l.take k)) 1) (l.drop k)
   else .error 3
theorem Qy(t c:UInt8)(l:List UInt8):til t (c::l)=if c=t then .ok 1 else if c=92 then(match l with
  | []=>.error 1
  |_::l'=>plus 2 (til t l')) else plus 1 (til t l):=by cases l<;>(conv=>lhs;unfold til)<;>rfl
theorem V4(d:Des)(n:Nat)(z:Int)(l:List UInt8)(x:Rul)(hx:ru d z=x):rdF d (n+1) z l =
  if x.kind=1∨x.kind=3 then rdI x.size.toNat l
  else if x.kind=2 then H2 x.bytes l
  else if x.kind=10 then til (x.bytes.headD 0) l
  else if x.kind=6 then rdS (rdF d n) (itL x 0 x.kids.length) l
  else if x.kind=8 then(match l with
   | []=>.error 1
   |c::l'=>if 1<c.toNat then .error 4 else plus 1 (rdS (rdF d n) (itL x 0 c.toNat) l'))
  else if x.kind=9 then bnd (rdS (rdF d n) (itL x 0 1) l) (fun k=>match l.drop k with
   | []=>.error 1
   |c::_=>if(c.toNat:Int)=Mo 0 (l.take k) then .ok 1 else .error 5)
  else bnd (rdI (ru d (x.kids.headD 0)).size.toNat l) fun k=>
   if x.kind=4 then rdI (rdN (ru d (x.kids.headD 0)).little (l.take k)).toNat (l.drop k)
   else if x.kind=5 then(if 40<rdN (ru d (x.kids.headD 0)).little (l.take k) then .error 6 else rdS (rdF d n) (itL x 0 (rdN (ru d (x.kids.headD 0)).little (l.take k)).toNat) (l.drop k))
   else if W7 x.tags (rdN (ru d (x.kids.headD 0)).little (l.take k))<x.tags.length then rdS (rdF d n) (itL x (rdN (ru d (x.kids.headD 0)).little (l.take k)) 1) (l.drop k)
   else .error 3:=by
 subst hx;rfl
def PosE(e:Got):Prop:=∀c,e = .error c→1≤c
theorem PosE.ok(k:Nat):PosE (.ok k):=fun c h=>by cases h
theorem PosE.err{c:Int}(h:1≤c):PosE (.error c):=fun c' h'=>by injection h' with h';omega
theorem PosE.plus{e:Got}(h:PosE e)(k:Nat):PosE (plus k e):=by
 cases e with
 |ok j=>exact .ok _
 |error c=>exact .err (h c rfl)
theorem PosE.bnd{e:Got}{f:Nat→Got}(h:PosE e)(hf:∀k,PosE (f k)):PosE (bnd e f):=by
 cases e with
 |ok k=>exact(hf k).plus k
 |error c=>exact .err (h c rfl)
theorem PosE.ite{c:Prop}[Decidable c]{a b:Got}(ha:PosE a)(hb:PosE b):PosE (if c then a else b):=by
 split
 ·exact ha
 ·exact hb
theorem Ps(n:Nat)(l:List UInt8):PosE (rdI n l):=.ite (.err (by decide)) (.ok _)
theorem N5{f:Int→List UInt8→Got}(h:∀z l,PosE (f z l)):∀zs l,PosE (rdS f zs l)
 | [],_=>.ok _
 |z::zs,l=>by rw[rdS];exact(h z l).bnd fun k=>N5 h zs _
theorem Fi:∀u l,PosE (H2 u l)
 | [],_=>.ok _
 |_::_,[]=>.err (by decide)
 |a::u,c::l=>by rw[H2];exact .ite ((Fi u l).plus 1) (.err (by decide))
theorem Pg(t:UInt8):∀(N:Nat) (l:List UInt8),l.length≤N→PosE (til t l)
 |_,[],_=>by rw[til];exact .err (by decide)
 |0,c::l,h=>by simp at h
 |N+1,c::l,h=>by
  rw[Za8]at h
  rw[Qy]
  refine .ite (.ok _) (.ite ?_ ((Pg t N l (by omega)).plus 1))
  cases l with
  |nil=>exact .err (by decide)
  |cons c2 l=>exact(Pg t N l (by rw[Za8]at h;omega)).plus 2
theorem rdF_pos(d:Des):∀(n:Nat) (z:Int) (l:List UInt8),PosE (rdF d n z l)
 |0,_,_=>by rw[rdF];exact .err (by decide)
 |n+1,z,l=>by
  have ih:=rdF_pos d n
  rw[V4 d n z l _ rfl]
  refine .ite (Ps _ _) (.ite (Fi _ _) (.ite (Pg _ _ _ (Nat.le_refl _)) (.ite (N5 ih _ _) (.ite ?_ (.ite ((N5 ih _ _).bnd fun k=>?_) ((Ps _ _).bnd fun k=>.ite (Ps _ _) (.ite (.ite (.err (by decide)) (N5 ih _ _)) (.ite (N5 ih _ _) (.err (by decide))))))))))
  ·cases l with
   |nil=>exact .err (by decide)
   |cons c l=>exact .ite (.err (by decide)) ((N5 ih _ _).plus 1)
  ·cases l.drop k with
   |nil=>exact .err (by decide)
   |cons c l=>exact .ite (.ok _) (.err (by decide))
theorem Kg(b:Bool)(u:List UInt8):0≤rdN b u:=by
 have h:∀(u:List UInt8) (n:Int),0≤n→0≤u.foldl (fun n c=>n*256+(c.toNat:Int)) n:=fun u=>by
  induction u with
  |nil=>exact fun n h=>h
  |cons c u ih=>exact fun n h=>ih (n*256+(c.toNat:Int)) (by omega)
 exact h _ 0 (Int.le_refl _)
theorem Sl(b:Bool)(u:List UInt8):rdN b u<256 ^ u.length:=by
 have h:∀(u:List UInt8) (n:Int) (k:Nat),n<256 ^ k→u.foldl (fun n c=>n*256+(c.toNat:Int)) n<256 ^ (k+u.length):=fun u=>by
  induction u with
  |nil=>exact fun n k h=>h
  |cons c u ih=>
   intro n k h
   have hc:=c.toNat_lt
   have:=ih (n*256+(c.toNat:Int)) (k+1) (by rw[Int.pow_succ];omega)
   rwa [show k+1+u.length=k+(c::u).length by simp;omega]at this
 have:=h (if b then u.reverse else u) 0 0 (by decide)
 rw[Nat.zero_add,show(if b=true then u.reverse else u).length=u.length by split<;>simp]at this
 exact this
section
variable{P:Program}{C:Ctx}{fn:Func}{R:RR→Prop}{S:St}
theorem Qb{xs:List ResultVar}{vs:List AV}{rs:List RV}(hm:∀b,¬C.mu b)(hr:fn.results=xs.toArray)(hn:xs.length≠1)(hx:J7 P S xs vs)(hR:R (.ro (.tup rs)))(hl:LendsL C S.σ vs rs):∀a w,Sim C S a w→R7 P C fn R a w:=by
 intro a w ⟨h1,h2,φ,hG,hH⟩
 obtain⟨us,k1,k2⟩:=Mu (P:=P) hG hH xs vs hx
 have hlen:∀(xs:List ResultVar) (vs:List AV),J7 P S xs vs→vs.length=xs.length:=by
  intro xs
  induction xs with
  |nil=>intro vs h;simp only[J7]at h;simp[h]
  |cons x xs ih=>intro vs h;simp only[J7]at h;obtain⟨v,vs',rfl,_,h⟩:=h;simp[ih vs' h]
 have hul:us.length≠1:=by rw[AV.rels_len vs us k2,hlen xs vs hx];exact hn
 have hrel:=hl.rels (m:=⟨w,φ,S.σ,C.ok⟩) (ok':=C.ok) hG rfl (fun b hb=>hb.1) (fun i g hi hg=>hG.frm.new g ((hG.mine i g hi hg).resolve_left (hm g))) us k2
 refine⟨h1,.tuple us.toArray,by rw[W3,hr];simp[List.mapM_toArray,k1,hul],.ro (.tup rs),[],hR,?_,by simp,by simp,hG.frm.below0 hm⟩
 simp only[RR.rel]
 exact⟨RV.rel_mono ⟨Nat.le_refl _,fun b _ hb=>⟨⟨hb,by simp⟩,rfl⟩⟩ (.tup rs) _ (by simp only[RV.rel];exact⟨_,rfl,hrel⟩),trivial⟩
end
section
variable{P:Program}{C:Ctx}{env:Env}{σ:List Ob}{t:Nat}{ty tt e:TypeId}{pos:String}{after:Array Edge}{gd:Option (Nat×Bool)}{sz bytes:Nat}{z:Value}{x y y':Operand}{kd kd':IntKind}{p q:Int}
theorem Q0{α:Type}{l:List α}{f:α→List RV}[hs:SL P tt e z sz bytes](hx:ev env x = .ro (.seq sz (l.map f)))(hy:ev env y = .ro (.c (.int kd p)))(hy':ev env y' = .ro (.c (.int kd' q)))(h0:0≤p)(h1:p≤q)(h2:q≤l.length):Pur P C ⟨some t,.slice tt x (some y) (some y') none,ty,pos,after,gd⟩ env σ (.ro (.seq sz (((l.drop p.toNat).take (q.toNat-p.toNat)).map f))):=by
 have h:=Pw (P:=P) (C:=C) (σ:=σ) (t:=t) (ty:=ty) (tt:=tt) (e:=e) (z:=z) (bytes:=bytes) (pos:=pos) (after:=after) (gd:=gd) hx hy hy' h0 h1 (by simpa using h2)
 rwa [←List.map_take,←List.map_drop,List.drop_take]at h
end
def RdOk(e:Got)(b:List UInt8)(a:Nat)(nx c:Int):Prop:=(∀k,e = .ok k→c=0∧nx=((a+k:Nat):Int)∧a+k≤b.length)∧(∀c',e = .error c'→c=c'∧c≠0)
theorem RdOk.good{k:Nat}{b:List UInt8}{a:Nat}(h:a+k≤b.length):RdOk (.ok k) b a ((a+k:Nat):Int) 0:=⟨fun k' hk'=>by simp at hk';subst hk';exact⟨rfl,rfl,h⟩,fun c hc=>by simp at hc⟩
theorem RdOk.bad{c nx:Int}{b:List UInt8}{a:Nat}(h:c≠0):RdOk (.error c) b a nx c:=⟨fun k hk=>by simp at hk,fun c' hc=>by simp at hc;exact⟨hc,h⟩⟩
set_option maxHeartbeats 4000000 in
theorem Br(lt:Bool)(u:List UInt8)(hu:u.length≤4):ACv Tryz.prog 102 [Ya u,.bool lt] (.int (rdN lt u)):=by
 obtain⟨w,hw⟩:∃w,w=(if lt then u.reverse else u):=⟨_,rfl⟩
 have hwl:w.length=u.length:=by rw[hw];split<;>simp
 have hrd:rdN lt u=w.foldl (fun n c=>n*256+(c.toNat:Int)) 0:=by rw[hw];rfl
 let S:Nat→Int:=fun j=>(w.take j).foldl (fun n c=>n*256+(c.toNat:Int)) 0
 have hS:∀j,j≤4→0≤S j∧S j<4294967296:=fun j hj=>by
  have h1:=Kg false (w.take j)
  have h2:=Sl false (w.take j)
  have h3:(256:Int) ^ (w.take j).length≤4294967296:=by
   rcases(show(w.take j).length=0∨(w.take j).length=1∨(w.take j).length=2∨(w.take j).length=3∨(w.take j).length=4 by rw[List.length_take];omega) with e|e|e|e|e<;>rw[e]<;>decide
  exact⟨h1,Int.lt_of_lt_of_le h2 h3⟩
 have hbl:(u.map fun z=>[RV.u8 z]).length=u.length:=lmT ..
 rw[hrd,show w.foldl (fun n c=>n*256+(c.toNat:Int)) 0=S u.length by show _=(w.take u.length).foldl _ 0;rw[←hwl,List.take_length]]
 refine Zz Tryz.func102 rfl _ Tryz.ntmps102 (by simp) fun C hn hm=>?_
 repeat' (first
|(refine Zc hn rfl rfl rfl ?_;first
|refine⟨_,Zu u.length rfl hbl,?_⟩)
|refine Zbg Zk hn rfl ?_
|refine Zbh ?_
|refine Za 30 rfl ?_
|(refine Zbf 30 rfl ?_;first|refine Zg rfl ?_|refine Zm rfl ?_|(refine Zd rfl ?_ ?_;·first|omega|rfl|assumption|(simp only[lmT];omega))|(refine Ze rfl ?_ ?_;·first|omega|rfl|assumption|(simp only[lmT];omega))|refine Zbe (Zj hm rfl rfl ?_)|exact Zbe (Zf hm rfl rfl rfl (nbT rfl) rfl rfl))
|(refine Zc hn rfl rfl rfl ?_;first
|refine⟨_,Zq rfl rfl (by omega),?_⟩
|refine⟨_,Zb rfl rfl (by omega) (by assumption),?_⟩
|refine⟨_,Z7 rfl rfl (by omega),?_⟩
|refine⟨_,Xj rfl rfl (by omega),?_⟩
   ))
 refine Yh 30 rfl (fun j=>[(0,.ro (Ya u)),(1,.bool lt),(5,.int (S j)),(6,.int (j:Int))]) (fun _=>[]) (fun _=>True) u.length 0 (Nat.zero_le _) trivial ⟨rfl,rfl,rfl,rfl,trivial⟩ rfl fun j hj _ next=>?_
 by_cases hlt:j<u.length
 ·have hwj:w[j]?=some _:=Za6 (by omega)
  generalize hc:w[j]=c at hwj
  have hSj:=hS j (by omega)
  have hcl:=c.toNat_lt
  have e:S (j+1)=S j*256+(c.toNat:Int):=by
   show(w.take (j+1)).foldl _ 0=_
   rw[List.take_add_one,hwj]
   simp[S]
  cases lt with
  |false=>
   have hcu:u[(j:Int).toNat]?=some c:=by rw[hw]at hwj;exact hwj
   repeat' (first
|(refine Zc hn rfl rfl rfl ?_;first
|refine⟨_,Zu u.length rfl hbl,?_⟩)
|refine Zbg Zk hn rfl ?_
|refine Zbh ?_
|refine Za 30 rfl ?_
|(refine Zc hn rfl rfl rfl ?_;first
|refine⟨_,Wv rfl,?_⟩
|refine⟨_,Xj rfl rfl (by omega),?_⟩
|refine⟨_,Zq rfl rfl (by omega),?_⟩)
|(refine Zbf 30 rfl ?_;first|refine Zg rfl ?_|refine Zm rfl ?_|(refine Zd rfl ?_ ?_;·first|omega|rfl|assumption|(simp only[lmT];omega))|(refine Ze rfl ?_ ?_;·first|omega|rfl|assumption|(simp only[lmT];omega))|refine Zbe (Zj hm rfl rfl ?_)|exact Zbe (Zf hm rfl rfl rfl (nbT rfl) rfl rfl))
|(refine Zc hn rfl rfl rfl ?_;first
|refine⟨_,Zq rfl rfl (by omega),?_⟩
|refine⟨_,Zb rfl rfl (by omega) (by assumption),?_⟩
|refine⟨_,Z7 rfl rfl (by omega),?_⟩
|refine⟨_,Xj rfl rfl (by omega),?_⟩
     ))
   exact next _ _ ⟨rfl,rfl,Vh e.symm,rfl,trivial⟩ hlt trivial rfl
  |true=>
   have hcu:u[((u.length:Int)-1-(j:Int)).toNat]?=some c:=by
    rw[hw]at hwj
    simp only[if_pos]at hwj
    rw[List.getElem?_reverse (by omega)]at hwj
    rw[show((u.length:Int)-1-(j:Int)).toNat=u.length-1-j by omega]
    exact hwj
   repeat' (first
|(refine Zc hn rfl rfl rfl ?_;first
|refine⟨_,Zu u.length rfl hbl,?_⟩)
|refine Zbg Zk hn rfl ?_
|refine Zbh ?_
|refine Za 30 rfl ?_
|(refine Zc hn rfl rfl rfl ?_;first
|refine⟨_,Wv rfl,?_⟩
|refine⟨_,Xj rfl rfl (by omega),?_⟩
|refine⟨_,Z7 rfl rfl (by omega),?_⟩
|refine⟨_,Zq rfl rfl (by omega),?_⟩)
|(refine Zbf 30 rfl ?_;first|refine Zg rfl ?_|refine Zm rfl ?_|(refine Zd rfl ?_ ?_;·first|omega|rfl|assumption|(simp only[lmT];omega))|(refine Ze rfl ?_ ?_;·first|omega|rfl|assumption|(simp only[lmT];omega))|refine Zbe (Zj hm rfl rfl ?_)|exact Zbe (Zf hm rfl rfl rfl (nbT rfl) rfl rfl))
|(refine Zc hn rfl rfl rfl ?_;first
|refine⟨_,Zq rfl rfl (by omega),?_⟩
|refine⟨_,Zb rfl rfl (by omega) (by assumption),?_⟩
|refine⟨_,Z7 rfl rfl (by omega),?_⟩
|refine⟨_,Xj rfl rfl (by omega),?_⟩
     ))
   exact next _ _ ⟨rfl,rfl,Vh e.symm,rfl,trivial⟩ hlt trivial rfl
 ·obtain rfl:j=u.length:=by omega
  repeat' (first
|(refine Zc hn rfl rfl rfl ?_;first
|refine⟨_,Zu u.length rfl hbl,?_⟩)
|refine Zbg Zk hn rfl ?_
|refine Zbh ?_
|refine Za 30 rfl ?_
|(refine Zbf 30 rfl ?_;first|refine Zg rfl ?_|refine Zm rfl ?_|(refine Zd rfl ?_ ?_;·first|omega|rfl|assumption|(simp only[lmT];omega))|(refine Ze rfl ?_ ?_;·first|omega|rfl|assumption|(simp only[lmT];omega))|refine Zbe (Zj hm rfl rfl ?_)|exact Zbe (Zf hm rfl rfl rfl (nbT rfl) rfl rfl))
|(refine Zc hn rfl rfl rfl ?_;first
|refine⟨_,Zq rfl rfl (by omega),?_⟩
|refine⟨_,Zb rfl rfl (by omega) (by assumption),?_⟩
|refine⟨_,Z7 rfl rfl (by omega),?_⟩
|refine⟨_,Xj rfl rfl (by omega),?_⟩
    ))
  exact Xu rfl
theorem sumF_snoc(z:Int)(u:List UInt8)(c:UInt8):Mo z (u++[c])=(w64 (Mo z u+(c.toNat:Int))).tmod 256:=by simp[Mo]
theorem sumF_bd:∀(u:List UInt8) (z:Int),0≤z∧z≤255→0≤Mo z u∧Mo z u≤255
 | [],z,h=>h
 |c::u,z,h=>by
  have hc:=c.toNat_lt
  have e:(w64 (z+(c.toNat:Int))).tmod 256=(z+(c.toNat:Int)) % 256:=by rw[Wh (by omega),Int.tmod_eq_emod_of_nonneg (by omega)]
  show 0≤Mo ((w64 (z+(c.toNat:Int))).tmod 256) u∧_
  exact sumF_bd u _ (by rw[e];omega)
set_option maxHeartbeats 4000000 in
theorem Pj(b:List UInt8)(hb:b.length≤1048576):ACv Tryz.prog 55 [Ya b] (.int (Mo 0 b)):=by
 have hbl:(b.map fun z=>[RV.u8 z]).length=b.length:=lmT ..
 rw[show Mo 0 b=Mo 0 (b.take b.length) by rw[List.take_length]]
 refine Zz Tryz.func55 rfl _ Tryz.ntmps55 (by simp) fun C hn hm=>?_
 repeat' (first
|refine Zbg Zk hn rfl ?_
|refine Zbh ?_
|refine Za 30 rfl ?_
|(refine Zbf 30 rfl ?_;first|(refine Zd rfl ?_ ?_;·first|omega|rfl|assumption|(simp only[lmT];omega))|(refine Ze rfl ?_ ?_;·first|omega|rfl|assumption|(simp only[lmT];omega))|refine Zbe (Zj hm rfl rfl ?_)|exact Zbe (Zf hm rfl rfl rfl (nbT rfl) rfl rfl))
|(refine Zc hn rfl rfl rfl ?_;first
|refine⟨_,Zq rfl rfl (by omega),?_⟩
|refine⟨_,Zb rfl rfl (by omega) (by assumption),?_⟩
   ))
 refine Yh 30 rfl (fun j=>[(0,.ro (Ya b)),(3,.int (Mo 0 (b.take j))),(4,.int (j:Int))]) (fun _=>[]) (fun _=>True) b.length 0 (Nat.zero_le _) trivial ⟨rfl,rfl,rfl,trivial⟩ rfl fun j hj _ next=>?_
 by_cases hlt:j<b.length
 ·obtain⟨c,hc⟩:∃c,b[(j:Int).toNat]?=some c:=⟨_,Za6 hlt⟩
  have hc':b[j]?=some c:=hc
  have hcl:=c.toNat_lt
  have hSj:=sumF_bd (b.take j) 0 (by omega)
  have e:Mo 0 (b.take (j+1))=(Mo 0 (b.take j)+(c.toNat:Int)) % 256:=by
   rw[List.take_add_one,hc']
   show Mo 0 (b.take j++[c])=_
   rw[sumF_snoc,Wh (by omega),Int.tmod_eq_emod_of_nonneg (by omega)]
  repeat' (first
|(refine Zc hn rfl rfl rfl ?_;first
|refine⟨_,Zu b.length rfl hbl,?_⟩)
|refine Zbg Zk hn rfl ?_
|refine Zbh ?_
|refine Za 30 rfl ?_
|(refine Zc hn rfl rfl rfl ?_;first
|refine⟨_,Wv rfl,?_⟩
|refine⟨_,Zq rfl rfl (by omega),?_⟩
|refine⟨_,Sn rfl rfl (by omega),?_⟩)
|(refine Zbf 30 rfl ?_;first|(refine Zd rfl ?_ ?_;·first|omega|rfl|assumption|(simp only[lmT];omega))|(refine Ze rfl ?_ ?_;·first|omega|rfl|assumption|(simp only[lmT];omega))|refine Zbe (Zj hm rfl rfl ?_)|exact Zbe (Zf hm rfl rfl rfl (nbT rfl) rfl rfl))
|(refine Zc hn rfl rfl rfl ?_;first
|refine⟨_,Zq rfl rfl (by omega),?_⟩
|refine⟨_,Zb rfl rfl (by omega) (by assumption),?_⟩
    ))
  exact next _ _ ⟨rfl,Vh e.symm,rfl,trivial⟩ hlt trivial rfl
 ·obtain rfl:j=b.length:=by omega
  repeat' (first
|(refine Zc hn rfl rfl rfl ?_;first
|refine⟨_,Zu b.length rfl hbl,?_⟩)
|refine Zbg Zk hn rfl ?_
|refine Zbh ?_
|refine Za 30 rfl ?_
|(refine Zbf 30 rfl ?_;first|(refine Zd rfl ?_ ?_;·first|omega|rfl|assumption|(simp only[lmT];omega))|(refine Ze rfl ?_ ?_;·first|omega|rfl|assumption|(simp only[lmT];omega))|refine Zbe (Zj hm rfl rfl ?_)|exact Zbe (Zf hm rfl rfl rfl (nbT rfl) rfl rfl))
|(refine Zc hn rfl rfl rfl ?_;first
|refine⟨_,Zq rfl rfl (by omega),?_⟩
|refine⟨_,Zb rfl rfl (by omega) (by assumption),?_⟩
    ))
  exact Xu rfl
set_option maxHeartbeats 4000000 in
theorem K4(d:Des)(z:Nat)(x:Rul)(hx:d[(z:Int).toNat]?=some x)(hs:0≤x.size∧x.size≤4)(b:List UInt8)(hb:b.length≤1048576)(a:Nat)(ha:a≤b.length) :
  ACv Tryz.prog 66 [X1 d,.int (z:Int),Ya b,.int (a:Int)] (.tup (if b.length-a<x.size.toNat then[.int 0,.int (a:Int),.bool false] else[.int (rdN x.little ((b.drop a).take x.size.toNat)),.int ((a:Int)+x.size),.bool true])):=by
 have hbl:(b.map fun z=>[RV.u8 z]).length=b.length:=lmT ..
 by_cases h:b.length-a<x.size.toNat
 ·rw[if_pos h]
  refine Zz Tryz.func66 rfl _ Tryz.ntmps66 (by simp) fun C hn hm=>?_
  repeat' (first
|((first|refine Zc hn rfl rfl rfl ?_|refine Zl rfl rfl ?_);first
|refine⟨_,Zu b.length rfl hbl,?_⟩)
|refine Zbg Zk hn rfl ?_
|refine Zbh ?_
|refine Za 30 rfl ?_
|((first|refine Zc hn rfl rfl rfl ?_|refine Zl rfl rfl ?_);first
|refine⟨_,Z7 rfl rfl (by omega),?_⟩)
|(refine Zbf 30 rfl ?_;first|(refine Zd rfl ?_ ?_;·first|omega|rfl|assumption|(simp only[lmT];omega))|(refine Ze rfl ?_ ?_;·first|omega|rfl|assumption|(simp only[lmT];omega))|refine Zbe (Zj hm rfl rfl ?_)|exact Zbe (Zf hm rfl rfl rfl (nbT rfl) rfl rfl))
|refine Zs rfl (tl hn rfl) ?_
|refine Zx (tl hn rfl) ?_
|refine Zr rfl rfl rfl rfl (nbT rfl) ?_
|refine Zbi Zk hn rfl rfl ?_
|refine Zbj ?_
|refine Zo 30 Yc hn rfl (by kernel_rfl) rfl ?_
|((first|refine Zc hn rfl rfl rfl ?_|refine Zl rfl rfl ?_);first
|refine⟨_,Zq rfl rfl (by omega),?_⟩
|refine⟨_,Zb rfl rfl (by omega) (by assumption),?_⟩
|refine⟨_,Z7 rfl rfl (by omega),?_⟩))
  exact Zbe (Qb hm (xs:=[.tmp 8,.tmp 9,.tmp 10]) rfl (by simp) ⟨_,_,rfl,rfl,_,_,rfl,rfl,_,_,rfl,rfl,rfl⟩ rfl (Yv [.int 0,.int (a:Int),.bool false]))
 ·rw[if_neg h]
  have hR:=Br x.little ((b.drop a).take x.size.toNat) (by rw[List.length_take];omega)
  have hR':ACv Tryz.prog 102 [Ya ((b.drop a).take (((a:Int)+x.size).toNat-a)),.bool x.little] (.int (rdN x.little ((b.drop a).take x.size.toNat))):=by
   rw[show((a:Int)+x.size).toNat-a=x.size.toNat by omega];exact hR
  refine Zz Tryz.func66 rfl _ Tryz.ntmps66 (by simp) fun C hn hm=>?_
  repeat' (first
|((first|refine Zc hn rfl rfl rfl ?_|refine Zl rfl rfl ?_);first
|refine⟨_,Zu b.length rfl hbl,?_⟩)
|refine Zbg Zk hn rfl ?_
|refine Zbh ?_
|refine Za 30 rfl ?_
|((first|refine Zc hn rfl rfl rfl ?_|refine Zl rfl rfl ?_);first
|refine⟨_,Z7 rfl rfl (by omega),?_⟩
|refine⟨_,Q0 rfl rfl rfl (by omega) (by omega) (by omega),?_⟩
|refine⟨_,Zi hR' rfl,?_⟩)
|(refine Zbf 30 rfl ?_;first|(refine Zd rfl ?_ ?_;·first|omega|rfl|assumption|(simp only[lmT];omega))|(refine Ze rfl ?_ ?_;·first|omega|rfl|assumption|(simp only[lmT];omega))|refine Zbe (Zj hm rfl rfl ?_)|exact Zbe (Zf hm rfl rfl rfl (nbT rfl) rfl rfl))
|refine Zs rfl (tl hn rfl) ?_
|refine Zx (tl hn rfl) ?_
|refine Zr rfl rfl rfl rfl (nbT rfl) ?_
|refine Zbi Zk hn rfl rfl ?_
|refine Zbj ?_
|refine Zo 30 Yc hn rfl (by kernel_rfl) rfl ?_
|((first|refine Zc hn rfl rfl rfl ?_|refine Zl rfl rfl ?_);first
|refine⟨_,Zq rfl rfl (by omega),?_⟩
|refine⟨_,Zb rfl rfl (by omega) (by assumption),?_⟩
|refine⟨_,Z7 rfl rfl (by omega),?_⟩))
  exact Zbe (Qb hm (xs:=[.tmp 8,.tmp 9,.tmp 10]) rfl (by simp) ⟨_,_,rfl,rfl,_,_,rfl,rfl,_,_,rfl,rfl,rfl⟩ rfl (Yv [.int (rdN x.little ((b.drop a).take x.size.toNat)),.int ((a:Int)+x.size),.bool true]))
theorem Y1{C:Ctx}{fn:Func}{R:RR→Prop}{S:St}{p q r i:Nat}{tt:TypeId}{nx c:Int}{v:Tre}{cs:List AV}(hm:∀b,¬C.mu b)(hr:fn.results=#[.cell p 36,.tmp q,.tmp r])(h1:look S.env p = .obj i 0)(h2:S.σ[i]?=some ⟨tt,0,cs⟩)(hl:cs.length=3)(hq:look S.env q = .int nx)(hc:look S.env r = .int c)
  (hL:LendsL C S.σ cs [.int v.number,Ya v.bytes,X3 v.items]) (hR:R (.ro (.tup [Gj v,.int nx,.int c]))):∀a w,Sim C S a w→R7 Tryz.prog C fn R a w:=
 Qb hm (xs:=[.cell p 36,.tmp q,.tmp r]) hr (by simp) (vs:=[.agg cs,.int nx,.int c]) ⟨_,_,rfl,⟨i,0,_,h1,h2,.inr ⟨3,inferInstance,by show 0+3≤cs.length;omega,by show _=AV.agg ((cs.drop 0).take 3);rw[List.drop_zero,←hl,List.take_length]⟩⟩,_,_,rfl,hq.symm,_,_,rfl,hc.symm,rfl⟩ hR (.cons (by
  have:=Lends.agg hL
  exact this) (Yv [.int nx,.int c]))
theorem Y6{C:Ctx}{σ:List Ob}:LendsL C σ [.int 0,.nil,.nil] [.int (Tre.mk 0 [] []).number,Ya (Tre.mk 0 [] []).bytes,X3 (Tre.mk 0 [] []).items]:=.cons .ro (.cons (Lends.nil 1) (.cons (Lends.nil 3) .nil))
def cR(b:List UInt8)(a:Nat):List UInt8→Nat→Int×Int
 | [],p=>((p:Int),0)
 |c::u,p=>if b.length≤p then((a:Int),1) else if b[p]?=some c then cR b a u (p+1) else((p:Int),2)
theorem Mi{b:List UInt8}{p:Nat}{c:UInt8}(h:b[p]?=some c):b.drop p=c::b.drop (p+1):=by
 have hp:=(Za5.1 h)
 rw[List.drop_eq_getElem_cons hp.1,hp.2]
theorem cR_ok(b:List UInt8)(a:Nat):∀(u:List UInt8) (p:Nat),p≤b.length→RdOk (H2 u (b.drop p)) b p (cR b a u p).1 (cR b a u p).2
 | [],p,hp=>.good (k:=0) (by omega)
 |c::u,p,hp=>by
  rw[cR]
  by_cases h:b.length≤p
  ·rw[if_pos h,List.drop_eq_nil_of_le h]
   exact .bad (by decide)
  ·rw[if_neg h]
   have hb:b[p]?=some _:=Za6 (by omega)
   generalize b[p]'(by omega)=x at hb
   rw[hb,Mi hb]
   by_cases e:x=c
   ·subst e
    rw[if_pos rfl,H2,if_pos rfl]
    have ih:=cR_ok b a u (p+1) (by omega)
    cases h1:H2 u (b.drop (p+1)) with
    |error c'=>exact⟨fun k hk=>by simp[plus]at hk,fun c2 hc=>by simp[plus]at hc;subst hc;exact ih.2 _ h1⟩
    |ok k=>
     obtain⟨q1,q2,q3⟩:=ih.1 k h1
     refine⟨fun k' hk'=>?_,fun c2 hc=>by simp[plus]at hc⟩
     simp[plus]at hk';subst hk'
     exact⟨q1,by rw[q2];omega,by omega⟩
   ·rw[if_neg (fun e'=>e (by injection e')),H2,if_neg e]
    exact .bad (by decide)
structure Pos (d:Des) (m:Mch) (b i:Nat) (y:Ins):Prop where
 hb:b<d.length
 hy:(blk d b)[i]?=some y
 pos:m.pc=(stA d b:Int)+(i:Int)
 st:m.state=0
def M5(m:Mch)(a:Int)(S:List Int)(g lf:Int):Mch:={m with pc:=a,stack:=S,register:=g,left:=lf}
theorem N9{m:Mch}{u:List UInt8}{a:Int}{S:List Int}{g lf:Int}(h:m.started=false):M5 (Vj m u) a S g lf=M5 (Vj {m with started:=false} u) a S g lf:=by rw[←h]
structure Rest (m:Mch):Prop where
 st:m.state=0
 started:m.started=false
 escaped:m.escaped=false
def SmR(d:Des)(m:Mch)(l:List UInt8)(e:Got)(a:Int)(S:List Int)(q:Int→Nat→Prop):Prop:=
 (∀k,e = .ok k→k≤l.length∧∃g lf,q g k∧fin (cdF d) m l=fin (cdF d) (M5 (Vj m (l.take k)) (a) (S) (g) (lf)) (l.drop k)) ∧
 (∀c,e = .error c→I6 (fin (cdF d) m l)=c)
theorem Gc{d:Des}{m m1:Mch}{l:List UInt8}{e:Got}{a:Int}{S:List Int}{q:Int→Nat→Prop}(h:fin (cdF d) m l=fin (cdF d) m1 l)(hs:SmR d m1 l e a S q)(h1:∀u g lf,(M5 (Vj m1 u) (a) (S) (g) (lf))=(M5 (Vj m u) (a) (S) (g) (lf))):SmR d m l e a S q:=by
 refine⟨fun k hk=>?_,fun c hc=>by rw[h];exact hs.2 c hc⟩
 obtain⟨hl,g,lf,hq,hf⟩:=hs.1 k hk
 exact⟨hl,g,lf,hq,by rw[h,hf,h1]⟩
theorem SmR.mono{d:Des}{m:Mch}{l:List UInt8}{e:Got}{a:Int}{S:List Int}{q q':Int→Nat→Prop}(hs:SmR d m l e a S q)(h:∀g k,q g k→q' g k):SmR d m l e a S q':=by
 refine⟨fun k hk=>?_,hs.2⟩
 obtain⟨hl,g,lf,hq,hf⟩:=hs.1 k hk
 exact⟨hl,g,lf,h _ _ hq,hf⟩
theorem SmR.then_{d:Des}{m:Mch}{l:List UInt8}{e:Got}{f:Nat→Got}{a a':Int}{S S':List Int}{q q':Int→Nat→Prop}(h1:SmR d m l e a S q)
  (h2:∀k g lf,e = .ok k→k≤l.length→q g k→fin (cdF d) m l=fin (cdF d) (M5 (Vj m (l.take k)) (a) (S) (g) (lf)) (l.drop k) →
   SmR d (M5 (Vj m (l.take k)) (a) (S) (g) (lf)) (l.drop k) (f k) a' S' fun g' k'=>q' g' (k+k')):SmR d m l (bnd e f) a' S' q':=by
 unfold bnd
 cases e with
 |error c=>exact⟨fun k hk=>by simp at hk,fun c' hc=>by simp at hc;subst hc;exact h1.2 c rfl⟩
 |ok k=>
  obtain⟨hl,g,lf,hq,hf⟩:=h1.1 k rfl
  have h3:=h2 k g lf rfl hl hq hf
  simp only
  unfold plus
  cases hfk:f k with
  |error c=>
   rw[hfk]at h3
   exact⟨fun k hk=>by simp at hk,fun c' hc=>by simp at hc;subst hc;rw[hf];exact h3.2 c rfl⟩
  |ok j=>
   rw[hfk]at h3
   refine⟨fun k' hk=>?_,fun c hc=>by simp at hc⟩
   simp at hk;subst hk
   obtain⟨hl',g',lf',hq',hf'⟩:=h3.1 j rfl
   rw[List.length_drop]at hl'
   refine⟨by omega,g',lf',hq',?_⟩
   rw[hf,hf',List.drop_drop,List.take_add,←U2]
   rfl
section
variable{d:Des}(hD:DrawD d)
include hD
theorem Pos.ins{m:Mch}{b i:Nat}{y:Ins}(h:Pos d m b i y):mAt (cdF d) m=y∧Idx (cdF d) m.pc:=by
 have hc:=(Qh hD h.hb h.hy m.pc h.pos).1
 have:=(Za5.1 hc).1
 have hp:=h.pos
 exact⟨by unfold mAt;rw[hc];rfl,by unfold Idx;omega⟩
theorem Pos.small{m:Mch}{b i:Nat}{y:Ins}(h:Pos d m b i y):w64 (m.pc+1)=(stA d b:Int)+((i+1:Nat):Int):=by
 have hb:=h.hb
 have h1:=Ex hD b (by omega)
 have h2:=hD.most
 have h3:=J3 hD hb
 have h4:=(Za5.1 h.hy).1
 rw[h.pos,Wh (by omega)];omega
theorem mgo{m:Mch}{b i:Nat}{y:Ins}{l:List UInt8}(h:Pos d m b i y)(hs:m.started=false)(hB:¬Bad (fin (cdF d) m l)):fin (cdF d) m l=fin (cdF d) (Yq m y) l:=by
 obtain⟨e,hi⟩:=h.ins hD
 have:=Hf ⟨h.st,hs⟩ hi hB
 rwa [e]at this
theorem meat{m:Mch}{b i:Nat}{y:Ins}{c:UInt8}{l:List UInt8}(h:Pos d m b i y)(hs:m.started=true)(h1:y.op=1→InR m.left 1 y.a)(h15:y.op=15→m.sums.length≠0):fin (cdF d) m (c::l)=fin (cdF d) (Uo m y (c.toNat:Int)) l:=by
 obtain⟨e,hi⟩:=h.ins hD
 rw[fin_byte h.st hs hi]
 unfold Bt
 rw[e,if_neg]
 rintro(⟨a,b⟩|⟨a,b⟩)
 ·exact b (h1 a)
 ·exact h15 a b
theorem G0{m:Mch}{b i:Nat}{y:Ins}(h:Pos d m b i y)(hs:m.started=true):I6 (fin (cdF d) m [])=1:=fin_wait h.st hs (h.ins hD).2
theorem ret_go{m:Mch}{b i:Nat}{y:Ins}{l:List UInt8}{S:List Int}{a:Int}(h:Pos d m b i y)(ho:y.op=10)(hs:m.started=false)(hS:m.stack=S++[a])(hB:¬Bad (fin (cdF d) m l)):fin (cdF d) m l=fin (cdF d) {m with pc:=a,stack:=S} l:=by
 have hlen:m.stack.length-1=S.length:=by rw[hS];simp
 have htop:H1 m=a:=by unfold H1;rw[hlen,hS];simp
 have hdrop:m.stack.take (m.stack.length-1)=S:=by rw[hlen,hS,List.take_left]
 have e:Yq m y={m with pc:=a,stack:=S}:=by
  rw[show Yq m y=Mb m by simp[Yq,ho]]
  unfold Mb Jt
  rw[if_neg (by rw[hS];simp),htop,hdrop]
 rw[mgo hD h hs hB,e]
theorem SmR.ret{m:Mch}{b i k:Nat}{l:List UInt8}{S:List Int}{a g lf:Int}{q:Int→Nat→Prop}{y:Ins}(hR:Rest m)(hb:b<d.length)(hy:(blk d b)[i]?=some y)(ho:y.op=10)(hB:¬Bad (fin (cdF d) m l))(hk:k≤l.length)(hq:q g k)
  (hf:fin (cdF d) m l=fin (cdF d) (M5 (Vj m (l.take k)) ((stA d b:Int)+(i:Int)) (S++[a]) (g) (lf)) (l.drop k)):SmR d m l (.ok k) a S q:=by
 refine⟨fun k' hk'=>?_,fun c hc=>by simp at hc⟩
 simp at hk';subst hk'
 refine⟨hk,g,lf,hq,?_⟩
 rw[hf]at hB ⊢
 rw[ret_go hD (m:=M5 (Vj m (l.take k)) ((stA d b:Int)+(i:Int)) (S++[a]) g lf) (b:=b) (i:=i) (y:=y) (S:=S) (a:=a) ⟨hb,hy,rfl,hR.st⟩ ho hR.started rfl hB]
 rfl
def Us(d:Des)(n:Nat)(z:Nat):Prop:=∀(m:Mch) (l:List UInt8) (S:List Int) (a:Int),Rest m→m.pc=(stA d z:Int)→m.stack=S++[a]→¬Bad (fin (cdF d) m l) →
 SmR d m l (rdF d n (z:Int) l) a S fun g k=>(ru d z).kind=1→g=rdN (ru d z).little (l.take k)
theorem Ru{n z:Nat}(IH:Us d n z){m:Mch}{b i:Nat}{y:Ins}{l:List UInt8}(h:Pos d m b i y)(hR:Rest m)(ho:y.op=9)(ha:y.a=(stA d z:Int))(hB:¬Bad (fin (cdF d) m l)) :
  SmR d m l (rdF d n (z:Int) l) ((stA d b:Int)+((i+1:Nat):Int)) m.stack fun g k=>(ru d z).kind=1→g=rdN (ru d z).little (l.take k):=by
 have e:=mgo hD h hR.started hB
 have e1:Yq m y=Q9 m (w64 (m.pc+1)) y.a:=by simp[Yq,ho]
 rw[e1]at e
 unfold Q9 at e
 by_cases h60:60≤m.stack.length
 ·rw[if_pos h60,Vq (m:=X6 m 8) rfl]at e
  exact absurd (by rw[e];exact⟨rfl,rfl⟩) hB
 ·rw[if_neg h60,h.small hD]at e
  refine Gc e (IH _ l m.stack _ ⟨h.st,hR.started,hR.escaped⟩ ha rfl (by rw[←e];exact hB)) fun u g lf=>rfl
theorem Hp{n b:Nat}(hb:b<d.length):∀(zs:List Int) (i:Nat) (m:Mch) (l:List UInt8),(∀(j:Nat) z,zs[j]?=some z→∃q:Nat,z=q∧Us d n q∧∃y,(blk d b)[i+j]?=some y∧y.op=9∧y.a=(stA d q:Int))→Rest m→m.pc=(stA d b:Int)+(i:Int)→¬Bad (fin (cdF d) m l) →
  SmR d m l (rdS (rdF d n) zs l) ((stA d b:Int)+((i+zs.length:Nat):Int)) m.stack fun _ _=>True
 | [],i,m,l,_,_,ha,_=>by
  refine⟨fun k hk=>?_,fun c hc=>by simp[rdS]at hc⟩
  simp[rdS]at hk;subst hk
  exact⟨Nat.zero_le _,m.register,m.left,trivial,by rw[List.take_zero,Eb,List.drop_zero,Za9,Nat.add_zero,←ha];rfl⟩
 |z::zs,i,m,l,hz,hR,ha,hB=>by
  obtain⟨q,rfl,hI,y,hy,ho,hya⟩:=hz 0 z rfl
  rw[rdS]
  refine SmR.then_ (Ru hD hI ⟨hb,hy,ha,hR.st⟩ hR ho hya hB) fun k g lf hk hl hq hf=>?_
  have:=Hp hb zs (i+1) (M5 (Vj m (l.take k)) ((stA d b:Int)+((i+0+1:Nat):Int)) (m.stack) (g) (lf)) (l.drop k) (fun j z hj=>by
   obtain⟨q,h1,h2,y,h3,h4⟩:=hz (j+1) z (by simpa using hj)
   exact⟨q,h1,h2,y,by rwa [show i+1+j=i+(j+1) by omega],h4⟩) ⟨hR.st,hR.started,hR.escaped⟩ rfl (by rw[←hf];exact hB)
  rw[show i+((q:Int)::zs).length=i+1+zs.length by simp;omega]
  exact this
theorem Pk{b i:Nat}{y:Ins}(ho:y.op=3∨y.op=4):∀(t:Nat) (m:Mch) (l:List UInt8),Pos d m b i y→m.started=true→m.escaped=false→m.left=(t+1:Nat)→t≤100000000 →
  (l.length<t+1→I6 (fin (cdF d) m l)=1)∧(t+1≤l.length→fin (cdF d) m l=fin (cdF d) {Vj m (l.take (t+1)) with pc:=(stA d b:Int)+((i+1:Nat):Int),started:=false,left:=0} (l.drop (t+1)))
 |t,m,[],hP,hs,_,_,_=>⟨fun _=>G0 hD hP hs,fun h=>by simp at h⟩
 |t,m,c::l,hP,hs,he,hl,ht=>by
  have e:=meat hD (c:=c) (l:=l) hP hs (fun e=>by omega) (fun e=>by omega)
  have e2:Uo m y (c.toNat:Int)=Ws (Yi m (c.toNat:Int)):=by
   unfold Uo Vi
   rcases ho with o|o<;>simp[o]
  have e3:(Yi m (c.toNat:Int)).left=t:=by show w64 (m.left-1)=_;rw[hl,Wh (by omega)];omega
  rw[e,e2]
  unfold Ws
  rw[e3]
  cases t with
  |zero=>
   rw[if_pos (by rfl)]
   refine⟨fun h=>by simp at h,fun _=>?_⟩
   rw[show w64 ((Yi m (c.toNat:Int)).pc+1)=_ from hP.small hD]
   simp only[List.take_succ_cons,List.take_zero,List.drop_succ_cons,List.drop_zero]
   rfl
  |succ t=>
   rw[if_neg (by omega)]
   have ih:=Pk ho t (Yi m (c.toNat:Int)) l ⟨hP.hb,hP.hy,hP.pos,hP.st⟩ hs he e3 (by omega)
   refine⟨fun h=>ih.1 (by simp at h;omega),fun h=>?_⟩
   rw[ih.2 (by simp at h;omega),List.take_succ_cons,List.drop_succ_cons]
   congr 1
   show _=({Vj m ([c]++l.take (t+1)) with pc:=_,started:=false,left:=0}:Mch)
   rw[←U2]
   rfl
end
theorem Qx{d:Des}{j:Nat}{x:Rul}(h:d[j]?=some x):ru d (j:Int)=x:=by unfold ru;rw[Int.toNat_natCast,h];rfl
theorem G8(x:Rul)(n:Int)(c:Nat):(itL x n c).length=c:=by simp[itL]
theorem S4{x:Rul}{n:Int}{c i:Nat}{z:Int}(h:(itL x n c)[i]?=some z):i<c∧z=Xb x n (i:Int):=by
 have hi:=(Za5.1 h).1
 rw[G8]at hi
 unfold itL at h
 rw[List.getElem?_map,List.getElem?_range hi]at h
 simp at h
 exact⟨hi,h.symm⟩
section
variable{d:Des}(hD:DrawD d)
include hD
theorem en_at{j:Nat}{z:Int}(hz:0≤z∧z<j):Y4 (cdE d j) z=⟨9,(stA d z.toNat:Int),0⟩:=by
 unfold Y4
 rw[O3 d j z.toNat (by omega)];rfl
theorem s_bd{b:Nat}(hb:b<d.length):(stA d b:Int)≤62:=by
 have h1:=Ex hD b (by omega)
 have h2:=hD.most
 omega
theorem G9{m:Mch}{b i t:Nat}{y:Ins}{c:UInt8}{l:List UInt8}(hP:Pos d m b i y)(hs:m.started=true)(ho:y.op=1)(hl:m.left=(t+1:Nat))(ht:(t:Int)+1≤y.a)(ha:y.a≤3) :
  fin (cdF d) m (c::l)=fin (cdF d) (if t=0 then {Vj m [c] with pc:=(stA d b:Int)+((i+1:Nat):Int),started:=false,left:=0,register:=if y.b=1 then w64 (m.register+(c.toNat:Int)*2 ^ (8*(y.a-(t:Int)-1)).toNat) else w64 (w64 (256*m.register)+(c.toNat:Int))}
   else {Vj m [c] with left:=(t:Int),register:=if y.b=1 then w64 (m.register+(c.toNat:Int)*2 ^ (8*(y.a-(t:Int)-1)).toNat) else w64 (w64 (256*m.register)+(c.toNat:Int))}) l:=by
 have e3:w64 (m.left-1)=t:=by rw[hl,Wh (by omega)];omega
 rw[meat hD hP hs (fun _=>by unfold InR;omega) (fun e=>by omega)]
 have e2:Uo m y (c.toNat:Int)=Ws {Yi m (c.toNat:Int) with register:=if y.b=1 then w64 ((Yi m (c.toNat:Int)).register+(c.toNat:Int)*2 ^ (8*(y.a-(Yi m (c.toNat:Int)).left-1)).toNat) else w64 (w64 (256*(Yi m (c.toNat:Int)).register)+(c.toNat:Int))}:=by
  unfold Uo Vi
  rw[if_neg (by omega),if_pos ho]
 rw[e2]
 unfold Ws Yi
 simp only[e3]
 by_cases h0:t=0
 ·subst h0
  rw[if_pos rfl,if_pos (by rfl),hP.small hD]
  rfl
 ·rw[if_neg (by omega),if_neg h0]
  rfl
theorem int_sm{n j:Nat}{x:Rul}(hx:d[j]?=some x)(hk:x.kind=1)(hs:1≤x.size∧x.size≤3):Us d (n+1) j:=by
 intro m l S a hR hat hS hB
 have hj:=(Za5.1 hx).1
 have hL:blk d j=[⟨1,x.size,if x.little=true then 1 else 0⟩,⟨10,0,0⟩]:=by rw[Wr hD hx];unfold Xh Y7;rw[if_pos hk];rfl
 have hrd:rdF d (n+1) (j:Int) l=rdI x.size.toNat l:=by rw[V4 d n _ l x (Qx hx),if_pos (.inl hk)]
 rw[hrd,Qx hx]
 have hy0:(blk d j)[0]?=some ⟨1,x.size,if x.little=true then 1 else 0⟩:=by rw[hL];rfl
 have hy1:(blk d j)[1]?=some ⟨10,0,0⟩:=by rw[hL];rfl
 have hg:=mgo hD (i:=0) ⟨hj,hy0,by rw[hat];simp,hR.st⟩ hR.started hB
 have e1:Yq m ⟨1,x.size,if x.little=true then 1 else 0⟩={m with register:=0,started:=true,left:=x.size}:=by simp only[Yq,if_pos,X7];rw[if_neg (by omega)]
 rw[e1]at hg
 have hw:∀z:Int,0≤z→z<16777216→w64 z=z:=fun z h1 h2=>Wh (by omega)
 have hend:∀(u r:List UInt8) (M:Mch),l=u++r→(∃lf,fin (cdF d) m l=fin (cdF d) (M5 (Vj m u) ((stA d j:Int)+(1:Nat)) (S++[a]) (rdN x.little u) (lf)) r)→u.length=x.size.toNat →
   SmR d m l (rdI x.size.toNat l) a S fun g k=>x.kind=1→g=rdN x.little (l.take k):=fun u r _ hl ⟨lf,hf⟩ hu=>by
  have e:rdI x.size.toNat l = .ok u.length:=by unfold rdI;rw[if_neg (by rw[hl,Za7];omega),hu]
  rw[e]
  have ht:l.take u.length=u:=by rw[hl,List.take_left]
  have hd:l.drop u.length=r:=by rw[hl,List.drop_left]
  exact SmR.ret hD (i:=1) (g:=rdN x.little u) (lf:=lf) hR hj hy1 rfl hB (by rw[hl];simp) (fun _=>by rw[ht]) (by rw[ht,hd];exact hf)
 have hshort:l.length<x.size.toNat→I6 (fin (cdF d) m l)=1→SmR d m l (rdI x.size.toNat l) a S fun g k=>x.kind=1→g=rdN x.little (l.take k):=fun h1 h2=>by
  unfold rdI
  rw[if_pos h1]
  exact⟨fun k hk=>by simp at hk,fun c hc=>by simp at hc;subst hc;exact h2⟩
 obtain⟨N,hN⟩:∃N:Nat,x.size=(N:Int):=⟨x.size.toNat,by omega⟩
 have hc255:∀c:UInt8,(0:Int)≤c.toNat∧(c.toNat:Int)≤255:=fun c=>by have:=c.toNat_lt;omega
 have hbt:(⟨1,x.size,if x.little=true then 1 else 0⟩:Ins).b=1↔x.little=true:=by
  simp only
  split
  ·rename_i h;simp[h]
  ·rename_i h;simp[h]
 cases l with
 |nil=>exact hshort (by simp;omega) (by rw[hg];exact G0 hD (b:=j) (i:=0) ⟨hj,hy0,by show m.pc=_;rw[hat];simp,hR.st⟩ rfl)
 |cons c1 l=>
 have b1:=G9 hD (b:=j) (i:=0) (t:=N-1) (m:={m with register:=0,started:=true,left:=x.size}) (c:=c1) (l:=l) ⟨hj,hy0,by show m.pc=_;rw[hat];simp,hR.st⟩ rfl rfl (by show x.size=_;omega) (by show((N-1:Nat):Int)+1≤x.size;omega) hs.2
 rw[b1]at hg
 have h1:=hc255 c1
 by_cases n1:N=1
 ·subst n1
  rw[if_pos rfl]at hg
  refine hend [c1] l m rfl ⟨0,?_⟩ (by simp;omega)
  rw[hg]
  congr 1
  have er:(if(⟨1,x.size,if x.little=true then 1 else 0⟩:Ins).b=1 then w64 ((0:Int)+(c1.toNat:Int)*2 ^ (8*(x.size-((1-1:Nat):Int)-1)).toNat) else w64 (w64 (256*0)+(c1.toNat:Int)))=rdN x.little [c1]:=by
   rw[hN]
   have e1:w64 (256*0)=0:=hw _ (by decide) (by decide)
   rw[e1,Int.zero_add,show(8*(((1:Nat):Int)-((1-1:Nat):Int)-1)).toNat=0 by decide,Int.pow_zero,Int.mul_one,Int.zero_add,hw _ h1.1 (by omega)]
   unfold rdN
   split<;>split<;>simp
  simp only[er]
  rw[←hS,N9 hR.started]
  rfl
 rw[if_neg (by omega)]at hg
 generalize hg1:(if(⟨1,x.size,if x.little=true then 1 else 0⟩:Ins).b=1 then w64 (({m with register:=0,started:=true,left:=x.size}:Mch).register+(c1.toNat:Int)*2 ^ (8*((⟨1,x.size,if x.little=true then 1 else 0⟩:Ins).a-((N-1:Nat):Int)-1)).toNat) else w64 (w64 (256*({m with register:=0,started:=true,left:=x.size}:Mch).register)+(c1.toNat:Int)))=g1 at hg
 have eg1:g1=(c1.toNat:Int):=by
  rw[←hg1]
  show(if _ then w64 (0+(c1.toNat:Int)*2 ^ (8*(x.size-((N-1:Nat):Int)-1)).toNat) else w64 (w64 (256*0)+(c1.toNat:Int)))=_
  rw[show(8*(x.size-((N-1:Nat):Int)-1)).toNat=0 by omega,Int.pow_zero,Int.mul_one,Int.zero_add,show w64 (256*0)=0 from hw _ (by decide) (by decide),Int.zero_add,hw _ h1.1 (by omega),ite_self]
 subst eg1
 clear hg1 b1
 cases l with
 |nil=>exact hshort (by simp;omega) (by rw[hg];exact G0 hD (b:=j) (i:=0) ⟨hj,hy0,by show m.pc=_;rw[hat];simp,hR.st⟩ rfl)
 |cons c2 l=>
 have h2:=hc255 c2
 have b2:=G9 hD (b:=j) (i:=0) (t:=N-2) (m:={Vj {m with register:=0,started:=true,left:=x.size} [c1] with left:=((N-1:Nat):Int),register:=(c1.toNat:Int)}) (c:=c2) (l:=l) ⟨hj,hy0,by show m.pc=_;rw[hat];simp,hR.st⟩ rfl rfl (by show((N-1:Nat):Int)=_;omega) (by show((N-2:Nat):Int)+1≤x.size;omega) hs.2
 rw[b2]at hg
 generalize hg2:(if(⟨1,x.size,if x.little=true then 1 else 0⟩:Ins).b=1 then w64 (({Vj {m with register:=0,started:=true,left:=x.size} [c1] with left:=((N-1:Nat):Int),register:=(c1.toNat:Int)}:Mch).register+(c2.toNat:Int)*2 ^ (8*((⟨1,x.size,if x.little=true then 1 else 0⟩:Ins).a-((N-2:Nat):Int)-1)).toNat) else w64 (w64 (256*({Vj {m with register:=0,started:=true,left:=x.size} [c1] with left:=((N-1:Nat):Int),register:=(c1.toNat:Int)}:Mch).register)+(c2.toNat:Int)))=g2 at hg
 have eg2:g2=rdN x.little [c1,c2]:=by
  rw[←hg2]
  show(if(⟨1,x.size,if x.little=true then 1 else 0⟩:Ins).b=1 then w64 ((c1.toNat:Int)+(c2.toNat:Int)*2 ^ (8*(x.size-((N-2:Nat):Int)-1)).toNat) else w64 (w64 (256*(c1.toNat:Int))+(c2.toNat:Int)))=_
  rw[show(8*(x.size-((N-2:Nat):Int)-1)).toNat=8 by omega,show(2:Int) ^ 8=256 by decide,hw (256*(c1.toNat:Int)) (by omega) (by omega),hw (256*(c1.toNat:Int)+(c2.toNat:Int)) (by omega) (by omega),hw ((c1.toNat:Int)+(c2.toNat:Int)*256) (by omega) (by omega)]
  unfold rdN
  by_cases hl:x.little=true
  ·rw[if_pos (hbt.2 hl),if_pos hl];simp;omega
  ·rw[if_neg (fun h=>hl (hbt.1 h)),if_neg hl];simp;omega
 subst eg2
 clear hg2 b2
 by_cases n2:N=2
 ·subst n2
  rw[if_pos rfl]at hg
  refine hend [c1,c2] l m rfl ⟨0,?_⟩ (by simp;omega)
  rw[hg]
  congr 1
  rw[←hS,N9 hR.started,show[c1,c2]=[c1]++[c2] from rfl,←U2]
  rfl
 rw[if_neg (by omega)]at hg
 cases l with
 |nil=>exact hshort (by simp;omega) (by rw[hg];exact G0 hD (b:=j) (i:=0) ⟨hj,hy0,by show m.pc=_;rw[hat];simp,hR.st⟩ rfl)
 |cons c3 l=>
 have h3:=hc255 c3
 have n3:N=3:=by omega
 subst n3
 have b3:=G9 hD (b:=j) (i:=0) (t:=0) (m:={Vj {Vj {m with register:=0,started:=true,left:=x.size} [c1] with left:=((3-1:Nat):Int),register:=(c1.toNat:Int)} [c2] with left:=((3-2:Nat):Int),register:=rdN x.little [c1,c2]}) (c:=c3) (l:=l) ⟨hj,hy0,by show m.pc=_;rw[hat];simp,hR.st⟩ rfl rfl (by rfl) (by show((0:Nat):Int)+1≤x.size;omega) hs.2
 rw[b3,if_pos rfl]at hg
 generalize hg3:(if(⟨1,x.size,if x.little=true then 1 else 0⟩:Ins).b=1 then w64 (({Vj {Vj {m with register:=0,started:=true,left:=x.size} [c1] with left:=((3-1:Nat):Int),register:=(c1.toNat:Int)} [c2] with left:=((3-2:Nat):Int),register:=rdN x.little [c1,c2]}:Mch).register+(c3.toNat:Int)*2 ^ (8*((⟨1,x.size,if x.little=true then 1 else 0⟩:Ins).a-((0:Nat):Int)-1)).toNat) else w64 (w64 (256*({Vj {Vj {m with register:=0,started:=true,left:=x.size} [c1] with left:=((3-1:Nat):Int),register:=(c1.toNat:Int)} [c2] with left:=((3-2:Nat):Int),register:=rdN x.little [c1,c2]}:Mch).register)+(c3.toNat:Int)))=g3 at hg
 have eg3:g3=rdN x.little [c1,c2,c3]:=by
  rw[←hg3]
  show(if(⟨1,x.size,if x.little=true then 1 else 0⟩:Ins).b=1 then w64 (rdN x.little [c1,c2]+(c3.toNat:Int)*2 ^ (8*(x.size-((0:Nat):Int)-1)).toNat) else w64 (w64 (256*rdN x.little [c1,c2])+(c3.toNat:Int)))=_
  have r0:=Kg x.little [c1,c2]
  have r1:=Sl x.little [c1,c2]
  rw[show[c1,c2].length=2 from rfl,show(256:Int) ^ 2=65536 by decide]at r1
  rw[show(8*(x.size-((0:Nat):Int)-1)).toNat=16 by omega,show(2:Int) ^ 16=65536 by decide,hw (256*rdN x.little [c1,c2]) (by omega) (by omega),hw (256*rdN x.little [c1,c2]+(c3.toNat:Int)) (by omega) (by omega),hw (rdN x.little [c1,c2]+(c3.toNat:Int)*65536) (by omega) (by omega)]
  unfold rdN
  by_cases hl:x.little=true
  ·rw[if_pos (hbt.2 hl),if_pos hl,if_pos hl];simp;omega
  ·rw[if_neg (fun h=>hl (hbt.1 h)),if_neg hl,if_neg hl];simp;omega
 subst eg3
 refine hend [c1,c2,c3] l m rfl ⟨0,?_⟩ (by simp;omega)
 rw[hg]
 congr 1
 rw[←hS,N9 hR.started,show[c1,c2,c3]=([c1]++[c2])++[c3] from rfl,←U2,←U2]
 rfl
end
def RdV(P:Program)(f:FuncId)(args:List RV)(e:Got)(b:List UInt8)(a:Nat):Prop:=∃(v:Tre) (nx c:Int),ACv P f args (.tup [Gj v,.int nx,.int c])∧RdOk e b a nx c
theorem J8{e:Got}{f:Nat→Got}{b:List UInt8}{a k:Nat}{nx c:Int}(he:e = .ok k)(h:RdOk (f k) b (a+k) nx c):RdOk (bnd e f) b a nx c:=by
 subst he
 show RdOk (plus k (f k)) b a nx c
 cases hf:f k with
 |ok j=>
  rw[hf]at h
  obtain⟨h1,h2,h3⟩:=h.1 j rfl
  refine⟨fun k' hk'=>?_,fun c' hc'=>by simp[plus]at hc'⟩
  simp[plus]at hk';subst hk'
  exact⟨h1,by rw[h2];omega,by omega⟩
 |error c'=>
  rw[hf]at h
  exact⟨fun k' hk'=>by simp[plus]at hk',fun c2 hc2=>by simp[plus]at hc2;subst hc2;exact h.2 _ rfl⟩
theorem Hw{e:Got}{f:Nat→Got}{b:List UInt8}{a:Nat}{nx c:Int}(he:e = .error c)(hc:c≠0):RdOk (bnd e f) b a nx c:=by
 subst he
 exact .bad hc
theorem RdOk.pl{e:Got}{b:List UInt8}{a k:Nat}{nx c:Int}(h:RdOk e b (a+k) nx c):RdOk (plus k e) b a nx c:=J8 (e:=.ok k) (f:=fun _=>e) rfl h
theorem RdOk.cases{e:Got}{b:List UInt8}{a:Nat}{nx c:Int}(h:RdOk e b a nx c):(∃k,e = .ok k∧c=0∧nx=((a+k:Nat):Int)∧a+k≤b.length)∨(e = .error c∧c≠0):=by
 cases e with
 |ok k=>exact .inl ⟨k,rfl,h.1 k rfl⟩
 |error c'=>
  obtain⟨h1,h2⟩:=h.2 c' rfl
  exact .inr ⟨by rw[h1],h2⟩
theorem S2{P:Program}{fi:FuncId}{args:Int→Nat→List RV}{f:Int→List UInt8→Got}{b:List UInt8}:∀(zs:List Int) (a:Nat),a≤b.length→(∀z∈zs,∀a:Nat,a≤b.length→RdV P fi (args z a) (f z (b.drop a)) b a) →
  ∃(m:Nat) (V:Nat→Tre) (A:Nat→Nat) (nx c:Int),m≤zs.length∧A 0=a∧(∀j,j≤m→A j≤b.length)∧(∀(j:Nat) z,j<m→zs[j]?=some z→ACv P fi (args z (A j)) (.tup [Gj (V j),.int ((A (j+1):Nat):Int),.int 0])) ∧
   (∀z,zs[m]?=some z→c≠0∧ACv P fi (args z (A m)) (.tup [Gj (V m),.int nx,.int c]))∧(m=zs.length→nx=((A m:Nat):Int)∧c=0)∧RdOk (rdS f zs (b.drop a)) b a nx c
 | [],a,ha,_=>⟨0,fun _=>.mk 0 [] [],fun _=>a,(a:Int),0,Nat.le_refl _,rfl,fun _ _=>ha,fun _ _ h=>absurd h (by omega),fun z h=>by simp at h,fun _=>⟨rfl,rfl⟩,RdOk.good (k:=0) (by omega)⟩
 |z::zs,a,ha,H=>by
  obtain⟨v,nx1,c1,h1,ok1⟩:=H z (by simp) a ha
  rcases ok1.cases with⟨k,e,rfl,rfl,hk⟩|⟨e,hc⟩
  ·obtain⟨m,V,A,nx,c,g1,g2,g3,g4,g5,g6,g7⟩:=S2 zs (a+k) hk fun z hz=>H z (by simp[hz])
   refine⟨m+1,fun j=>match j with|0=>v|j+1=>V j,fun j=>match j with|0=>a|j+1=>A j,nx,c,by simp;omega,rfl,fun j hj=>?_,fun j w hj hw=>?_,fun w hw=>g5 w (by simpa using hw),fun hm=>g6 (by simpa using hm),?_⟩
   ·cases j with
    |zero=>exact ha
    |succ j=>exact g3 j (by omega)
   ·cases j with
    |zero=>
     simp at hw;subst hw
     show ACv P fi (args z a) (.tup [Gj v,.int ((A 0:Nat):Int),.int 0])
     rw[g2];exact h1
    |succ j=>exact g4 j w (by omega) (by simpa using hw)
   ·rw[rdS]
    refine J8 e ?_
    rw[List.drop_drop]
    exact g7
  ·refine⟨0,fun _=>v,fun _=>a,nx1,c1,Nat.zero_le _,rfl,fun _ _=>ha,fun _ _ h=>absurd h (by omega),fun w hw=>?_,fun h=>by simp at h,?_⟩
   ·simp at hw;subst hw
    exact⟨hc,h1⟩
   ·rw[rdS]
    exact Hw e hc
set_option maxHeartbeats 4000000 in
theorem Ds(b:List UInt8)(hb:b.length≤1048576)(a:Nat)(ha:a≤b.length)(n:Int)(hn0:0≤n∧n≤100000000):RdV Tryz.prog 68 [Ya b,.int (a:Int),.int n] (rdI n.toNat (b.drop a)) b a:=by
 have hbl:(b.map fun z=>[RV.u8 z]).length=b.length:=lmT ..
 by_cases h:b.length-a<n.toNat
 ·refine⟨.mk 0 [] [],(a:Int),1,?_,by unfold rdI;rw[List.length_drop,if_pos h];exact .bad (by decide)⟩
  refine Zz Tryz.func68 rfl _ Tryz.ntmps68 (by simp) fun C hn hm=>?_
  repeat' (first
|(refine Zc hn rfl rfl rfl ?_;first
|refine⟨_,Zu b.length rfl hbl,?_⟩)
|refine Zbg Zk hn rfl ?_
|refine Zbh ?_
|refine Za 30 rfl ?_
|(refine Zc hn rfl rfl rfl ?_;first
|refine⟨_,Z7 rfl rfl (by omega),?_⟩
|refine⟨_,Z2 rfl,?_⟩)
|(refine Zbf 30 rfl ?_;first|(refine Zd rfl ?_ ?_;·first|omega|rfl|assumption|(simp only[lmT];omega))|(refine Ze rfl ?_ ?_;·first|omega|rfl|assumption|(simp only[lmT];omega))|refine Zbe (Zj hm rfl rfl ?_)|exact Zbe (Zf hm rfl rfl rfl (nbT rfl) rfl rfl))
|refine Zx (tl hn rfl) ?_
|refine Zr rfl rfl rfl rfl (nbT rfl) ?_
|(refine Zc hn rfl rfl rfl ?_;first
|refine⟨_,Zq rfl rfl (by omega),?_⟩
|refine⟨_,Z7 rfl rfl (by omega),?_⟩
    ))
  exact Zbf 30 rfl (Zbe (Y1 (i:=0) (v:=.mk 0 [] []) hm rfl rfl rfl rfl rfl rfl Y6 rfl))
 ·obtain⟨k,rfl⟩:∃k:Nat,n=k:=⟨n.toNat,by omega⟩
  refine⟨.mk 0 ((b.drop a).take k) [],((a+k:Nat):Int),0,?_,by unfold rdI;rw[List.length_drop,if_neg h];exact RdOk.good (by omega)⟩
  have hul:((b.drop a).take k).length=k:=by rw[List.length_take,List.length_drop];omega
  refine Zz Tryz.func68 rfl _ Tryz.ntmps68 (by simp) fun C hn hm=>?_
  repeat' (first
|refine Xa (tl hn rfl) ?_
|(refine Zc hn rfl rfl rfl ?_;first
|refine⟨_,Zu b.length rfl hbl,?_⟩)
|refine Zbg Zk hn rfl ?_
|refine Zbh ?_
|refine Za 30 rfl ?_
|(refine Zc hn rfl rfl rfl ?_;first
|refine⟨_,Z7 rfl rfl (by omega),?_⟩
|refine⟨_,Zq rfl rfl (by omega),?_⟩
|refine⟨_,Z2 rfl,?_⟩
|refine⟨_,Q0 rfl rfl rfl (by omega) (by omega) (by omega),?_⟩)
|(refine Zbf 30 rfl ?_;first|(refine Zd rfl ?_ ?_;·first|omega|rfl|assumption|(simp only[lmT];omega))|(refine Ze rfl ?_ ?_;·first|omega|rfl|assumption|(simp only[lmT];omega))|refine Zbe (Zj hm rfl rfl ?_)|exact Zbe (Zf hm rfl rfl rfl (nbT rfl) rfl rfl))
|refine Zx (tl hn rfl) ?_
|refine Zr rfl rfl rfl rfl (nbT rfl) ?_
|(refine Zc hn rfl rfl rfl ?_;first
|refine⟨_,Zq rfl rfl (by omega),?_⟩
|refine⟨_,Z7 rfl rfl (by omega),?_⟩
    ))
  refine Yl (t:=24) (n:=0) (rs:=[]) (i:=1) rfl rfl rfl rfl rfl rfl rfl (FreeI.at_ (i:=1) (by repeat' (first|exact trivial|exact Yg _ _|refine⟨?_,?_⟩))) (by simp;omega) (by simp;omega) (tl hn rfl) ?_
  repeat' (first
|refine Zbg Zk hn rfl ?_
|refine Zbh ?_
|refine Za 30 rfl ?_
|(refine Zc hn rfl rfl rfl ?_;first
|refine⟨_,Zq rfl rfl (by omega),?_⟩
|refine⟨_,Z2 rfl,?_⟩)
|(refine Zbf 30 rfl ?_;first|(refine Zd rfl ?_ ?_;·first|omega|rfl|assumption|(simp only[lmT];omega))|(refine Ze rfl ?_ ?_;·first|omega|rfl|assumption|(simp only[lmT];omega))|refine Zbe (Zj hm rfl rfl ?_)|exact Zbe (Zf hm rfl rfl rfl (nbT rfl) rfl rfl))
|refine Zx (tl hn rfl) ?_
|refine Zr rfl rfl rfl rfl (nbT rfl) ?_
|(refine Zc hn rfl rfl rfl ?_;first
|refine⟨_,Zq rfl rfl (by omega),?_⟩
|refine⟨_,Z7 rfl rfl (by omega),?_⟩
    ))
  refine Zbf 30 rfl (Zbe (Y1 (i:=0) (cs:=[.int 0,.own 1,.nil]) (v:=.mk 0 ((b.drop a).take k) []) hm rfl rfl rfl rfl (Vh (by omega)) rfl (.cons .ro (.cons ?_ (.cons (Lends.nil 3) .nil))) rfl))
  have e:(((a:Int)+(k:Int)).toNat-((a:Int)).toNat)=k:=by omega
  rw[e]
  exact Lends.own (i:=1) (o:=⟨5,1,(((b.drop a).take k).map fun z=>[RV.u8 z]).flatten.map .ro⟩) (els:=((b.drop a).take k).map fun z=>[RV.u8 z]) rfl rfl fun x hx=>by obtain⟨y,_,rfl⟩:=List.mem_map.1 hx;rfl
def tilV(t:UInt8):List UInt8→List UInt8
 | []=>[]
 |c::l=>if c=t then[] else if c=92 then(match l with
  | []=>[]
  |c2::l'=>c2::tilV t l') else c::tilV t l
theorem Er(t c:UInt8)(l:List UInt8):tilV t (c::l)=if c=t then[] else if c=92 then(match l with
  | []=>[]
  |c2::l'=>c2::tilV t l') else c::tilV t l:=by cases l<;>(conv=>lhs;unfold tilV)<;>rfl
def Ph(t:UInt8)(out:List UInt8)(l:List UInt8)(a p:Nat):List RV:=match til t l with
 | .ok k=>[Ya (out++tilV t l),.int ((p+k:Nat):Int),.bool true]
 | .error _=>[Ya [],.int (a:Int),.bool false]
theorem tilA_hit{t:UInt8}{out l:List UInt8}{a p:Nat}:Ph t out (t::l) a p=[Ya out,.int ((p+1:Nat):Int),.bool true]:=by
 unfold Ph
 rw[Qy,if_pos rfl,Er,if_pos rfl,List.append_nil]
theorem tilA_end{t:UInt8}{out:List UInt8}{a p:Nat}:Ph t out [] a p=[Ya [],.int (a:Int),.bool false]:=rfl
theorem tilA_esc{t:UInt8}{out:List UInt8}{a p:Nat}(h:¬(92:UInt8)=t):Ph t out [92] a p=[Ya [],.int (a:Int),.bool false]:=by
 unfold Ph
 rw[Qy,if_neg h,if_pos rfl]
theorem tilA_esc2{t c:UInt8}{out l:List UInt8}{a p:Nat}(h:¬(92:UInt8)=t):Ph t out (92::c::l) a p=Ph t (out++[c]) l a (p+2):=by
 unfold Ph
 rw[Qy,if_neg h,if_pos rfl,Er,if_neg h,if_pos rfl]
 simp only
 cases til t l with
 |ok k=>simp only[plus,List.append_assoc,List.singleton_append,Nat.add_assoc]
 |error c=>rfl
theorem tilA_one{t c:UInt8}{out l:List UInt8}{a p:Nat}(h:¬c=t)(h2:¬c=92):Ph t out (c::l) a p=Ph t (out++[c]) l a (p+1):=by
 unfold Ph
 rw[Qy,if_neg h,if_neg h2,Er,if_neg h,if_neg h2]
 cases til t l with
 |ok k=>simp only[plus,List.append_assoc,List.singleton_append,Nat.add_assoc]
 |error c=>rfl
theorem lendB{C:Ctx}{σ:List Ob}{i:Nat}{out:List UInt8}(ho:σ[i]?=some ⟨5,1,(out.map RV.u8).map .ro⟩):Lends C σ (.own i) (Ya out):=
 Lends.own (o:=⟨5,1,(out.map RV.u8).map .ro⟩) (els:=out.map fun z=>[RV.u8 z]) ho (by rw[Wj]) fun x hx=>by obtain⟨y,_,rfl⟩:=List.mem_map.1 hx;rfl
set_option maxHeartbeats 8000000 in
theorem N4(b:List UInt8)(hb:b.length≤1048576)(a:Nat)(ha:a≤b.length)(t:UInt8):ACv Tryz.prog 69 [Ya b,.int (a:Int),.u8 t] (.tup (Ph t [] (b.drop a) a a)):=by
 have hbl:(b.map fun z=>[RV.u8 z]).length=b.length:=lmT ..
 have hin:∀x:Int,x=b.length→InR (a:Int) 0 x:=fun x hx=>by unfold InR;omega
 refine Zz Tryz.func69 rfl _ Tryz.ntmps69 (by simp) fun C hn hm=>?_
 repeat' (first
|refine Xa (tl hn rfl) ?_
|refine Zbg Zk hn rfl ?_
|refine Zbh ?_
|refine Za 30 rfl ?_
|(refine Zbf 30 rfl ?_;first|refine Zg rfl ?_|(refine Zd rfl ?_ ?_;·first|omega|rfl|assumption|(simp only[lmT];omega))|(refine Ze rfl ?_ ?_;·first|omega|rfl|assumption|(simp only[lmT];omega))|refine Zbe (Zj hm rfl rfl ?_)|exact Zbe (Zf hm rfl rfl rfl (nbT rfl) rfl rfl))
|(refine Zc hn rfl rfl rfl ?_;first
|refine⟨_,Zq rfl rfl (by omega),?_⟩
|refine⟨_,Zb rfl rfl (by omega) (by assumption),?_⟩
|refine⟨_,Zw rfl rfl rfl rfl rfl rfl,?_⟩)
|(refine Zh rfl rfl rfl ?_ ?_<;>intro h<;>try(exfalso;first|omega|contradiction|(simp only[lmT]at h;omega))))
 refine W5 30 rfl (fun n E s=>∃(p:Nat) (out:List UInt8),p+n=b.length∧Ph t out (b.drop p) a p=Ph t [] (b.drop a) a a∧out.length≤p∧E=[(0,.ro (Ya b)),(1,.int (a:Int)),(2,.ro (.u8 t)),(9,.own 0),(10,.int (p:Int))]∧s=[⟨5,1,(out.map RV.u8).map .ro⟩]) (b.length-a) [(0,.ro (Ya b)),(1,.int (a:Int)),(2,.ro (.u8 t)),(9,.own 0),(10,.int (a:Int))] ⟨rfl,rfl,rfl,rfl,rfl,trivial⟩ ⟨a,[],by omega,rfl,by simp,rfl,rfl⟩ fun n E s ⟨p,out,hpn,hQ,hol,hE,hs⟩ next=>?_
 subst hE;subst hs
 by_cases hlt:p<b.length
 ·obtain⟨c,hc⟩:∃c,b[(p:Int).toNat]?=some c:=⟨_,Za6 hlt⟩
  have hc':b[p]?=some c:=hc
  have hd:=Mi hc'
  by_cases e1:c=t
  ·subst e1
   rw[←hQ,hd,tilA_hit]
   repeat' (first
|(refine Zc hn rfl rfl rfl ?_;first
|refine⟨_,Zu b.length rfl hbl,?_⟩)
|refine Zbg Zk hn rfl ?_
|refine Zbh ?_
|refine Za 30 rfl ?_
|(refine Zc hn rfl rfl rfl ?_;first
|refine⟨_,Zi (Xn _ _ _) rfl,?_⟩
|refine⟨_,Zq rfl rfl (by omega),?_⟩)
|(refine Zbf 30 rfl ?_;first|refine Zg rfl ?_|(refine Zd rfl ?_ ?_;·first|omega|rfl|assumption|(simp only[lmT];omega))|(refine Ze rfl ?_ ?_;·first|omega|rfl|assumption|(simp only[lmT];omega))|refine Zbe (Zj hm rfl rfl ?_)|exact Zbe (Zf hm rfl rfl rfl (nbT rfl) rfl rfl))
|(refine Zc hn rfl rfl rfl ?_;first
|refine⟨_,Zq rfl rfl (by omega),?_⟩
|refine⟨_,Zb rfl rfl (by omega) (by assumption),?_⟩
|refine⟨_,Zw rfl rfl rfl rfl rfl rfl,?_⟩)
|(refine Zh rfl rfl rfl ?_ ?_<;>intro h<;>try(exfalso;first|omega|contradiction|(simp only[lmT]at h;omega))))
   exact Zbf 30 rfl (Zbe (Qb hm (xs:=[.tmp 6,.tmp 7,.tmp 8]) rfl (by simp) ⟨_,_,rfl,rfl,_,_,rfl,rfl,_,_,rfl,rfl,rfl⟩ rfl (.cons (lendB (i:=0) rfl) (Yv [.int ((p+1:Nat):Int),.bool true]))))
  ·have n1:¬(c.toNat:Int)=(t.toNat:Int):=fun h=>e1 (UInt8.toNat_inj.1 (by omega))
   by_cases e2:c=92
   ·subst e2
    by_cases hl2:p+1<b.length
    ·obtain⟨c2,hc2⟩:∃c,b[((p:Int)+1).toNat]?=some c:=⟨_,Za6 (by omega)⟩
     have hc2':b[p+1]?=some c2:=by rw[show((p:Int)+1).toNat=p+1 by omega]at hc2;exact hc2
     repeat' (first
|(refine Zc hn rfl rfl rfl ?_;first
|refine⟨_,Zu b.length rfl hbl,?_⟩)
|refine Zbg Zk hn rfl ?_
|refine Zbh ?_
|refine Za 30 rfl ?_
|(refine Zc hn rfl rfl rfl ?_;first
|refine⟨_,Zi (Xn _ _ _) rfl,?_⟩
|refine⟨_,Zq rfl rfl (by omega),?_⟩)
|(refine Zbf 30 rfl ?_;first|refine Zg rfl ?_|(refine Zd rfl ?_ ?_;·first|omega|rfl|assumption|(simp only[lmT];omega))|(refine Ze rfl ?_ ?_;·first|omega|rfl|assumption|(simp only[lmT];omega))|refine Zbe (Zj hm rfl rfl ?_)|exact Zbe (Zf hm rfl rfl rfl (nbT rfl) rfl rfl))
|(refine Zc hn rfl rfl rfl ?_;first
|refine⟨_,Zq rfl rfl (by omega),?_⟩
|refine⟨_,Zb rfl rfl (by omega) (by assumption),?_⟩
|refine⟨_,Zw rfl rfl rfl rfl rfl rfl,?_⟩)
|(refine Zh rfl rfl rfl ?_ ?_<;>intro h<;>try(exfalso;first|omega|contradiction|(simp only[lmT]at h;omega))))
     refine Yl (t:=51) (i:=0) (n:=out.length) (rs:=out.map RV.u8) (els:=[[RV.u8 c2]]) rfl rfl rfl rfl rfl rfl (by rw[lmT,Nat.mul_one]) (FreeI.at_ (i:=0) ⟨Yg _ _,trivial⟩) (by simp;omega) (by simp;omega) (tl hn rfl) ?_
     repeat' (first
|refine Zbg Zk hn rfl ?_
|refine Zbh ?_
|refine Za 30 rfl ?_
|(refine Zc hn rfl rfl rfl ?_;first
|refine⟨_,Zq rfl rfl (by omega),?_⟩)
|(refine Zbf 30 rfl ?_;first|refine Zg rfl ?_|(refine Zd rfl ?_ ?_;·first|omega|rfl|assumption|(simp only[lmT];omega))|(refine Ze rfl ?_ ?_;·first|omega|rfl|assumption|(simp only[lmT];omega))|refine Zbe (Zj hm rfl rfl ?_)|exact Zbe (Zf hm rfl rfl rfl (nbT rfl) rfl rfl))
|(refine Zc hn rfl rfl rfl ?_;first
|refine⟨_,Zq rfl rfl (by omega),?_⟩
|refine⟨_,Zb rfl rfl (by omega) (by assumption),?_⟩
|refine⟨_,Zw rfl rfl rfl rfl rfl rfl,?_⟩)
|(refine Zh rfl rfl rfl ?_ ?_<;>intro h<;>try(exfalso;first|omega|contradiction|(simp only[lmT]at h;omega))))
     refine next (n-2) _ _ _ (by omega) ⟨p+2,out++[c2],by omega,by rw[←hQ,hd,Mi hc2',tilA_esc2 e1],by simp;omega,rfl,?_⟩ ?_
     ·rw[show(out++[c2]).map RV.u8=out.map RV.u8++[RV.u8 c2] by simp];rfl
     ·exact⟨rfl,rfl,rfl,rfl,Vh (by omega),trivial⟩
    ·rw[←hQ,hd,List.drop_eq_nil_of_le (show b.length≤p+1 by omega),tilA_esc e1]
     repeat' (first
|refine Xa (tl hn rfl) ?_
|(refine Zc hn rfl rfl rfl ?_;first
|refine⟨_,Zu b.length rfl hbl,?_⟩)
|refine Zbg Zk hn rfl ?_
|refine Zbh ?_
|refine Za 30 rfl ?_
|(refine Zc hn rfl rfl rfl ?_;first
|refine⟨_,Zi (Xn _ _ _) rfl,?_⟩
|refine⟨_,Zq rfl rfl (by omega),?_⟩)
|(refine Zbf 30 rfl ?_;first|refine Zg rfl ?_|(refine Zd rfl ?_ ?_;·first|omega|rfl|assumption|(simp only[lmT];omega))|(refine Ze rfl ?_ ?_;·first|omega|rfl|assumption|(simp only[lmT];omega))|refine Zbe (Zj hm rfl rfl ?_)|exact Zbe (Zf hm rfl rfl rfl (nbT rfl) rfl rfl))
|(refine Zc hn rfl rfl rfl ?_;first
|refine⟨_,Zq rfl rfl (by omega),?_⟩
|refine⟨_,Zb rfl rfl (by omega) (by assumption),?_⟩
|refine⟨_,Zw rfl rfl rfl rfl rfl rfl,?_⟩)
|(refine Zh rfl rfl rfl ?_ ?_<;>intro h<;>try(exfalso;first|omega|contradiction|(simp only[lmT]at h;omega))))
     exact Zbf 30 rfl (Zbe (Qb hm (xs:=[.tmp 6,.tmp 7,.tmp 8]) rfl (by simp) ⟨_,_,rfl,rfl,_,_,rfl,rfl,_,_,rfl,rfl,rfl⟩ rfl (.cons (lendB (i:=1) (out:=[]) rfl) (Yv [.int (a:Int),.bool false]))))
   ·have n2:¬(c.toNat:Int)=92:=fun h=>e2 (UInt8.toNat_inj.1 (by simp;omega))
    repeat' (first
|(refine Zc hn rfl rfl rfl ?_;first
|refine⟨_,Zu b.length rfl hbl,?_⟩)
|refine Zbg Zk hn rfl ?_
|refine Zbh ?_
|refine Za 30 rfl ?_
|(refine Zc hn rfl rfl rfl ?_;first
|refine⟨_,Zi (Xn _ _ _) rfl,?_⟩
|refine⟨_,Zq rfl rfl (by omega),?_⟩)
|(refine Zbf 30 rfl ?_;first|refine Zg rfl ?_|(refine Zd rfl ?_ ?_;·first|omega|rfl|assumption|(simp only[lmT];omega))|(refine Ze rfl ?_ ?_;·first|omega|rfl|assumption|(simp only[lmT];omega))|refine Zbe (Zj hm rfl rfl ?_)|exact Zbe (Zf hm rfl rfl rfl (nbT rfl) rfl rfl))
|(refine Zc hn rfl rfl rfl ?_;first
|refine⟨_,Zq rfl rfl (by omega),?_⟩
|refine⟨_,Zb rfl rfl (by omega) (by assumption),?_⟩
|refine⟨_,Zw rfl rfl rfl rfl rfl rfl,?_⟩)
|(refine Zh rfl rfl rfl ?_ ?_<;>intro h<;>try(exfalso;first|omega|contradiction|(simp only[lmT]at h;omega))))
    refine Yl (t:=51) (i:=0) (n:=out.length) (rs:=out.map RV.u8) (els:=[[RV.u8 c]]) rfl rfl rfl rfl rfl rfl (by rw[lmT,Nat.mul_one]) (FreeI.at_ (i:=0) ⟨Yg _ _,trivial⟩) (by simp;omega) (by simp;omega) (tl hn rfl) ?_
    repeat' (first
|refine Zbg Zk hn rfl ?_
|refine Zbh ?_
|refine Za 30 rfl ?_
|(refine Zc hn rfl rfl rfl ?_;first
|refine⟨_,Zq rfl rfl (by omega),?_⟩)
|(refine Zbf 30 rfl ?_;first|refine Zg rfl ?_|(refine Zd rfl ?_ ?_;·first|omega|rfl|assumption|(simp only[lmT];omega))|(refine Ze rfl ?_ ?_;·first|omega|rfl|assumption|(simp only[lmT];omega))|refine Zbe (Zj hm rfl rfl ?_)|exact Zbe (Zf hm rfl rfl rfl (nbT rfl) rfl rfl))
|(refine Zc hn rfl rfl rfl ?_;first
|refine⟨_,Zq rfl rfl (by omega),?_⟩
|refine⟨_,Zb rfl rfl (by omega) (by assumption),?_⟩
|refine⟨_,Zw rfl rfl rfl rfl rfl rfl,?_⟩)
|(refine Zh rfl rfl rfl ?_ ?_<;>intro h<;>try(exfalso;first|omega|contradiction|(simp only[lmT]at h;omega))))
    refine next (n-1) _ _ _ (by omega) ⟨p+1,out++[c],by omega,by rw[←hQ,hd,tilA_one e1 e2],by simp;omega,rfl,?_⟩ ?_
    ·rw[show(out++[c]).map RV.u8=out.map RV.u8++[RV.u8 c] by simp];rfl
    ·exact⟨rfl,rfl,rfl,rfl,Vh (by omega),trivial⟩
 ·rw[←hQ,List.drop_eq_nil_of_le (show b.length≤p by omega),tilA_end]
  repeat' (first
|refine Xa (tl hn rfl) ?_
|(refine Zc hn rfl rfl rfl ?_;first
|refine⟨_,Zu b.length rfl hbl,?_⟩)
|refine Zbg Zk hn rfl ?_
|refine Zbh ?_
|refine Za 30 rfl ?_
|(refine Zc hn rfl rfl rfl ?_;first
|refine⟨_,Zi (Xn _ _ _) rfl,?_⟩
|refine⟨_,Zq rfl rfl (by omega),?_⟩)
|(refine Zbf 30 rfl ?_;first|refine Zg rfl ?_|(refine Zd rfl ?_ ?_;·first|omega|rfl|assumption|(simp only[lmT];omega))|(refine Ze rfl ?_ ?_;·first|omega|rfl|assumption|(simp only[lmT];omega))|refine Zbe (Zj hm rfl rfl ?_)|exact Zbe (Zf hm rfl rfl rfl (nbT rfl) rfl rfl))
|(refine Zc hn rfl rfl rfl ?_;first
|refine⟨_,Zq rfl rfl (by omega),?_⟩
|refine⟨_,Zb rfl rfl (by omega) (by assumption),?_⟩
|refine⟨_,Zw rfl rfl rfl rfl rfl rfl,?_⟩)
|(refine Zh rfl rfl rfl ?_ ?_<;>intro h<;>try(exfalso;first|omega|contradiction|(simp only[lmT]at h;omega))))
  exact Zbf 30 rfl (Zbe (Qb hm (xs:=[.tmp 6,.tmp 7,.tmp 8]) rfl (by simp) ⟨_,_,rfl,rfl,_,_,rfl,rfl,_,_,rfl,rfl,rfl⟩ rfl (.cons (lendB (i:=1) (out:=[]) rfl) (Yv [.int (a:Int),.bool false]))))
theorem itL_get{x:Rul}{n:Int}{c j:Nat}(h:j<c):(itL x n c)[j]?=some (Xb x n (j:Int)):=by
 unfold itL
 rw[List.getElem?_map,List.getElem?_range h];rfl
theorem Pt(V:Nat→Tre)(j:Nat):((List.range (j+1)).map V).flatMap Tre.cells=((List.range j).map V).flatMap Tre.cells++[[RV.int (V j).number,Ya (V j).bytes,X3 (V j).items]].flatten:=by
 rw[List.range_succ,List.map_append,List.flatMap_append]
 simp[Tre.cells_eq,X3]
set_option maxRecDepth 100000 in
set_option maxHeartbeats 16000000 in
theorem Qn(d:Des)(x:Rul)(hk:Xi d x)(number:Int)(cnt:Nat)(hcn:cnt≤1000)(b:List UInt8)(hb:b.length≤1048576)(a:Nat)(ha:a≤b.length)(f:Int→List UInt8→Got)
  (IH:∀z∈itL x number cnt,∀a:Nat,a≤b.length→RdV Tryz.prog 46 [X1 d,.int z,Ya b,.int (a:Int)] (f z (b.drop a)) b a) :
  RdV Tryz.prog 70 [X1 d,.agg (Xz x),.int number,.int (cnt:Int),Ya b,.int (a:Int)] (rdS f (itL x number cnt) (b.drop a)) b a:=by
 obtain⟨m,V,A,nx,c,hmc,hA0,hA,hgood,hbad,hend,hok⟩:=S2 (args:=fun z a=>[X1 d,.int z,Ya b,.int (a:Int)]) (itL x number cnt) a ha IH
 rw[G8]at hmc hend
 refine⟨if m<cnt then .mk 0 [] [] else .mk 0 [] ((List.range m).map V),nx,c,?_,hok⟩
 rw[←hA0]
 refine Zz Tryz.func70 rfl _ Tryz.ntmps70 (by simp) fun C hn hm=>?_
 repeat' (first
|refine Zbg Zk hn rfl ?_
|refine Zbh ?_
|refine Za 30 rfl ?_
|(refine Zc hn rfl rfl rfl ?_;first
|refine⟨_,Z2 rfl,?_⟩)
|(refine Zbf 30 rfl ?_;first|refine Zm rfl ?_|(refine Zd rfl ?_ ?_;·first|omega|rfl|assumption|(simp only[lmT];omega))|((first|refine Ze rfl ?_ ?_|refine Zn rfl ?_ ?_);·first|omega|rfl|assumption|(simp only[lmT];omega))|refine Zbe (Zj hm rfl rfl ?_)|exact Zbe (Zf hm rfl rfl rfl (nbT rfl) rfl rfl))
|refine Zs rfl (tl hn rfl) ?_
|refine Z5 rfl rfl rfl rfl (nbT rfl) ?_
|refine Zx (tl hn rfl) ?_
|refine Zr rfl rfl rfl rfl (nbT rfl) ?_
|(refine Zc hn rfl rfl rfl ?_;first
|refine⟨_,Zq rfl rfl (by omega),?_⟩
|refine⟨_,Zw rfl rfl rfl rfl rfl rfl,?_⟩))
 refine Z4 (e:=36) (sz:=3) 3 2 (by decide) rfl rfl ?_
 refine Tk 30 rfl (fun j=>[(6,.obj 0 0),(7,.obj 1 0),(2,.int number),(3,.int (cnt:Int)),(4,.ro (Ya b)),(5,.int ((A j:Nat):Int)),(12,.obj 2 0),(15,.obj 3 0),(16,.int (j:Int))]) (fun j=>[⟨26,0,[.ro (Wa d)]⟩,⟨78,0,(Xz x).map .ro⟩,⟨36,0,[.int 0,.nil,.nil]⟩,⟨36,0,[.int 0,.nil,.own 4]⟩,⟨36,3,(((List.range j).map V).flatMap Tre.cells).map .ro⟩]) (fun j=>⟨by simp[Free,AV.only],⟨by simp[AV.onlys,AV.only],Yg _ _,by simp[AV.onlys,AV.only],by simp[AV.onlys,AV.only],Yg _ _,trivial⟩⟩) (fun _=>True) m 0 (Nat.zero_le _) trivial ⟨rfl,rfl,rfl,rfl,rfl,rfl,rfl,rfl,rfl,trivial⟩ rfl fun j hj _ next=>?_
 have hI:=Dp hk number (j:Int) (by omega)
 by_cases hlt:j<m
 ·have hcall:=hgood j _ hlt (itL_get (by omega))
  generalize hV:V j=v at hcall
  repeat' (first
|refine Y0 (id:=5) 30 [10,11] [0,1,2,3,4,5,6,7,8,9,10,11,12] 13 [(12,36,[.int .i64 0,.slice none 0 0,.slice none 0 0])] Yc hn rfl (by kernel_rfl) rfl (by decide) (by decide) ?_
|refine RunsT.nil ?_
|refine RunsT.step Zk rfl rfl (fun _=>rfl) (by decide) ?_
|refine RunsT.pur (fun _=>Zi hI rfl) (by decide) rfl rfl ?_
|refine RunsT.pur (fun _=>Zi hcall rfl) (by decide) rfl rfl ?_
|refine RunsT.pur (fun _=>Zq rfl rfl (by omega)) (by decide) rfl rfl ?_
|refine RunsT.alloc (p:=0) rfl inferInstance ?_
|refine RunsT.alloc (p:=1) rfl inferInstance ?_
|refine Zbg Zk hn rfl ?_
|refine Zbh ?_
|refine Za 30 rfl ?_
|(refine Zc hn rfl rfl rfl ?_;first
|refine⟨_,Zi hI rfl,?_⟩
|refine⟨_,Zi hcall rfl,?_⟩)
|(refine Zbf 30 rfl ?_;first|refine Zm rfl ?_|(refine Zd rfl ?_ ?_;·first|omega|rfl|assumption|(simp only[lmT];omega))|((first|refine Ze rfl ?_ ?_|refine Zn rfl ?_ ?_);·first|omega|rfl|assumption|(simp only[lmT];omega))|refine Zbe (Zj hm rfl rfl ?_)|exact Zbe (Zf hm rfl rfl rfl (nbT rfl) rfl rfl))
|refine Zs rfl (tl hn rfl) ?_
|refine Z5 rfl rfl rfl rfl (nbT rfl) ?_
|refine Zx (tl hn rfl) ?_
|refine Zr rfl rfl rfl rfl (nbT rfl) ?_
|(refine Zc hn rfl rfl rfl ?_;first
|refine⟨_,Zq rfl rfl (by omega),?_⟩
|refine⟨_,Zw rfl rfl rfl rfl rfl rfl,?_⟩))
  refine RunsL.junk 3 2 rfl (Yl (t:=47) (i:=4) (n:=j) (rs:=((List.range j).map V).flatMap Tre.cells) (els:=[[.int v.number,Ya v.bytes,X3 v.items]]) rfl rfl rfl rfl rfl rfl (by rw[Tj,lmT,List.length_range]) (FreeI.at_ (i:=4) ⟨by simp[AV.onlys,AV.only],Yg _ _,by simp[AV.onlys,AV.only],by simp[AV.onlys,AV.only],Yg _ _,Yg _ [.int v.number,Ya v.bytes,X3 v.items],trivial⟩) (by simp;omega) (by simp;omega) (tl hn rfl) ?_)
  repeat' (first
|refine Zbg Zk hn rfl ?_
|refine Zbh ?_
|refine Za 30 rfl ?_
|(refine Zbf 30 rfl ?_;first|refine Zm rfl ?_|(refine Zd rfl ?_ ?_;·first|omega|rfl|assumption|(simp only[lmT];omega))|((first|refine Ze rfl ?_ ?_|refine Zn rfl ?_ ?_);·first|omega|rfl|assumption|(simp only[lmT];omega))|refine Zbe (Zj hm rfl rfl ?_)|exact Zbe (Zf hm rfl rfl rfl (nbT rfl) rfl rfl))
|refine Zs rfl (tl hn rfl) ?_
|refine Z5 rfl rfl rfl rfl (nbT rfl) ?_
|refine Zx (tl hn rfl) ?_
|refine Zr rfl rfl rfl rfl (nbT rfl) ?_
|(refine Zc hn rfl rfl rfl ?_;first
|refine⟨_,Zq rfl rfl (by omega),?_⟩
|refine⟨_,Zw rfl rfl rfl rfl rfl rfl,?_⟩))
  have e:=Pt V j
  rw[hV]at e
  refine next _ _ [⟨36,0,[.int v.number,.ro (Ya v.bytes),.ro (X3 v.items)]⟩] ⟨rfl,rfl,rfl,rfl,rfl,rfl,rfl,rfl,rfl,trivial⟩ hlt trivial ?_
  rw[e]
  rfl
 ·obtain rfl:j=m:=by omega
  by_cases hmc':j<cnt
  ·obtain⟨hc0,hcall⟩:=hbad _ (itL_get hmc')
   rw[if_pos hmc']
   generalize hV:V j=v at hcall
   repeat' (first
|refine Y0 (id:=5) 30 [10,11] [0,1,2,3,4,5,6,7,8,9,10,11,12] 13 [(12,36,[.int .i64 0,.slice none 0 0,.slice none 0 0])] Yc hn rfl (by kernel_rfl) rfl (by decide) (by decide) ?_
|refine RunsT.nil ?_
|refine RunsT.step Zk rfl rfl (fun _=>rfl) (by decide) ?_
|refine RunsT.pur (fun _=>Zi hI rfl) (by decide) rfl rfl ?_
|refine RunsT.pur (fun _=>Zi hcall rfl) (by decide) rfl rfl ?_
|refine RunsT.pur (fun _=>Z2 rfl) (by decide) rfl rfl ?_
|refine RunsT.pur (fun _=>Zq rfl rfl (by omega)) (by decide) rfl rfl ?_
|refine RunsT.alloc (p:=0) rfl inferInstance ?_
|refine RunsT.alloc (p:=1) rfl inferInstance ?_
|refine Zbg Zk hn rfl ?_
|refine Zbh ?_
|refine Za 30 rfl ?_
|(refine Zc hn rfl rfl rfl ?_;first
|refine⟨_,Zi hI rfl,?_⟩
|refine⟨_,Zi hcall rfl,?_⟩
|refine⟨_,Z2 rfl,?_⟩)
|(refine Zbf 30 rfl ?_;first|refine Zm rfl ?_|(refine Zd rfl ?_ ?_;·first|omega|rfl|assumption|(simp only[lmT];omega))|((first|refine Ze rfl ?_ ?_|refine Zn rfl ?_ ?_);·first|omega|rfl|assumption|(simp only[lmT];omega))|refine Zbe (Zj hm rfl rfl ?_)|exact Zbe (Zf hm rfl rfl rfl (nbT rfl) rfl rfl))
|refine Zs rfl (tl hn rfl) ?_
|refine Z5 rfl rfl rfl rfl (nbT rfl) ?_
|refine Zx (tl hn rfl) ?_
|refine Zr rfl rfl rfl rfl (nbT rfl) ?_
|(refine Zc hn rfl rfl rfl ?_;first
|refine⟨_,Zq rfl rfl (by omega),?_⟩
|refine⟨_,Zw rfl rfl rfl rfl rfl rfl,?_⟩))
   exact Zbf 30 rfl (Zbe (Y1 (i:=2) (v:=.mk 0 [] []) hm rfl rfl rfl rfl rfl rfl Y6 rfl))
  ·obtain⟨rfl,rfl⟩:=hend (by omega)
   rw[if_neg hmc']
   repeat' (first
|refine Zbg Zk hn rfl ?_
|refine Zbh ?_
|refine Za 30 rfl ?_
|(refine Zbf 30 rfl ?_;first|refine Zm rfl ?_|(refine Zd rfl ?_ ?_;·first|omega|rfl|assumption|(simp only[lmT];omega))|((first|refine Ze rfl ?_ ?_|refine Zn rfl ?_ ?_);·first|omega|rfl|assumption|(simp only[lmT];omega))|refine Zbe (Zj hm rfl rfl ?_)|exact Zbe (Zf hm rfl rfl rfl (nbT rfl) rfl rfl))
|refine Zs rfl (tl hn rfl) ?_
|refine Z5 rfl rfl rfl rfl (nbT rfl) ?_
|refine Zx (tl hn rfl) ?_
|refine Zr rfl rfl rfl rfl (nbT rfl) ?_
|(refine Zc hn rfl rfl rfl ?_;first
|refine⟨_,Zq rfl rfl (by omega),?_⟩
|refine⟨_,Zw rfl rfl rfl rfl rfl rfl,?_⟩))
   exact Zbf 30 rfl (Zbe (Y1 (i:=2) (cs:=[.int 0,.nil,.own 4]) (v:=.mk 0 [] ((List.range j).map V)) hm rfl rfl rfl rfl rfl rfl (.cons .ro (.cons (Lends.nil 1) (.cons (Lends.own (i:=4) (o:=⟨36,3,(((List.range j).map V).flatMap Tre.cells).map .ro⟩) (els:=((List.range j).map V).map Tre.cells) rfl (by rw[List.flatMap_def]) fun x hx=>by obtain⟨y,_,rfl⟩:=List.mem_map.1 hx;exact Tre.cells_len y) .nil))) rfl))
section
variable{d:Des}(hD:DrawD d)
include hD
theorem bgn{m:Mch}{b i:Nat}{y:Ins}{l:List UInt8}{t:Int}(h:Pos d m b i y)(hs:m.started=false)(hB:¬Bad (fin (cdF d) m l))(ho:(y.op=2∧t=1)∨(y.op=3∧t=y.a)∨(y.op=13∧t=1)∨(y.op=16∧t=1))(ht:t≠0):fin (cdF d) m l=fin (cdF d) {m with started:=true,left:=t} l:=by
 rw[mgo hD h hs hB]
 congr 1
 rcases ho with⟨o,rfl⟩|⟨o,rfl⟩|⟨o,rfl⟩|⟨o,rfl⟩<;>simp[Yq,o,X7,ht]
theorem fixed_sm{n j:Nat}{x:Rul}(hx:d[j]?=some x)(hk:x.kind=3)(hs:1≤x.size∧x.size≤4):Us d (n+1) j:=by
 intro m l S a hR hat hS hB
 have hj:=(Za5.1 hx).1
 have hL:blk d j=[⟨3,x.size,0⟩,⟨10,0,0⟩]:=by rw[Wr hD hx];unfold Xh Y7;rw[if_neg (by omega),if_neg (by omega),if_pos hk];rfl
 rw[V4 d n _ l x (Qx hx),if_pos (.inr hk),Qx hx]
 have hy0:(blk d j)[0]?=some ⟨3,x.size,0⟩:=by rw[hL];rfl
 have hy1:(blk d j)[1]?=some ⟨10,0,0⟩:=by rw[hL];rfl
 have hP:Pos d m j 0 ⟨3,x.size,0⟩:=⟨hj,hy0,by rw[hat];simp,hR.st⟩
 have hg:=bgn hD hP hR.started hB (.inr (.inl ⟨rfl,rfl⟩)) (show x.size≠0 by omega)
 obtain⟨N,hN⟩:∃N:Nat,x.size=((N+1:Nat):Int):=⟨x.size.toNat-1,by omega⟩
 have hsk:=Pk hD (b:=j) (i:=0) (y:=⟨3,x.size,0⟩) (.inl rfl) N {m with started:=true,left:=x.size} l ⟨hj,hy0,hP.pos,hR.st⟩ rfl hR.escaped hN (by have:=hs.2;omega)
 have hN':x.size.toNat=N+1:=by omega
 unfold rdI
 rw[hN']
 by_cases h:l.length<N+1
 ·rw[if_pos h]
  exact⟨fun k hk=>by simp at hk,fun c hc=>by simp at hc;subst hc;rw[hg];exact hsk.1 h⟩
 ·rw[if_neg h]
  refine SmR.ret hD (i:=1) (g:=m.register) (lf:=0) hR hj hy1 rfl hB (by omega) (fun e=>by omega) ?_
  rw[hg,hsk.2 (by omega),←hS,N9 hR.started]
  rfl
theorem Fg{j:Nat}(hj:j<d.length):∀(u:List UInt8) (i:Nat) (m:Mch) (l:List UInt8),Rest m→m.pc=(stA d j:Int)+(i:Int)→(∀(k:Nat) c,u[k]?=some c→(blk d j)[i+k]?=some ⟨2,(c.toNat:Int),0⟩)→¬Bad (fin (cdF d) m l) →
  SmR d m l (H2 u l) ((stA d j:Int)+((i+u.length:Nat):Int)) m.stack fun _ _=>True
 | [],i,m,l,hR,ha,_,_=>by
  refine⟨fun k hk=>?_,fun c hc=>by simp[H2]at hc⟩
  simp[H2]at hk;subst hk
  exact⟨Nat.zero_le _,m.register,m.left,trivial,by rw[List.take_zero,Eb,List.drop_zero,Za9,Nat.add_zero,←ha];rfl⟩
 |c::u,i,m,l,hR,ha,hy,hB=>by
  have hy0:=hy 0 c rfl
  have hP:Pos d m j i ⟨2,(c.toNat:Int),0⟩:=⟨hj,hy0,ha,hR.st⟩
  have hg:=bgn hD hP hR.started hB (.inl ⟨rfl,rfl⟩) (by decide)
  have hP1:Pos d {m with started:=true,left:=1} j i ⟨2,(c.toNat:Int),0⟩:=⟨hj,hy0,ha,hR.st⟩
  cases l with
  |nil=>exact⟨fun k hk=>by simp[H2]at hk,fun e he=>by simp[H2]at he;subst he;rw[hg];exact G0 hD hP1 rfl⟩
  |cons b l=>
   have hb:=meat hD (c:=b) (l:=l) hP1 rfl (fun e=>by simp at e) (fun e=>by simp at e)
   have e2:Uo {m with started:=true,left:=1} ⟨2,(c.toNat:Int),0⟩ (b.toNat:Int)=if b≠c then X6 (Yi {m with started:=true,left:=1} (b.toNat:Int)) 2 else {Vj m [b] with pc:=(stA d j:Int)+((i+1:Nat):Int),left:=0}:=by
    have hi:((b.toNat:Int)≠(c.toNat:Int))↔b≠c:=⟨fun h e=>h (by rw[e]),fun h e=>h (UInt8.toNat_inj.1 (by omega))⟩
    unfold Uo Vi
    simp only[hi]
    by_cases h:b≠c
    ·simp[h]
    ·simp only[h,if_false]
     have hw:w64 (m.pc+1)=_:=hP.small hD
     have h0:w64 0=0:=Wh (by omega)
     simp[Ws,Yi,hw,h0,Vj,Mo,redF,hR.started]
   rw[H2]
   by_cases h:b=c
   ·rw[if_pos h]
    rw[e2,if_neg (fun e=>e h)]at hb
    have hf:=hg.trans hb
    have ih:=Fg hj u (i+1) {Vj m [b] with pc:=(stA d j:Int)+((i+1:Nat):Int),left:=0} l ⟨hR.st,hR.started,hR.escaped⟩ rfl (fun k c hk=>by rw[show i+1+k=i+(k+1) by omega];exact hy (k+1) c (by simpa using hk)) (by rw[←hf];exact hB)
    have h1:SmR d m (b::l) (.ok 1) ((stA d j:Int)+((i+1:Nat):Int)) m.stack fun _ _=>True:=⟨fun k hk=>by
     simp at hk;subst hk
     exact⟨by simp,m.register,0,trivial,hf⟩,fun c hc=>by simp at hc⟩
    rw[Za8,show i+(u.length+1)=i+1+u.length by omega]
    have:=h1.then_ (f:=fun _=>H2 u l) (a':=(stA d j:Int)+((i+1+u.length:Nat):Int)) (S':=m.stack) (q':=fun _ _=>True) fun k g lf hk _ _ hf'=>by
     simp at hk;subst hk
     exact Gc (by rw[←hf',hf];rfl) ih fun u g lf=>rfl
    exact this
   ·rw[if_neg h]
    rw[e2,if_pos h]at hb
    refine⟨fun k hk=>by simp at hk,fun e he=>?_⟩
    simp at he;subst he
    rw[hg,hb,Vq rfl];rfl
theorem const_sm{n j:Nat}{x:Rul}(hx:d[j]?=some x)(hk:x.kind=2):Us d (n+1) j:=by
 intro m l S a hR hat hS hB
 have hj:=(Za5.1 hx).1
 have hL:blk d j=(x.bytes.map fun b=>(⟨2,(b.toNat:Int),0⟩:Ins))++[⟨10,0,0⟩]:=by rw[Wr hD hx];unfold Xh Y7;rw[if_neg (by omega),if_pos hk]
 rw[V4 d n _ l x (Qx hx),if_neg (by omega),if_pos hk,Qx hx]
 have h:=Fg hD hj x.bytes 0 m l hR (by rw[hat];simp) (fun k c hk=>by rw[hL,Nat.zero_add,Zbc (by rw[lmT];exact(Za5.1 hk).1),List.getElem?_map,hk];rfl) hB
 have hy:(blk d j)[0+x.bytes.length]?=some ⟨10,0,0⟩:=by rw[hL,Nat.zero_add,Zbd (by simp),lmT,Nat.sub_self];rfl
 cases e:H2 x.bytes l with
 |error c=>exact⟨fun k hk=>by simp at hk,fun c' hc=>by simp at hc;subst hc;exact h.2 _ e⟩
 |ok k=>
  obtain⟨hkl,g,lf,_,hf⟩:=h.1 k e
  exact SmR.ret hD (i:=0+x.bytes.length) (g:=g) (lf:=lf) hR hj hy rfl hB hkl (fun e=>by omega) (by rw[hf,hS])
theorem til_go{j i:Nat}{t:UInt8}:∀(N:Nat) (m:Mch) (l:List UInt8),l.length≤N→Pos d m j i ⟨16,(t.toNat:Int),0⟩→m.started=true→m.escaped=false→m.left=1 →
  (∀k,til t l = .ok k→k≤l.length∧fin (cdF d) m l=fin (cdF d) {Vj m (l.take k) with pc:=(stA d j:Int)+((i+1:Nat):Int),started:=false,left:=0} (l.drop k))∧(∀c,til t l = .error c→I6 (fin (cdF d) m l)=c)
 |_,m,[],_,hP,hs,_,_=>⟨fun k hk=>by simp[til]at hk,fun c hc=>by simp[til]at hc;subst hc;exact G0 hD hP hs⟩
 |0,m,c::l,hN,_,_,_,_=>by simp at hN
 |N+1,m,c::l,hN,hP,hs,he,hl=>by
  rw[Za8]at hN
  have h0:w64 0=0:=Wh (by omega)
  have hw:=hP.small hD
  have hinj:∀a b:UInt8,((a.toNat:Int)=(b.toNat:Int))↔a=b:=fun a b=>⟨fun h=>UInt8.toNat_inj.1 (by omega),fun h=>by rw[h]⟩
  have h92:∀a:UInt8,((a.toNat:Int)=92)↔a=92:=fun a=>⟨fun h=>UInt8.toNat_inj.1 (by show a.toNat=92;omega),fun h=>by rw[h];rfl⟩
  have tk:∀(M:Mch) (c:UInt8),Uo M ⟨16,(t.toNat:Int),0⟩ (c.toNat:Int)=if M.escaped=false∧c=t then Ws (Yi M (c.toNat:Int)) else {Yi M (c.toNat:Int) with escaped := !M.escaped&&decide (c=92),left:=1}:=fun M c=>by
   unfold Uo Vi
   rw[if_neg (show ¬(16:Int)=15 by decide),if_neg (show ¬(16:Int)=1 by decide),if_neg (show ¬(16:Int)=13 by decide),if_pos rfl]
   by_cases h:M.escaped=false∧c=t
   ·rw[if_pos h,if_pos ⟨h.1,by rw[h.2]⟩]
   ·rw[if_neg h,if_neg fun e=>h ⟨e.1,(hinj _ _).1 e.2⟩]
    simp only[h92]
    rfl
  have e1:=meat hD (c:=c) (l:=l) hP hs (fun e=>by simp at e) (fun e=>by simp at e)
  rw[tk]at e1
  rw[Qy]
  by_cases hct:c=t
  ·rw[if_pos hct]
   rw[if_pos ⟨he,hct⟩]at e1
   refine⟨fun k hk=>?_,fun c hc=>by simp at hc⟩
   simp at hk;subst hk
   refine⟨by simp,?_⟩
   rw[e1]
   simp[Ws,Yi,hl,h0,hw,Vj,Mo,redF]
  rw[if_neg hct]
  rw[if_neg (fun h=>hct h.2)]at e1
  by_cases h9:c=92
  ·rw[if_pos h9]
   have hP1:Pos d {Yi m (c.toNat:Int) with escaped := !m.escaped&&decide (c=92),left:=1} j i ⟨16,(t.toNat:Int),0⟩:=⟨hP.hb,hP.hy,hP.pos,hP.st⟩
   cases l with
   |nil=>exact⟨fun k hk=>by simp at hk,fun e hc=>by simp at hc;subst hc;rw[e1];exact G0 hD hP1 hs⟩
   |cons c2 l=>
    have e2:=meat hD (c:=c2) (l:=l) hP1 hs (fun e=>by simp at e) (fun e=>by simp at e)
    rw[tk,if_neg (by simp[he,h9])]at e2
    rw[Za8]at hN
    have hP2:Pos d {Yi {Yi m (c.toNat:Int) with escaped := !m.escaped&&decide (c=92),left:=1} (c2.toNat:Int) with escaped:=false,left:=1} j i ⟨16,(t.toNat:Int),0⟩:=⟨hP.hb,hP.hy,hP.pos,hP.st⟩
    have e3:({Yi {Yi m (c.toNat:Int) with escaped := !m.escaped&&decide (c=92),left:=1} (c2.toNat:Int) with escaped := !({Yi m (c.toNat:Int) with escaped := !m.escaped&&decide (c=92),left:=1}:Mch).escaped&&decide (c2=92),left:=1}:Mch)={Yi {Yi m (c.toNat:Int) with escaped := !m.escaped&&decide (c=92),left:=1} (c2.toNat:Int) with escaped:=false,left:=1}:=by simp[he,h9]
    rw[e3]at e2
    have ih:=til_go N _ l (by omega) hP2 hs rfl rfl
    simp only
    cases et:til t l with
    |error c'=>
     exact⟨fun k hk=>by simp[plus]at hk,fun e hc=>by simp[plus]at hc;subst hc;rw[e1,e2];exact ih.2 _ et⟩
    |ok k=>
     refine⟨fun k' hk'=>?_,fun e hc=>by simp[plus]at hc⟩
     simp[plus]at hk';subst hk'
     obtain⟨i1,i2⟩:=ih.1 k et
     refine⟨by simp;omega,?_⟩
     rw[e1,e2,i2,show 2+k=k+1+1 by omega,List.take_succ_cons,List.take_succ_cons,List.drop_succ_cons,List.drop_succ_cons]
     congr 1
     show _=({Vj m ([c]++([c2]++l.take k)) with pc:=_,started:=false,left:=0}:Mch)
     rw[←U2,←U2,←he]
     rfl
  ·rw[if_neg h9]
   have e3:({Yi m (c.toNat:Int) with escaped := !m.escaped&&decide (c=92),left:=1}:Mch)={Yi m (c.toNat:Int) with escaped:=false,left:=1}:=by simp[h9]
   rw[e3]at e1
   have ih:=til_go N {Yi m (c.toNat:Int) with escaped:=false,left:=1} l (by omega) ⟨hP.hb,hP.hy,hP.pos,hP.st⟩ hs rfl rfl
   cases et:til t l with
   |error c'=>
    exact⟨fun k hk=>by simp[plus]at hk,fun e hc=>by simp[plus]at hc;subst hc;rw[e1];exact ih.2 _ et⟩
   |ok k=>
    refine⟨fun k' hk'=>?_,fun e hc=>by simp[plus]at hc⟩
    simp[plus]at hk';subst hk'
    obtain⟨i1,i2⟩:=ih.1 k et
    refine⟨by simp;omega,?_⟩
    rw[e1,i2,show 1+k=k+1 by omega,List.take_succ_cons,List.drop_succ_cons]
    congr 1
    show _=({Vj m ([c]++l.take k) with pc:=_,started:=false,left:=0}:Mch)
    rw[←U2,←he]
    rfl
theorem term_sm{n j:Nat}{x:Rul}(hx:d[j]?=some x)(hk:x.kind=10){t:UInt8}(hb:x.bytes=[t]):Us d (n+1) j:=by
 intro m l S a hR hat hS hB
 have hj:=(Za5.1 hx).1
 have hL:blk d j=[⟨16,(t.toNat:Int),0⟩,⟨10,0,0⟩]:=by rw[Wr hD hx];unfold Xh Y7;rw[if_neg (by omega),if_neg (by omega),if_neg (by omega),if_neg (by omega),if_neg (by omega),if_neg (by omega),if_neg (by omega),if_neg (by omega),if_neg (by omega),hb];rfl
 rw[V4 d n _ l x (Qx hx),if_neg (by omega),if_neg (by omega),if_pos hk,Qx hx,hb]
 have hy0:(blk d j)[0]?=some ⟨16,(t.toNat:Int),0⟩:=by rw[hL];rfl
 have hy1:(blk d j)[1]?=some ⟨10,0,0⟩:=by rw[hL];rfl
 have hP:Pos d m j 0 ⟨16,(t.toNat:Int),0⟩:=⟨hj,hy0,by rw[hat];simp,hR.st⟩
 have hg:=bgn hD hP hR.started hB (.inr (.inr (.inr ⟨rfl,rfl⟩))) (by decide)
 have h:=til_go hD l.length {m with started:=true,left:=1} l (Nat.le_refl _) ⟨hj,hy0,hP.pos,hR.st⟩ rfl hR.escaped rfl
 show SmR d m l (til t l) a S _
 cases e:til t l with
 |error c=>exact⟨fun k hk=>by simp at hk,fun c' hc=>by simp at hc;subst hc;rw[hg];exact h.2 _ e⟩
 |ok k=>
  obtain⟨hkl,hf⟩:=h.1 k e
  refine SmR.ret hD (i:=1) (g:=m.register) (lf:=0) hR hj hy1 rfl hB hkl (fun e=>by omega) ?_
  rw[hg,hf,←hS,N9 hR.started]
  rfl
end
section
variable{d:Des}(hD:DrawD d)
include hD
theorem Ln{n j:Nat}(IH:∀z:Nat,z<j→Us d n z){z:Int}(hz:0≤z∧z<j):∃q:Nat,z=q∧Us d n q∧Y4 (cdE d j) z=⟨9,(stA d q:Int),0⟩:=by
 obtain⟨q,rfl⟩:∃q:Nat,z=q:=⟨z.toNat,by omega⟩
 exact⟨q,rfl,IH q (by omega),en_at hD hz⟩
theorem seq_sm{n j:Nat}{x:Rul}(hx:d[j]?=some x)(hk:x.kind=6)(IH:∀z:Nat,z<j→Us d n z):Us d (n+1) j:=by
 intro m l S a hR hat hS hB
 have hj:=(Za5.1 hx).1
 have hkid:=hD.kid hx
 have hL:blk d j=x.kids.map (Y4 (cdE d j))++[⟨10,0,0⟩]:=by rw[Wr hD hx];unfold Xh Y7;rw[if_neg (by omega),if_neg (by omega),if_neg (by omega),if_neg (by omega),if_neg (by omega),if_pos hk]
 rw[V4 d n _ l x (Qx hx),if_neg (by omega),if_neg (by omega),if_neg (by omega),if_pos hk,Qx hx]
 have hil:=G8 x 0 x.kids.length
 have h:=Hp hD hj (itL x 0 x.kids.length) 0 m l (fun i z hi=>by
  obtain⟨h1,h2⟩:=S4 hi
  have h3:x.kids[i]?=some z:=by
   unfold Xb at h2
   rw[if_neg (by omega),if_pos hk,Int.toNat_natCast,Za6 h1]at h2
   rw[Za6 h1,h2];rfl
  obtain⟨q,rfl,hI,hc⟩:=Ln hD IH (hkid z (Zba h3))
  exact⟨q,rfl,hI,_,by rw[hL,Nat.zero_add,Zbc (by rw[lmT];exact h1),List.getElem?_map,h3];rfl,by rw[hc],by rw[hc]⟩) hR (by rw[hat];simp) hB
 rw[hil,Nat.zero_add]at h
 have hy:(blk d j)[x.kids.length]?=some ⟨10,0,0⟩:=by rw[hL,Zbd (by simp),lmT,Nat.sub_self];rfl
 cases e:rdS (rdF d n) (itL x 0 x.kids.length) l with
 |error c=>exact⟨fun k hk=>by simp at hk,fun c' hc=>by simp at hc;subst hc;exact h.2 _ e⟩
 |ok k=>
  obtain⟨hkl,g,lf,_,hf⟩:=h.1 k e
  exact SmR.ret hD (i:=x.kids.length) (g:=g) (lf:=lf) hR hj hy rfl hB hkl (fun e=>by omega) (by rw[hf,hS])
theorem one_sm{n b i:Nat}{z:Int}{q:Nat}(hz:z=q)(hI:Us d n q){y:Ins}{m:Mch}{l:List UInt8}(hP:Pos d m b i y)(hR:Rest m)(ho:y.op=9)(ha:y.a=(stA d q:Int))(hB:¬Bad (fin (cdF d) m l)) :
  SmR d m l (rdS (rdF d n) [z] l) ((stA d b:Int)+((i+1:Nat):Int)) m.stack fun _ _=>True:=by
 have:=Hp hD hP.hb [z] i m l (fun j w hj=>by
  cases j with
  |zero=>simp at hj;subst hj;exact⟨q,hz,hI,y,hP.hy,ho,ha⟩
  |succ j=>simp at hj) hR hP.pos hB
 exact this
theorem Em{m:Mch}{b i:Nat}{l:List UInt8}{S:List Int}{a:Int}{e:Got}{q q':Int→Nat→Prop}{y:Ins}(hR:Rest m)(hb:b<d.length)(hy:(blk d b)[i]?=some y)(ho:y.op=10)(hB:¬Bad (fin (cdF d) m l))(hq:∀g k,q' g k)(h:SmR d m l e ((stA d b:Int)+(i:Int)) (S++[a]) q):SmR d m l e a S q':=by
 cases e with
 |error c=>exact⟨fun k hk=>by simp at hk,fun c' hc=>by simp at hc;subst hc;exact h.2 _ rfl⟩
 |ok k=>
  obtain⟨hkl,g,lf,_,hf⟩:=h.1 k rfl
  exact SmR.ret hD (i:=i) (g:=g) (lf:=lf) hR hb hy ho hB hkl (hq _ _) hf
theorem Re{x:Rul}{n:Int}:itL x n 1=[Xb x n 0]:=rfl
theorem option_sm{n j:Nat}{x:Rul}(hx:d[j]?=some x)(hk:x.kind=8){z:Int}(hkk:x.kids=[z])(IH:∀z:Nat,z<j→Us d n z):Us d (n+1) j:=by
 intro m l S a hR hat hS hB
 have hj:=(Za5.1 hx).1
 have hkid:=hD.kid hx z (by rw[hkk];simp)
 have hsb:=s_bd hD hj
 have w1:w64 ((stA d j:Int)+2)=(stA d j:Int)+2:=Wh (by omega)
 obtain⟨q,hzq,hI,hc⟩:=Ln hD IH hkid
 have hL:blk d j=[⟨13,(stA d j:Int)+2,0⟩,⟨9,(stA d q:Int),0⟩,⟨10,0,0⟩]:=by
  rw[Wr hD hx];unfold Xh Y7
  rw[if_neg (by omega),if_neg (by omega),if_neg (by omega),if_neg (by omega),if_neg (by omega),if_neg (by omega),if_neg (by omega),if_pos hk,hkk,w1,List.headD_cons,hc];rfl
 rw[V4 d n _ l x (Qx hx),if_neg (by omega),if_neg (by omega),if_neg (by omega),if_neg (by omega),if_pos hk,Qx hx]
 have hy0:(blk d j)[0]?=some ⟨13,(stA d j:Int)+2,0⟩:=by rw[hL];rfl
 have hy1:(blk d j)[1]?=some ⟨9,(stA d q:Int),0⟩:=by rw[hL];rfl
 have hy2:(blk d j)[2]?=some ⟨10,0,0⟩:=by rw[hL];rfl
 have hP:Pos d m j 0 ⟨13,(stA d j:Int)+2,0⟩:=⟨hj,hy0,by rw[hat];simp,hR.st⟩
 have hg:=bgn hD hP hR.started hB (.inr (.inr (.inl ⟨rfl,rfl⟩))) (by decide)
 have hP1:Pos d {m with started:=true,left:=1} j 0 ⟨13,(stA d j:Int)+2,0⟩:=⟨hj,hy0,hP.pos,hR.st⟩
 have it:Xb x 0 0=z:=by unfold Xb;rw[if_neg (by omega),if_neg (by omega),if_neg (by omega),if_pos (.inl hk),hkk];rfl
 cases l with
 |nil=>exact⟨fun k hk=>by simp at hk,fun e he=>by simp at he;subst he;rw[hg];exact G0 hD hP1 rfl⟩
 |cons c l=>
  have hb:=meat hD (c:=c) (l:=l) hP1 rfl (fun e=>by simp at e) (fun e=>by simp at e)
  have h0:w64 0=0:=Wh (by omega)
  have hw:w64 (m.pc+1)=_:=hP.small hD
  have e2:Uo {m with started:=true,left:=1} ⟨13,(stA d j:Int)+2,0⟩ (c.toNat:Int)=if 1<(c.toNat:Int) then X6 (Yi {m with started:=true,left:=1} (c.toNat:Int)) 4 else {Vj m [c] with pc:=if(c.toNat:Int)=0 then(stA d j:Int)+2 else(stA d j:Int)+((0+1:Nat):Int),left:=0}:=by
   unfold Uo Vi
   by_cases h:1<(c.toNat:Int)
   ·simp[h]
   ·simp only[h,if_false]
    simp[Yi,hw,h0,Vj,Mo,redF,hR.started]
  rw[e2]at hb
  by_cases h1:1<c.toNat
  ·simp only[if_pos h1]
   rw[if_pos (by omega)]at hb
   refine⟨fun k hk=>by simp at hk,fun e he=>?_⟩
   simp at he;subst he
   rw[hg,hb,Vq rfl];rfl
  ·simp only[if_neg h1]
   rw[if_neg (by omega)]at hb
   have hf:=hg.trans hb
   by_cases hc0:c.toNat=0
   ·rw[if_pos (by omega)]at hf
    rw[hc0]
    show SmR d m (c::l) (.ok 1) a S _
    refine SmR.ret hD (i:=2) (g:=m.register) (lf:=0) hR hj hy2 rfl hB (by simp) (fun e=>by omega) ?_
    rw[hf,←hS]
    rfl
   ·rw[if_neg (by omega)]at hf
    have hc1:c.toNat=1:=by omega
    rw[hc1,Re hD,it]
    have h1:SmR d m (c::l) (.ok 1) ((stA d j:Int)+((0+1:Nat):Int)) m.stack fun _ _=>True:=⟨fun k hk=>by
     simp at hk;subst hk
     exact⟨by simp,m.register,0,trivial,hf⟩,fun c hc=>by simp at hc⟩
    have:=h1.then_ (f:=fun _=>rdS (rdF d n) [z] l) (a':=(stA d j:Int)+((0+1+1:Nat):Int)) (S':=m.stack) (q':=fun _ _=>True) fun k g lf hk _ _ hf'=>by
     simp at hk;subst hk
     have hB1:=hB
     rw[hf']at hB1
     exact(one_sm hD hzq hI (m:=M5 (Vj m ((c::l).take 1)) ((stA d j:Int)+((0+1:Nat):Int)) m.stack g lf) (l:=l) (y:=⟨9,(stA d q:Int),0⟩) ⟨hj,hy1,rfl,hR.st⟩ ⟨hR.st,hR.started,hR.escaped⟩ rfl rfl hB1).mono fun _ _ _=>trivial
    exact Em hD hR hj (i:=0+1+1) hy2 rfl hB (fun _ _ e=>by omega) (by rw[←hS];exact this)
theorem Zas{n j:Nat}{x:Rul}(hx:d[j]?=some x)(hk:x.kind=9){z:Int}(hkk:x.kids=[z])(IH:∀z:Nat,z<j→Us d n z):Us d (n+1) j:=by
 intro m l S a hR hat hS hB
 have hj:=(Za5.1 hx).1
 have hkid:=hD.kid hx z (by rw[hkk];simp)
 obtain⟨q,hzq,hI,hc⟩:=Ln hD IH hkid
 have hL:blk d j=[⟨14,0,0⟩,⟨9,(stA d q:Int),0⟩,⟨15,0,0⟩,⟨10,0,0⟩]:=by
  rw[Wr hD hx];unfold Xh Y7
  rw[if_neg (by omega),if_neg (by omega),if_neg (by omega),if_neg (by omega),if_neg (by omega),if_neg (by omega),if_neg (by omega),if_neg (by omega),if_pos hk,hkk,List.headD_cons,hc];rfl
 rw[V4 d n _ l x (Qx hx),if_neg (by omega),if_neg (by omega),if_neg (by omega),if_neg (by omega),if_neg (by omega),if_pos hk,Qx hx]
 have hy0:(blk d j)[0]?=some ⟨14,0,0⟩:=by rw[hL];rfl
 have hy1:(blk d j)[1]?=some ⟨9,(stA d q:Int),0⟩:=by rw[hL];rfl
 have hy2:(blk d j)[2]?=some ⟨15,0,0⟩:=by rw[hL];rfl
 have hy3:(blk d j)[3]?=some ⟨10,0,0⟩:=by rw[hL];rfl
 have hP:Pos d m j 0 ⟨14,0,0⟩:=⟨hj,hy0,by rw[hat];simp,hR.st⟩
 have hg:=mgo hD hP hR.started hB
 have e1:Yq m ⟨14,0,0⟩=if 30≤m.sums.length then X6 m 8 else {m with pc:=(stA d j:Int)+((0+1:Nat):Int),sums:=m.sums++[0]}:=by
  have hw:=hP.small hD
  simp[Yq,K2,hw]
 rw[e1]at hg
 by_cases h30:30≤m.sums.length
 ·rw[if_pos h30,Vq (m:=X6 m 8) rfl]at hg
  exact absurd (by rw[hg];exact⟨rfl,rfl⟩) hB
 rw[if_neg h30]at hg
 have it:Xb x 0 0=z:=by unfold Xb;rw[if_neg (by omega),if_neg (by omega),if_neg (by omega),if_pos (.inr hk),hkk];rfl
 rw[Re hD,it]
 have h1:=one_sm hD hzq hI (l:=l) (y:=⟨9,(stA d q:Int),0⟩) (m:={m with pc:=(stA d j:Int)+((0+1:Nat):Int),sums:=m.sums++[0]}) ⟨hj,hy1,rfl,hR.st⟩ ⟨hR.st,hR.started,hR.escaped⟩ rfl rfl (by rw[←hg];exact hB)
 unfold bnd
 cases e:rdS (rdF d n) [z] l with
 |error c=>exact⟨fun k hk=>by simp at hk,fun c' hc=>by simp at hc;subst hc;rw[hg];exact h1.2 _ e⟩
 |ok k=>
  obtain⟨hkl,g,lf,_,hf⟩:=h1.1 k e
  have hf1:=hg.trans hf
  simp only
  -- the machine before the sum's byte
  obtain⟨M,hM⟩:∃M:Mch,M={Vj m (l.take k) with pc:=(stA d j:Int)+((2:Nat):Int),register:=g,sums:=(Vj m (l.take k)).sums++[Mo 0 (l.take k)],left:=lf}:=⟨_,rfl⟩
  have hf2:fin (cdF d) m l=fin (cdF d) M (l.drop k):=by
   rw[hf1,hM]
   congr 1
   simp[Vj,M5]
  have hMs:M.started=false:=by rw[hM];exact hR.started
  have hP2:Pos d M j 2 ⟨15,0,0⟩:=⟨hj,hy2,by rw[hM],by rw[hM];exact hR.st⟩
  have hg2:=mgo hD hP2 hMs (by rw[←hf2];exact hB)
  have hne:M.sums.length≠0:=by rw[hM];simp
  have e3:Yq M ⟨15,0,0⟩={M with started:=true,left:=1}:=by
   rw[show Yq M ⟨15,0,0⟩=if M.sums.length=0 then X6 M 8 else X7 M 1 by simp[Yq],if_neg hne]
   simp[X7]
  rw[e3]at hg2
  have hP3:Pos d {M with started:=true,left:=1} j 2 ⟨15,0,0⟩:=⟨hj,hy2,hP2.pos,hP2.st⟩
  have hdl:(l.drop k).length=l.length-k:=List.length_drop ..
  cases hr:l.drop k with
  |nil=>
   rw[hr]at hf2 hg2
   exact⟨fun k' hk'=>by simp[plus]at hk',fun c' hc=>by simp[plus]at hc;subst hc;rw[hf2,hg2];exact G0 hD hP3 rfl⟩
  |cons c r=>
   rw[hr]at hf2 hg2
   have hb:=meat hD (c:=c) (l:=r) hP3 rfl (fun e=>by simp at e) (fun _=>hne)
   have hlast:(M.sums[M.sums.length-1]?).getD 0=Mo 0 (l.take k):=by rw[hM];simp
   have htake:M.sums.take (M.sums.length-1)=(Vj m (l.take k)).sums:=by rw[hM];simp
   have e4:Uo {M with started:=true,left:=1} ⟨15,0,0⟩ (c.toNat:Int)=if Mo 0 (l.take k)≠(c.toNat:Int) then X6 {M with started:=true,left:=1} 5 else Ws (Yi {M with started:=true,left:=1,sums:=(Vj m (l.take k)).sums} (c.toNat:Int)):=by
    unfold Uo
    rw[if_pos rfl]
    simp only[hlast,htake]
    by_cases h:Mo 0 (l.take k)≠(c.toNat:Int)
    ·rw[if_pos h,if_pos h]
    ·rw[if_neg h,if_neg h];unfold Vi;rfl
   rw[e4]at hb
   have hf3:=(hf2.trans hg2).trans hb
   by_cases hcs:(c.toNat:Int)=Mo 0 (l.take k)
   ·simp only[if_pos hcs,plus]
    rw[if_neg (fun h=>h hcs.symm)]at hf3
    have hlen:k+1≤l.length:=by rw[hr,Za8]at hdl;omega
    refine SmR.ret hD (i:=3) (g:=g) (lf:=0) hR hj hy3 rfl hB hlen (fun e=>by omega) ?_
    have hdk:l.drop (k+1)=r:=by rw[←List.drop_drop,hr];rfl
    have htk:l.take (k+1)=l.take k++[c]:=by rw[List.take_add,hr];rfl
    rw[hf3,hdk,htk,←U2]
    congr 1
    have h0:w64 0=0:=Wh (by omega)
    have hw:=hP2.small hD
    rw[hM]at hw ⊢
    have hw:w64 ((stA d j:Int)+2+1)=(stA d j:Int)+3:=hw
    simp[Ws,Yi,h0,hw,Vj,M5,Mo,redF,hS,hR.started]
   ·simp only[if_neg hcs,plus]
    rw[if_pos (fun h=>hcs h.symm)]at hf3
    refine⟨fun k hk=>by simp at hk,fun e he=>?_⟩
    simp at he;subst he
    rw[hf3,Vq rfl];rfl
end
end Go.Proofs.YtnecoghfhcimeaaGreat
