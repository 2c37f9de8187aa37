/- Gathered texts. -/
import Derived.Test.YtnecoghfhcimeaaGreatGat0
import Derived.Test.YtnecoghfhcimeaaGreatGat1
import Derived.Laws.Tables
import Derived.Test.YtnecoghfhcimeaaGreatChecked
import Derived.Laws.StructEq
import Derived.Laws.IdiomStrings
/- Regions that draw their order, in which operations that look come late, and draws stand in a chain. Over any program. -/
namespace Go.Proofs.YtnecoghfhcimeaaGreat
set_option linter.unusedSimpArgs false
set_option linter.unusedVariables false
set_option linter.unusedSectionVars false
open Go.RowKit
open AV (Mem Wn)
abbrev IOq:=Nat×Oper
abbrev LO:=Nat×Oper×Nat×AV
def Ug(o:Oper):List Nat:=o.op.operands.toList.filterMap fun | .tmp t=>some t|_=>none
def Mr(o:Oper)(i:Nat):Bool:=o.after.any fun e=>Region.binds .any e&&Nat.beq e.on i
def Hi(o:Oper)(q:Nat→Bool):Bool:=o.after.all fun e => !Region.binds .any e || q e.on
def memI(H:List IOq)(i:Nat):Bool:=H.any fun p=>Nat.beq p.1 i
def Az(H:List IOq):List Nat:=H.flatMap fun p=>Ug p.2++p.2.dst.toList
def needB(H:List IOq)(o:Oper):Bool:=H.all fun q=>(Ug o).all fun s=>(match q.2.dst with|some d => !(Nat.beq d s)|none=>true) || Mr o q.1
def Ga:List IOq→Bool
 | []=>true
 | [_]=>true
 |p::q::r=>Mr q.2 p.1&&Ga (q::r)
def progT(H:List IOq):List IOq→List IOq→Bool
 |_,[]=>true
 |old,p::r=>Hi p.2 (fun j=>memI H j || memI old j)&&progT H (p::old) r
def lateB(n:Nat)(H T:List IOq):Bool:=
 (H.all fun p=>needB H p.2&&p.2.guard.isNone&&p.2.dst.isSome&&Hi p.2 (fun j=>Nat.ble (j+1) p.1&&memI H j)) &&
 (T.all fun p=>needB H p.2 && !(memI H p.1)&&(match p.2.dst with|some d => !((Az H).contains d)|none=>true)) &&
 Ga T&&progT H [] T&&((List.range n).all fun i=>memI H i || memI T i)
section
variable{P:Program}{C:Ctx}{l:List Oper}{H T:List IOq}{k:List Item}{R:Act→World→Prop}{ct:TypeId}{u:Value}{more:List Ob}
theorem G3{H:List IOq}{i:Nat}:memI H i=true↔∃p∈H,p.1=i:=by
 simp only[memI,List.any_eq_true]
 constructor
 ·rintro⟨p,hp,e⟩;exact⟨p,hp,Nat.eq_of_beq_eq_true e⟩
 ·rintro⟨p,hp,rfl⟩;exact⟨p,hp,Nat.beq_refl _⟩
theorem waitsB_iff{o:Oper}{i:Nat}:Mr o i=true↔∃e∈o.after,Region.binds .any e=true∧e.on=i:=by
 unfold Mr
 rw[Array.any_eq_true']
 constructor
 ·rintro⟨e,he,h⟩
  rw[Bool.and_eq_true]at h
  exact⟨e,he,h.1,Nat.eq_of_beq_eq_true h.2⟩
 ·rintro⟨e,he,h,rfl⟩
  exact⟨e,he,by rw[Bool.and_eq_true];exact⟨h,Nat.beq_refl _⟩⟩
theorem edgesIn_iff{o:Oper}{q:Nat→Bool}:Hi o q=true↔∀e∈o.after,Region.binds .any e=true→q e.on=true:=by
 unfold Hi
 rw[Array.all_eq_true_iff_forall_mem]
 constructor
 ·intro h e he hb
  have:=h e he
  simpa [hb] using this
 ·intro h e he
  cases hb:Region.binds .any e
  ·simp
  ·simp[h e he hb]
def PurT(P:Program)(C:Ctx)(ct:TypeId)(u:Value)(more:List Ob)(E:Nat→AV)(p:LO):Prop:=
 ∀(a:Act) (m:Mem) (i h:Int),Good C m→m.σ=Yp ct u i h::more→(∀s∈Ug p.2.1,AV.rel m (E s) (a.tmps.getD s undef))→∀(K:Act→World→Prop) (Q:Exit→Act→World→Prop),
  (∀x w',Below m.w.heap.size m.w w'→AV.rel {m with w:=w'} p.2.2.2 x→K (a.put p.2.1.dst x) w')→p.2.1.wp P a m.w K Q
structure LFact (P:Program) (C:Ctx) (ct:TypeId) (u:Value) (more:List Ob) (E:Nat→AV) (p:LO):Prop where
 pur:PurT P C ct u more E p
 val:E p.2.2.1=p.2.2.2
 dst:p.2.1.dst=some p.2.2.1
 lt:p.2.2.1<C.n
def Lw(pd:List LO)(env:Env)(t:Nat):AV:=if pd.any (fun p=>Nat.beq p.2.2.1 t) then .junk else look env t
def SimM(C:Ctx)(E:Nat→AV)(σ:List Ob)(a:Act)(w:World):Prop:=
 a.defers=[]∧a.tmps.size=C.n∧∃φ,Good C ⟨w,φ,σ,C.ok⟩∧∀t,AV.rel ⟨w,φ,σ,C.ok⟩ (E t) (a.tmps.getD t undef)
theorem mem_keys{H:List IOq}{p:IOq}{s:Nat}(hp:p∈H)(hs:s∈Ug p.2):s∈Az H:=List.mem_flatMap.2 ⟨p,hp,List.mem_append_left _ hs⟩
theorem Iz{H:List IOq}{p:IOq}{s:Nat}(hp:p∈H)(hs:p.2.dst=some s):s∈Az H:=List.mem_flatMap.2 ⟨p,hp,List.mem_append_right _ (by simp[hs])⟩
theorem Dj{o:Oper}{s:Nat}(h:Operand.tmp s∈o.op.operands):s∈Ug o:=by
 simp only[Ug,List.mem_filterMap]
 exact⟨.tmp s,by simpa using h,rfl⟩
theorem ev_tmps{m:Mem}{env:Env}{o:Oper}{a:Act}(h:∀s∈Ug o,AV.rel m (look env s) (a.tmps.getD s undef)):∀x∈o.op.operands,AV.rel m (ev env x) (a.eval x):=by
 intro x hx
 cases x with
 |tmp t=>exact h t (Dj hx)
 |const v=>
  have h:=Oy (w:=m.w) (ok:=m.ok) v
  cases v<;>simpa only[ev,AV.rel,Act.eval,Hl] using h
 |func f=>simp only[ev,AV.rel,Act.eval];exact⟨#[],#[],rfl,by simp[AV.rels],by simp[AV.rels]⟩
 |global g=>simp[ev,AV.rel]
theorem wpOp_at{ops:Array Oper}{Q:Exit→Act→World→Prop}{K:Act→World→Prop}{i:Nat}{o:Oper}{a:Act}{w:World}(hi:ops[i]?=some o)(hg:o.guard=none)(h:o.wp P a w K Q):wpOp P ops Q i K a w:=by
 unfold wpOp
 simp only[hi]
 rw[if_pos (by simp[Region.wanted,hg])]
 exact .inl h
theorem D9{listed:Array Bool}:∀(r:List IOq) (p q:IOq),Ga (p::r)=true→(∀x∈p::r,listed.getD x.1 true=false)→(∀x∈p::r,l[x.1]?=some x.2)→q∈r→q.1∈Region.ready .any l.toArray listed→False
 | [],_,_,_,_,_,hq,_=>by cases hq
 |y::r,p,q,hc,hun,hat,hq,hr=>by
  simp only[Ga,Bool.and_eq_true]at hc
  rcases List.mem_cons.1 hq with rfl|hq
  ·obtain⟨e,he,hb,hon⟩:=waitsB_iff.1 hc.1
   obtain⟨_,o,h2,h3⟩:=mem_ready.1 hr
   have hqo:=hat q (by simp)
   rw[show l.toArray[q.1]?=l[q.1]? by simp,hqo]at h2;injection h2 with h2;subst h2
   have:=h3 e he hb
   rw[hon,getD_both (hun p (by simp))]at this
   cases this
  ·exact D9 r y q hc.2 (fun x hx=>hun x (by simp only[List.mem_cons]at hx ⊢;exact .inr hx)) (fun x hx=>hat x (by simp only[List.mem_cons]at hx ⊢;exact .inr hx)) hq hr
theorem W9{listed:Array Bool}{i:Nat}(d:Bool)(h:i<listed.size):(listed.setIfInBounds i true).getD i d=true:=by
 rw[Array.getD_eq_getD_getElem?,Array.getElem?_setIfInBounds_self_of_lt h];rfl
theorem Va{listed:Array Bool}{i j:Nat}(d:Bool)(h:i≠j):(listed.setIfInBounds i true).getD j d=listed.getD j d:=by
 rw[Array.getD_eq_getD_getElem?,Array.getElem?_setIfInBounds_ne h,Array.getD_eq_getD_getElem?]
theorem Tp{listed:Array Bool}{j:Nat}(hs:j<listed.size)(h:listed.getD j true≠false):listed.getD j false=true:=by
 simp only[Array.getD_eq_getD_getElem?,Array.getElem?_eq_getElem hs,Option.getD_some]at h ⊢
 simpa using h
def ClosedL(l:List Oper)(listed:Array Bool):Prop:=∀(j:Nat) o,l[j]?=some o→listed.getD j false=true→∀e∈o.after,Region.binds .any e=true→listed.getD e.on false=true
theorem ClosedL.next{listed:Array Bool}{i:Nat}(h:ClosedL l listed)(hr:i∈Region.ready .any l.toArray listed)(hs:listed.size=l.length):ClosedL l (listed.setIfInBounds i true):=by
 intro j o hj hl e he hb
 have hup:∀k,listed.getD k false=true→(listed.setIfInBounds i true).getD k false=true:=fun k hk=>by
  by_cases e:i=k
  ·subst e
   obtain⟨_,o',h2,_⟩:=mem_ready.1 hr
   exact W9 false (by have:=(Array.getElem?_eq_some_iff.1 h2).1;simp at this;omega)
  ·rw[Va false e];exact hk
 by_cases ei:i=j
 ·subst ei
  obtain⟨_,o',h2,h3⟩:=mem_ready.1 hr
  rw[show l.toArray[i]?=l[i]? by simp,hj]at h2;injection h2 with h2;subst h2
  exact hup _ (h3 e he hb)
 ·rw[Va false ei]at hl
  exact hup _ (h j o hj hl e he hb)
structure LatB (l:List Oper) (H T:List IOq):Prop where
 hat:∀p∈H,l[p.1]?=some p.2
 tat:∀p∈T,l[p.1]?=some p.2
 need:∀p,p∈H∨p∈T→∀q∈H,∀s∈Ug p.2,q.2.dst=some s→Mr p.2 q.1=true
 guard:∀p∈H,p.2.guard=none
 early:∀p∈H,∀e∈p.2.after,Region.binds .any e=true→e.on<p.1∧∃q∈H,q.1=e.on
 apart:∀p∈T,∀q∈H,q.1≠p.1
 fresh:∀p∈T,∀d,p.2.dst=some d→d∉Az H
 chain:Ga T=true
 tnd:(T.map (·.1)).Nodup
 prog:∃old:List IOq,progT H old T=true∧∀q∈old,q.1<l.length∧∀x∈T,x.1≠q.1
theorem LatB.prog'(h:LatB l H T)(p:IOq)(r:List IOq)(e':T=p::r):∀e∈p.2.after,Region.binds .any e=true→∃j,e.on=j∧j<l.length∧∀q∈T,q.1≠j:=by
 intro e he hb
 obtain⟨old,h1,h2⟩:=h.prog
 subst e'
 simp only[progT,Bool.and_eq_true]at h1
 have h3:=edgesIn_iff.1 h1.1 e he hb
 simp only[Bool.or_eq_true,G3]at h3
 refine⟨e.on,rfl,?_⟩
 rcases h3 with⟨q,hq,e1⟩|⟨q,hq,e1⟩
 ·rw[←e1]
  exact⟨(Za5.1 (h.hat q hq)).1,fun x hx=>(h.apart x hx q hq).symm⟩
 ·rw[←e1]
  exact h2 q hq
theorem LatB.tail{p:IOq}{r:List IOq}(h:LatB l H (p::r)):LatB l H r:=
 ⟨h.hat,fun q hq=>h.tat q (by simp[hq]),fun q hq=>h.need q (hq.imp id fun h=>by simp[h]),h.guard,h.early,fun q hq=>h.apart q (by simp[hq]),fun q hq=>h.fresh q (by simp[hq]),by
  have:=h.chain
  cases r with
  |nil=>rfl
  |cons y r=>simp only[Ga,Bool.and_eq_true]at this;exact this.2,by have:=h.tnd;rw[List.map_cons,List.nodup_cons]at this;exact this.2,by
  obtain⟨old,h1,h2⟩:=h.prog
  simp only[progT,Bool.and_eq_true]at h1
  refine⟨p::old,h1.2,fun q hq=>?_⟩
  rcases List.mem_cons.1 hq with rfl|hq
  ·refine⟨(Za5.1 (h.tat q (by simp))).1,fun x hx e=>?_⟩
   have:=h.tnd
   rw[List.map_cons,List.nodup_cons]at this
   exact this.1 (List.mem_map.2 ⟨x,hx,e⟩)
  ·exact⟨(h2 q hq).1,fun x hx=>(h2 q hq).2 x (by simp[hx])⟩⟩
structure RunsP (P:Program) (C:Ctx) (ct:TypeId) (u:Value) (more:List Ob) (l:List Oper) (H T:List IOq) (k:List Item) (R:Act→World→Prop) (i h:Int) (env:Env):Prop where
 run:LatB l H T→∀(late:List LO) (E0:Nat→AV),(∀p∈late,(p.1,p.2.1)∈H)→(∀p∈late,LFact P C ct u more E0 p)→(∀s∈Az H,look env s=E0 s)→∀(n:Nat) (pd:List LO) (listed:Array Bool) (a:Act) (w:World),pd.length=n→(∀p∈pd,p∈late)→listed.size=l.length→ClosedL l listed →
  (∀j,j<l.length→(listed.getD j true=false↔((∃p∈pd,p.1=j)∨∃p∈T,p.1=j)))→SimM C (Lw pd env) (Yp ct u i h::more) a w→wpAny P .any l.toArray (nrm (Fin P k R)) (n+T.length) listed a w
theorem Ac(hB:LatB l H T){i h:Int}{env:Env}{late:List LO}{E0:Nat→AV}(hlH:∀p∈late,(p.1,p.2.1)∈H)(hF:∀p∈late,LFact P C ct u more E0 p)(hE0:∀s∈Az H,look env s=E0 s)
  (head:∀(pd:List LO) (listed:Array Bool) (a:Act) (w:World) (p:IOq) (r:List IOq),T=p::r→(∀q∈pd,q∈late)→listed.size=l.length→ClosedL l listed→(∀j,j<l.length→(listed.getD j true=false↔((∃q∈pd,q.1=j)∨∃q∈T,q.1=j)))→p.1∈Region.ready .any l.toArray listed→SimM C (Lw pd env) (Yp ct u i h::more) a w →
   (∀s∈Ug p.2,Lw pd env s=look env s)→wpOp P l.toArray (nrm (Fin P k R)) p.1 (wpAny P .any l.toArray (nrm (Fin P k R)) (pd.length+r.length) (listed.setIfInBounds p.1 true)) a w) (hT:T≠[]) :
  ∀(n:Nat) (pd:List LO) (listed:Array Bool) (a:Act) (w:World),pd.length=n→(∀p∈pd,p∈late)→listed.size=l.length→ClosedL l listed →
  (∀j,j<l.length→(listed.getD j true=false↔((∃p∈pd,p.1=j)∨∃p∈T,p.1=j)))→SimM C (Lw pd env) (Yp ct u i h::more) a w→wpAny P .any l.toArray (nrm (Fin P k R)) (n+T.length) listed a w:=by
 intro n
 induction n using Nat.strongRecOn with
 |_ n ih=>
 intro pd listed a w hn hpd hls hcls hch hS
 obtain⟨t,r,rfl⟩:∃t r,T=t::r:=by cases T with
  |nil=>exact absurd rfl hT
  |cons t r=>exact⟨t,r,rfl⟩
 have hlt:∀p:IOq,(p∈H∨p∈t::r)→p.1<l.length:=fun p hp=>by
  rcases hp with hp|hp
  ·exact(Za5.1 (hB.hat p hp)).1
  ·exact(Za5.1 (hB.tat p hp)).1
 -- an operation that is ready finds its operands
 have hops:∀p:IOq,(p∈H∨p∈t::r)→p.1∈Region.ready .any l.toArray listed→∀s∈Ug p.2,Lw pd env s=look env s:=fun p hp hr s hs=>by
  unfold Lw
  rw[if_neg]
  intro hany
  obtain⟨q,hq,hb⟩:=List.any_eq_true.1 hany
  have hqs:q.2.2.1=s:=Nat.eq_of_beq_eq_true hb
  have hql:=hpd q hq
  have hw:=hB.need p hp _ (hlH q hql) s hs (by rw[←hqs];exact(hF q hql).dst)
  obtain⟨e,he,hbn,hon⟩:=waitsB_iff.1 hw
  obtain⟨_,o,h2,h3⟩:=mem_ready.1 hr
  have hpo:l[p.1]?=some p.2:=hp.elim (hB.hat p) (hB.tat p)
  rw[show l.toArray[p.1]?=l[p.1]? by simp,hpo]at h2;injection h2 with h2;subst h2
  have h4:=h3 e he hbn
  have hqlt:=hlt (q.1,q.2.1) (.inl (hlH q hql))
  rw[hon,getD_both ((hch q.1 hqlt).2 (.inl ⟨q,hq,rfl⟩))]at h4
  cases h4
 have hnt:n+(t::r).length=(n+r.length)+1:=by simp;omega
 rw[hnt]
 refine⟨fun h0=>?_,fun j hj=>?_⟩
 ·
  exfalso
  have hnone:∀x,x∉Region.ready .any l.toArray listed:=fun x hx=>by rw[h0]at hx;cases hx
  have hmin:∀m,∀p∈pd,p.1≤m→False:=by
   intro m
   induction m using Nat.strongRecOn with
   |_ m im=>
    intro p hp hpm
    have hpH:=hlH p (hpd p hp)
    refine hnone p.1 (mem_ready.2 ⟨(hch p.1 (hlt (p.1,p.2.1) (.inl hpH))).2 (.inl ⟨p,hp,rfl⟩),p.2.1,by simpa using hB.hat _ hpH,fun e he hb=>?_⟩)
    obtain⟨e1,q,hq,e2⟩:=hB.early _ hpH e he hb
    have hel:e.on<l.length:=by rw[←e2];exact hlt q (.inl hq)
    refine Tp (by omega) fun hf=>?_
    rcases(hch e.on hel).1 hf with⟨q',hq',e3⟩|⟨q',hq',e3⟩
    ·exact im q'.1 (by simp only at e1;omega) q' hq' (Nat.le_refl _)
    ·exact hB.apart q' hq' q hq (e2.trans e3.symm)
  have hpd0:∀p,p∉pd:=fun p hp=>hmin p.1 p hp (Nat.le_refl _)
  refine hnone t.1 (mem_ready.2 ⟨(hch t.1 (hlt t (.inr (by simp)))).2 (.inr ⟨t,by simp,rfl⟩),t.2,by simpa using hB.tat t (by simp),fun e he hb=>?_⟩)
  obtain⟨j,e1,e2,e3⟩:=hB.prog' t r rfl e he hb
  refine Tp (by omega) fun hf=>?_
  rw[e1]at hf
  rcases(hch j e2).1 hf with⟨q',hq',_⟩|⟨q',hq',e4⟩
  ·exact hpd0 q' hq'
  ·exact e3 q' hq' e4
 ·obtain⟨hju,o,ho,_⟩:=mem_ready.1 hj
  have hjl:j<l.length:=by simpa using (Array.getElem?_eq_some_iff.1 ho).1
  rcases(hch j hjl).1 hju with⟨p,hp,rfl⟩|⟨p,hp,rfl⟩
  ·
   have hpl:=hpd p hp
   have hpH:=hlH p hpl
   have hf:=hF p hpl
   have hpo:l.toArray[p.1]?=some p.2.1:=by simpa using hB.hat _ hpH
   refine wpOp_at hpo (hB.guard _ hpH) ?_
   obtain⟨s1,s2,φ,hG,hE⟩:=hS
   refine hf.pur a ⟨w,φ,Yp ct u i h::more,C.ok⟩ i h hG rfl (fun s hs=>?_) _ _ fun x w' hb hv=>?_
   ·rw[←hE0 s (mem_keys hpH hs),←hops _ (.inl hpH) hj s hs]
    exact hE s
   ·obtain⟨g1,g2⟩:=Y8 hG hb
    have hlen:(pd.filter fun q => !(Nat.beq q.1 p.1)).length<pd.length:=by
     refine Nat.lt_of_le_of_ne (List.length_filter_le _ _) fun e=>?_
     have:=List.length_filter_eq_length_iff.1 e p hp
     simp at this
    have hmem:∀q,q∈(pd.filter fun q => !(Nat.beq q.1 p.1))↔q∈pd∧q.1≠p.1:=fun q=>by
     rw[List.mem_filter]
     constructor
     ·rintro⟨h1,h2⟩;exact⟨h1,fun e=>by simp[e]at h2⟩
     ·rintro⟨h1,h2⟩
      refine⟨h1,?_⟩
      cases hbq:Nat.beq q.1 p.1
      ·rfl
      ·exact absurd (Nat.eq_of_beq_eq_true hbq) h2
    have hmono:∀(n1 n2:Nat) (listed:Array Bool) a w,n1≤n2→wpAny P .any l.toArray (nrm (Fin P k R)) n1 listed a w→wpAny P .any l.toArray (nrm (Fin P k R)) n2 listed a w:=by
     intro n1
     induction n1 with
     |zero=>
      intro n2 listed a w _ hw
      cases n2 with
      |zero=>exact hw
      |succ n2=>exact⟨fun _=>hw.2,fun i hi=>by rw[hw.1]at hi;cases hi⟩
     |succ n1 im=>
      intro n2 listed a w hle hw
      obtain⟨n2,rfl⟩:∃m,n2=m+1:=⟨n2-1,by omega⟩
      exact⟨hw.1,fun i hi=>wpOp_mono (fun a w=>im n2 _ a w (by omega)) (hw.2 i hi)⟩
    refine hmono _ _ _ _ _ (by simp;omega) (ih (pd.filter fun q => !(Nat.beq q.1 p.1)).length (by omega) (pd.filter fun q => !(Nat.beq q.1 p.1)) _ _ w' rfl (fun q hq=>hpd q ((hmem q).1 hq).1) (by simpa using hls) (hcls.next hj hls) (fun j hj=>?_) ⟨by rw[hf.dst];exact s1,by rw[hf.dst];simp[Act.put,s2],φ,g1,fun s=>?_⟩)
    ·by_cases e:p.1=j
     ·subst e
      rw[W9 true (by omega)]
      constructor
      ·intro h;cases h
      ·rintro(⟨q,hq,e⟩|⟨q,hq,e⟩)
       ·exact absurd e ((hmem q).1 hq).2
       ·exact absurd e.symm (hB.apart q hq _ hpH)
     ·rw[Va true e,hch j hj]
      constructor
      ·rintro(⟨q,hq,rfl⟩|h)
       ·exact .inl ⟨q,(hmem q).2 ⟨hq,fun h=>e h.symm⟩,rfl⟩
       ·exact .inr h
      ·rintro(⟨q,hq,rfl⟩|h)
       ·exact .inl ⟨q,((hmem q).1 hq).1,rfl⟩
       ·exact .inr h
    ·rw[hf.dst,Wb a _ s x (by rw[s2];exact hf.lt)]
     split
     ·rename_i e
      subst e
      unfold Lw
      split
      ·simp[AV.rel]
      ·rw[hE0 _ (Iz hpH hf.dst),hf.val];exact hv
     ·rename_i e
      have:=AV.rel_keeps g2 _ _ (AV.only_true _) (hE s)
      unfold Lw at this ⊢
      split
      ·simp[AV.rel]
      ·rename_i hn2
       rw[if_neg]at this
       ·exact this
       ·intro hany
        obtain⟨q,hq,hbq⟩:=List.any_eq_true.1 hany
        refine hn2 (List.any_eq_true.2 ⟨q,(hmem q).2 ⟨hq,fun e'=>?_⟩,hbq⟩)
        -- two of one index are the same operation
        have h1:=hB.hat _ (hlH q (hpd q hq))
        have h2:=hB.hat _ hpH
        simp only at h1 h2
        rw[e',h2]at h1
        injection h1 with h1
        have d1:=(hF q (hpd q hq)).dst
        rw[←h1,hf.dst]at d1
        injection d1 with d1
        exact e (d1.trans (Nat.eq_of_beq_eq_true hbq))
  ·rcases List.mem_cons.1 hp with rfl|hp
   ·have:=head pd listed a w p r rfl hpd hls hcls hch hj hS (hops p (.inr (by simp)) hj)
    rwa [hn]at this
   ·exact(D9 (l:=l) r t p hB.chain (fun x hx=>(hch x.1 (hlt x (.inr hx))).2 (.inr ⟨x,hx,rfl⟩)) hB.tat hp hj).elim
theorem maskE_put{pd:List LO}{env:Env}{t:Nat}{v:AV}{s:Nat}(h:s≠t):Lw pd ((t,v)::env) s=Lw pd env s:=by
 unfold Lw
 rw[Yy,if_neg (Ne.symm h)]
theorem cln_mask{pd:List LO}{env:Env}(h:clnE env=true)(t:Nat):cln (Lw pd env t)=true:=by
 unfold Lw
 split
 ·rfl
 ·exact clnE.look h t
theorem P6{p:IOq}{r:List IOq}{pd:List LO}{listed:Array Bool}(hB:LatB l H (p::r))(hlH:∀q∈pd,(q.1,q.2.1)∈H)(hls:listed.size=l.length)(hch:∀j,j<l.length→(listed.getD j true=false↔((∃q∈pd,q.1=j)∨∃q∈p::r,q.1=j))) :
  ∀j,j<l.length→((listed.setIfInBounds p.1 true).getD j true=false↔((∃q∈pd,q.1=j)∨∃q∈r,q.1=j)):=fun j hj=>by
 have hpl:=(Za5.1 (hB.tat p (by simp))).1
 have hnd:=hB.tnd
 rw[List.map_cons,List.nodup_cons]at hnd
 by_cases e:p.1=j
 ·subst e
  rw[W9 true (by omega)]
  constructor
  ·intro h;cases h
  ·rintro(⟨q,hq,e⟩|⟨q,hq,e⟩)
   ·exact absurd e (hB.apart p (by simp) _ (hlH q hq))
   ·exact absurd (List.mem_map.2 ⟨q,hq,e⟩) hnd.1
 ·rw[Va true e,hch j hj]
  constructor
  ·rintro(h|⟨q,hq,rfl⟩)
   ·exact .inl h
   ·rcases List.mem_cons.1 hq with rfl|hq
    ·exact absurd rfl e
    ·exact .inr ⟨q,hq,rfl⟩
  ·rintro(h|⟨q,hq,rfl⟩)
   ·exact .inl h
   ·exact .inr ⟨q,by simp[hq],rfl⟩
section
variable{i h:Int}{env:Env}{n t:Nat}{ty:TypeId}{pos:String}{after:Array Edge}{b:List UInt8}
theorem Bh{o:Oper}{T':List IOq}(X:AV→Int→Int→Prop)(hg:o.guard=none)(hd:o.dst=some t)(ht:t<C.n)(hce:clnE env=true)
  (hs:∀(a:Act) (m:Mem),Good C m→m.σ=Yp ct u i h::more→(∀x∈o.op.operands,AV.rel m (ev env x) (a.eval x))→∀(K:Act→World→Prop) (Q:Exit→Act→World→Prop),
   (∀y i' h' v w',X y i' h'→Good C ⟨w',m.φ,Yp ct u i' h'::more,C.ok⟩→(∀y x,cln y=true→AV.rel m y x→AV.rel ⟨w',m.φ,Yp ct u i' h'::more,C.ok⟩ y x)→AV.rel ⟨w',m.φ,Yp ct u i' h'::more,C.ok⟩ y v→K (a.put (some t) v) w')→o.wp P a m.w K Q)
  (hk:∀y i' h',X y i' h'→RunsP P C ct u more l H T' k R i' h' ((t,y)::env)):RunsP P C ct u more l H ((n,o)::T') k R i h env:=by
 refine⟨fun hB late E0 hlH hF hE0=>Ac hB hlH hF hE0 (fun pd listed a w p r e hpd hls hcls hch hr hS hops=>?_) (by simp)⟩
 injection e with e1 e2
 subst e1;subst e2
 refine wpOp_at (by simpa using hB.tat (n,o) (by simp)) hg ?_
 obtain⟨s1,s2,φ,hG,hE⟩:=hS
 refine hs a ⟨w,φ,Yp ct u i h::more,C.ok⟩ hG rfl (ev_tmps fun s hs=>by rw[←hops s hs];exact hE s) _ _ fun y i' h' v w' hX g1 g2 g3=>?_
 have hfr:=hB.fresh (n,o) (by simp) t hd
 refine(hk y i' h' hX).run hB.tail late E0 hlH hF (fun s hs=>?_) pd.length pd _ _ w' rfl hpd (by simpa using hls) (hcls.next hr hls) (P6 hB (fun q hq=>hlH q (hpd q hq)) hls hch) ⟨s1,by simp[Act.put,s2],φ,g1,fun s=>?_⟩
 ·rw[Yy,if_neg (fun(e:t=s)=>hfr (by rw[e];exact hs))];exact hE0 s hs
 ·rw[Wb a t s v (by rw[s2];exact ht)]
  split
  ·rename_i e;subst e
   unfold Lw
   split
   ·simp[AV.rel]
   ·rw[Yy,if_pos rfl];exact g3
  ·rename_i e
   rw[maskE_put (Ne.symm e)]
   exact g2 _ _ (cln_mask hce s) (hE s)
theorem RunsP.pur{o:Oper}{T':List IOq}{y:AV}(hp:Pur P C o env (Yp ct u i h::more) y)(hg:o.guard=none)(hd:o.dst=some t)(ht:t<C.n)(hce:clnE env=true)(hk:RunsP P C ct u more l H T' k R i h ((t,y)::env)):RunsP P C ct u more l H ((n,o)::T') k R i h env:=
 Bh (fun y' i' h'=>y'=y∧i'=i∧h'=h) hg hd ht hce (fun a m hG hσ hH K Q hK=>hp.run a m hG hσ hH K Q fun v w' hb hv=>by
  obtain⟨w,φ,s,ok0⟩:=m
  have h0:=hG.ok0
  simp only at h0 hσ
  subst h0;subst hσ
  obtain⟨g1,g2⟩:=Y8 hG hb
  rw[hd]
  exact hK y i h v w' ⟨rfl,rfl,rfl⟩ g1 (fun z x _ hz=>AV.rel_keeps g2 _ _ (AV.only_true _) hz) hv) (by rintro _ _ _ ⟨rfl,rfl,rfl⟩;exact hk)
theorem K8{f:FuncId}{fn:Func}{x0:Operand}{xs:List Operand}{ats:Array TypeId}{args:List RV}{Q:RR→Prop}{Q':RV→Prop}{T':List IOq}[hfn:FN P f fn](hf:Drw P ct f b args Q)(hq:∀rr,Q rr→Mh rr=true∧∃r,Seals rr r∧Q' r)(hc:unpin (ev env x0) = .obj 0 0)(hu:HU C b u)(hi:X8 b i)(ha:∀h:Int,LendsPL C (Yp ct u i h::more) (xs.map (ev env)) args)
  (hce:clnE env=true) (hcl:Hn more=true) (ht:t<C.n) (hk:∀i' h' r,X8 b i'→Q' r→RunsP P C ct u more l H T' k R i' h' ((t,.ro r)::env)) :
  RunsP P C ct u more l H ((n,⟨some t,.call {callee:=.value (.func f),args:=(x0::xs).toArray,argTypes:=ats},ty,pos,after,none⟩)::T') k R i h env:=
 Bh (fun y i' h'=>∃r,y = .ro r∧X8 b i'∧Q' r) rfl rfl ht hce (fun a m hG hσ hH K Q hK=>
  Fe hf (fun rr h=>(hq rr h).1) hc hu hi hG hσ (by rw[hσ];exact ha h) (fun x hx=>hH x (by simp[Op.operands,Call.operands]at hx ⊢;exact .inr hx)) fun rr v w' i' h' bs g hQ hD=>by
   obtain⟨_,r,hs,hr⟩:=hq rr hQ
   obtain⟨g1,g2,g3⟩:=hD.simS hG hσ hu.one hcl hs
   exact hK (.ro r) i' h' v w' ⟨r,rfl,hD.ok,hr⟩ g1 g2 g3) (by rintro _ i' h' ⟨r,rfl,h1,h2⟩;exact hk i' h' r h1 h2)
theorem V8{f:FuncId}{fn:Func}{x0:Operand}{xs:List Operand}{ats:Array TypeId}{args:List RV}{Q:RR→Prop}{Q':RV→Prop}{T':List IOq}[hfn:FN P f fn](hf:Drw P ct f b args Q)(hq:∀rr,Q rr→∃r,Seals rr r∧Q' r)(hc:unpin (ev env x0) = .obj 0 0)(hu:HU C b u)(hi:X8 b i)(ha:xs.map (ev env)=args.map .ro)
  (hce:clnE env=true) (hcl:Hn more=true) (ht:t<C.n) (hk:∀i' h' r,X8 b i'→Q' r→RunsP P C ct u more l H T' k R i' h' ((t,.ro r)::env)) :
  RunsP P C ct u more l H ((n,⟨some t,.call {callee:=.value (.func f),args:=(x0::xs).toArray,argTypes:=ats},ty,pos,after,none⟩)::T') k R i h env:=
 Bh (fun y i' h'=>∃r,y = .ro r∧X8 b i'∧Q' r) rfl rfl ht hce (fun a m hG hσ hH K Q hK=>
  Hj hf hc hu hi hG hσ (ha▸Un args) (fun x hx=>hH x (by simp[Op.operands,Call.operands]at hx ⊢;exact .inr hx)) fun rr v w' i' h' bs g hQ hD=>by
   obtain⟨r,hs,hr⟩:=hq rr hQ
   obtain⟨g1,g2,g3⟩:=hD.simS hG hσ hu.one hcl hs
   exact hK (.ro r) i' h' v w' ⟨r,rfl,hD.ok,hr⟩ g1 g2 g3) (by rintro _ i' h' ⟨r,rfl,h1,h2⟩;exact hk i' h' r h1 h2)
theorem X2(m:Nat)(hm:(T.map (·.1))=(List.range' m (l.length-m)))(hml:m<l.length)(hw:Region.sinkB .any l.toArray m=true)(hsq:Region.seqB .any l.toArray (l.length-m) m (Array.replicate m true++Array.replicate (l.length-m) false)=true)
  (hk:RunsL P C l.toArray (l.drop m) k R ⟨env,Yp ct u i h::more⟩):RunsP P C ct u more l H T k R i h env:=by
 refine⟨fun hB late E0 hlH hF hE0=>?_⟩
 have hT:T≠[]:=by
  rintro rfl
  have:=congrArg List.length hm
  simp at this;omega
 have hin:∀j,(∃p∈T,p.1=j)↔m≤j∧j<l.length:=fun j=>by
  have:(∃p∈T,p.1=j)↔j∈T.map (·.1):=by simp only[List.mem_map]
  rw[this,hm,List.mem_range'_1]
  omega
 refine Ac hB hlH hF hE0 (fun pd listed a w p r e hpd hls hcls hch hr hS hops=>?_) hT
 subst e
 have hp1:p.1=m:=by
  have:=congrArg List.head? hm
  rw[show l.length-m=(l.length-m-1)+1 by omega,List.range'_succ]at this
  simpa using this
 -- nothing is pending
 have hall:∀n i,m-i≤n→i<m→listed.getD i false=true:=by
  intro n
  induction n with
  |zero=>intro i h1 h2;omega
  |succ n ih=>
   intro i h1 h2
   have hsk:=List.all_eq_true.1 hw i (List.mem_range.2 h2)
   obtain⟨j,hj,hb⟩:=List.any_eq_true.1 hsk
   rw[List.mem_range]at hj
   rw[Bool.and_eq_true]at hb
   obtain⟨oj,hoj,e,he,hbn,hon⟩:=Region.waitsFor_spec hb.2
   have hij:=of_decide_eq_true hb.1
   rw[←hon]
   by_cases ejm:j=m
   ·subst ejm
    obtain⟨_,o,h3,h4⟩:=mem_ready.1 hr
    rw[hp1]at h3
    rw[h3]at hoj;injection hoj with hoj;subst hoj
    exact h4 e he hbn
   ·exact hcls j oj (by simpa using hoj) (ih j (by omega) (by omega)) e he hbn
 have hpd0:pd=[]:=by
  rw[List.eq_nil_iff_forall_not_mem]
  intro q hq
  have hql:=(Za5.1 (hB.hat _ (hlH q (hpd q hq)))).1
  have hqm:q.1<m:=by
   rcases Nat.lt_or_ge q.1 m with h|h
   ·exact h
   ·obtain⟨x,hx,e⟩:=(hin q.1).2 ⟨h,hql⟩
    exact absurd e.symm (hB.apart x hx _ (hlH q (hpd q hq)))
  have h4:=hall (m-q.1) q.1 (Nat.le_refl _) hqm
  rw[getD_both ((hch q.1 hql).2 (.inl ⟨q,hq,rfl⟩))]at h4
  cases h4
 subst hpd0
 have hlst:listed=Array.replicate m true++Array.replicate (l.length-m) false:=by
  refine Array.ext (by simp;omega) fun j h1 h2=>?_
  have hjl:j<l.length:=by omega
  have hx:=hch j hjl
  simp only[List.not_mem_nil,false_and,exists_false,false_or]at hx
  rw[hin j,Array.getD_eq_getD_getElem?,Array.getElem?_eq_getElem h1,Option.getD_some]at hx
  rw[Array.getElem_append]
  split
  ·rename_i h3
   simp only[Array.size_replicate]at h3
   rw[Array.getElem_replicate]
   cases hb:listed[j]
   ·have:=hx.1 hb;omega
   ·rfl
  ·rename_i h3
   simp only[Array.size_replicate]at h3
   rw[Array.getElem_replicate]
   exact hx.2 ⟨by omega,hjl⟩
 obtain⟨s1,s2,φ,hG,hE⟩:=hS
 have hlen:r.length+1=l.length-m:=by
  have:=congrArg List.length hm
  simpa using this
 have hrun:=hk.run a w ⟨s1,s2,φ,hG,fun s=>by have:=hE s;simpa [Lw] using this⟩
 have:=wpAny_of_seq (md:=.any) (Q':=nrm (Fin P k R)) (l.drop m) m listed a w (fun j=>by simp[List.getElem?_drop]) (by rw[List.length_drop,hlst];exact hsq) hrun
 rw[List.length_drop,←hlen]at this
 rw[Za9,Nat.zero_add]
 exact this.2 p.1 hr
end
structure RunsH (P:Program) (C:Ctx) (ct:TypeId) (u:Value) (more:List Ob) (l:List Oper) (H T:List IOq) (k:List Item) (R:Act→World→Prop) (i h:Int) (keys:List Nat) (rest:List IOq) (env:Env):Prop where
 run:∃(late:List LO) (env':Env),late.length=rest.length∧(∀p∈late,(p.1,p.2.1)∈rest)∧(∀p∈rest,∃q∈late,q.1=p.1∧q.2.1=p.2)∧(∀s∈keys,look env' s=look env s)∧(∀s,(∀p∈late,p.2.2.1≠s)→look env' s=look env s)∧(∀p∈late,LFact P C ct u more (look env') p)∧RunsP P C ct u more l H T k R i h env'
variable{i h:Int}{env:Env}{n t:Nat}{keys:List Nat}{rest:List IOq}
theorem RunsH.nil(hk:RunsP P C ct u more l H T k R i h env):RunsH P C ct u more l H T k R i h keys [] env:=⟨⟨[],env,rfl,by simp,by simp,fun _ _=>rfl,fun _ _=>rfl,by simp,hk⟩⟩
theorem RunsH.pur{o:Oper}{v:AV}(hp:∀i h:Int,Pur P C o env (Yp ct u i h::more) v)(hd:o.dst=some t)(ht:t<C.n)(hf:(keys++Ug o).contains t=false)
  (hk:RunsH P C ct u more l H T k R i h (keys++Ug o++[t]) rest ((t,v)::env)):RunsH P C ct u more l H T k R i h keys ((n,o)::rest) env:=by
 obtain⟨late,env',h0,h1,h2,h3,h4,h5,h6⟩:=hk.run
 have hfr:∀s∈keys++Ug o,s≠t:=fun s hs e=>by
  subst e
  have:(keys++Ug o).contains s=true:=List.contains_iff_mem.2 hs
  rw[hf]at this;cases this
 refine⟨⟨(n,o,t,v)::late,env',by simp[h0],fun p hp=>?_,fun p hp=>?_,fun s hs=>?_,fun s hs=>?_,fun p hp'=>?_,h6⟩⟩
 ·rcases List.mem_cons.1 hp with rfl|hp
  ·simp
  ·exact List.mem_cons_of_mem _ (h1 p hp)
 ·rcases List.mem_cons.1 hp with rfl|hp
  ·exact⟨_,List.mem_cons_self,rfl,rfl⟩
  ·obtain⟨q,hq,e⟩:=h2 p hp
   exact⟨q,List.mem_cons_of_mem _ hq,e⟩
 ·rw[h3 s (by simp[hs]),Yy,if_neg (Ne.symm (hfr s (by simp[hs])))]
 ·rw[h4 s (fun p hp=>hs p (List.mem_cons_of_mem _ hp)),Yy,if_neg (hs (n,o,t,v) List.mem_cons_self)]
 ·rcases List.mem_cons.1 hp' with rfl|hp'
  ·refine⟨fun a m i h hG hσ hH K Q hK=>?_,?_,hd,ht⟩
   ·exact(hp i h).run a m hG hσ (ev_tmps fun s hs=>by
     have:=hH s hs
     rwa [h3 s (by simp[hs]),Yy,if_neg (Ne.symm (hfr s (by simp[hs])))]at this) K Q hK
   ·show look env' t=v
    rw[h3 t (by simp),Yy,if_pos rfl]
  ·exact h5 p hp'
def Ix:List Nat→Bool
 | []=>true
 |x::xs => !(xs.contains x)&&Ix xs
theorem Aq:∀{l:List Nat},Ix l=true→l.Nodup
 | [],_=>List.nodup_nil
 |x::xs,h=>by
  simp only[Ix,Bool.and_eq_true,Bool.not_eq_true']at h
  rw[List.nodup_cons]
  exact⟨fun hm=>by rw[List.contains_iff_mem.2 hm]at h;simp at h,Aq h.2⟩
theorem latB_of{hs ts:List Nat}(hB:lateB l.length (pick l hs) (pick l ts)=true)(hnd:Ix ((pick l ts).map (·.1))=true):LatB l (pick l hs) (pick l ts):=by
 unfold lateB at hB
 simp only[Bool.and_eq_true]at hB
 obtain⟨⟨⟨⟨b1,b2⟩,b3⟩,b4⟩,b5⟩:=hB
 rw[List.all_eq_true]at b1 b2
 have needs:∀(o:Oper),needB (pick l hs) o=true→∀q∈pick l hs,∀s∈Ug o,q.2.dst=some s→Mr o q.1=true:=fun o ho q hq s hs' hd=>by
  have:=List.all_eq_true.1 (List.all_eq_true.1 ho q hq) s hs'
  simpa [hd] using this
 refine⟨fun p hp=>Q1 hp,fun p hp=>Q1 hp,fun p hp=>?_,fun p hp=>?_,fun p hp e he hb=>?_,fun p hp q hq e=>?_,fun p hp d hd hm=>?_,b3,Aq hnd,⟨[],b4,by simp⟩⟩
 ·rcases hp with hp|hp
  ·have:=b1 p hp
   simp only[Bool.and_eq_true]at this
   exact needs p.2 this.1.1.1
  ·have:=b2 p hp
   simp only[Bool.and_eq_true]at this
   exact needs p.2 this.1.1
 ·have:=b1 p hp
  simp only[Bool.and_eq_true]at this
  simpa using this.1.1.2
 ·have:=b1 p hp
  simp only[Bool.and_eq_true]at this
  have:=edgesIn_iff.1 this.2 e he hb
  simp only[Bool.and_eq_true]at this
  exact⟨nbT this.1,G3.1 this.2⟩
 ·have:=b2 p hp
  simp only[Bool.and_eq_true]at this
  have h1:=this.1.2
  rw[G3.2 ⟨q,hq,e⟩]at h1
  simp at h1
 ·have:=b2 p hp
  simp only[Bool.and_eq_true,hd]at this
  have h1:=this.2
  rw[List.contains_iff_mem.2 hm]at h1
  simp at h1
theorem Xo{id:Nat}{k0:List Item}{σ:List Ob}(m:Nat)(hs ts:List Nat)(hf:P.follows .mixedOrders=true)(hσ:σ=Yp ct u i h::more)(hc:Proofs.YtnecoghfhcimeaaGreat.ctls m k0 = .code (.region id l.toArray true)::k)(hB:lateB l.length (pick l hs) (pick l ts)=true)(hnd:Ix ((pick l ts).map (·.1))=true)(hle:Nat.ble ((pick l hs).length+(pick l ts).length) l.length=true)
  (hk:RunsH P C ct u more l (pick l hs) (pick l ts) k R i h [] (pick l hs) env):Runs P C k0 R ⟨env,σ⟩:=by
 subst hσ
 refine Zbf m hc ⟨fun a w hs'=>Vv (wp_region_any hf ?_)⟩
 obtain⟨s1,s2,φ,hG,hE⟩:=hs'
 have hb:Below w.heap.size w {w with drawn:=w.drawn+1}:=⟨rfl,rfl,rfl,Nat.le_refl _,fun _ _=>rfl⟩
 obtain⟨g1,g2⟩:=Y8 hG hb
 obtain⟨late,env',h0,h1,h2,_,h4,h5,h6⟩:=hk.run
 have hL:=latB_of hB hnd
 have hall:∀j,j<l.length→(∃p∈late,p.1=j)∨∃p∈pick l ts,p.1=j:=fun j hj=>by
  unfold lateB at hB
  simp only[Bool.and_eq_true]at hB
  have:=List.all_eq_true.1 hB.2 j (List.mem_range.2 hj)
  rw[Bool.or_eq_true,G3,G3]at this
  rcases this with⟨p,hp,e⟩|h
  ·obtain⟨q,hq,e1,_⟩:=h2 p hp
   exact .inl ⟨q,hq,e1.trans e⟩
  ·exact .inr h
 have hrun:=h6.run hL late (look env') h1 h5 (fun _ _=>rfl) late.length late (Array.replicate l.length false) a {w with drawn:=w.drawn+1} rfl (fun _ h=>h) (by simp) (fun j o _ hl=>by rw[getD_replicate_false]at hl;cases hl) (fun j hj=>⟨fun _=>hall j hj,fun _=>getD_in (by simpa using hj) (getD_replicate_false _ _)⟩) ⟨s1,s2,φ,g1,fun s=>?_⟩
 ·have hmono:∀(n1 n2:Nat) (listed:Array Bool) a w,n1=n2→wpAny P .any l.toArray (nrm (Fin P k R)) n1 listed a w→wpAny P .any l.toArray (nrm (Fin P k R)) n2 listed a w:=fun _ _ _ _ _ e h=>e▸h
  have hup:∀(n1 n2:Nat) (listed:Array Bool) a w,n1≤n2→wpAny P .any l.toArray (nrm (Fin P k R)) n1 listed a w→wpAny P .any l.toArray (nrm (Fin P k R)) n2 listed a w:=by
   intro n1
   induction n1 with
   |zero=>
    intro n2 listed a w _ hw
    cases n2 with
    |zero=>exact hw
    |succ n2=>exact⟨fun _=>hw.2,fun i hi=>by rw[hw.1]at hi;cases hi⟩
   |succ n1 im=>
    intro n2 listed a w hle hw
    obtain⟨n2,rfl⟩:∃m,n2=m+1:=⟨n2-1,by omega⟩
    exact⟨hw.1,fun i hi=>wpOp_mono (fun a w=>im n2 _ a w (by omega)) (hw.2 i hi)⟩
  have hle':=nbT hle
  have:=hup _ l.toArray.size _ _ _ (by simp;omega) hrun
  simpa using this
 ·unfold Lw
  split
  ·simp[AV.rel]
  ·rename_i hn
   rw[h4 s fun p hp e=>hn (List.any_eq_true.2 ⟨p,hp,by rw[e];exact Nat.beq_refl _⟩)]
   exact AV.rel_keeps g2 _ _ (AV.only_true _) (hE s)
end
def ANewU(P:Program)(ct:TypeId)(f:FuncId)(b:List UInt8):Prop:=
 ∀(w:World) (ok:Nat→Prop) (u:Value),(∀x,w.heap.size≤x→ok x)→RV.rel w ok (Ya b) u →
  Calls P f #[u] w fun e w'=>∃g h,e = .returned (.pointer (some ⟨g,0,none⟩))∧w.heap.size≤g∧Pd ct w' g u 0 h∧Below w.heap.size w w'
def EndsNU(P:Program)(C:Ctx)(fn:Func)(ct:TypeId)(u:Value)(a:Act)(w:World):Prop:=
 a.defers=[]∧∃g h,(results fn a.tmps).run P w = .ok (.pointer (some ⟨g,0,none⟩)) w∧C.w0.heap.size≤g∧Pd ct w g u 0 h∧Below C.w0.heap.size C.w0 w
theorem B7{ok:Nat→Prop}{b:List UInt8}{args:List RV}{n:Nat}{u:Value}{us:List Value}{w:World}(h0:∀x,w.heap.size≤x→ok x)(hu:RV.rel w ok (Ya b) u)(hus:RV.rels w ok args us)(hl:args.length+1≤n) :
  Sim ⟨w,ok,fun _=>False,n⟩ ⟨(0,.ro (.c u))::Vb 1 args,[]⟩ {tmps:=(u::us).toArray++Array.replicate (n-(u::us).toArray.size) undef,defers:=[]} w:=by
 have hlen:=RV.rels_len args _ hus
 refine⟨rfl,by simp;omega,fun _=>none,⟨rfl,fun i j g hi=>by simp at hi,fun i o hi=>by simp at hi,fun i g hi=>by simp at hi,⟨rfl,rfl,rfl,Nat.le_refl _,fun _ _ _=>rfl,h0⟩⟩,fun t=>?_⟩
 rw[Yy]
 split
 ·rename_i e;subst e
  simp only[AV.rel,RV.rel]
  rw[Array.getD_eq_getD_getElem?,Array.getElem?_append_left (by simp)]
  simp
 ·rename_i e
  rw[Lb]
  by_cases h1:1≤t
  ·rw[if_pos h1]
   cases hr:args[t-1]? with
   |none=>simp[AV.rel]
   |some r=>
    obtain⟨x,e1,e2⟩:=RV.rels_at args _ hus (t-1) r hr
    have ht:t-1<us.length:=(Za5.1 e1).1
    simp only[AV.rel]
    have:((u::us).toArray++Array.replicate (n-(u::us).toArray.size) undef).getD t undef=x:=by
     rw[Array.getD_eq_getD_getElem?,Array.getElem?_append_left (by simp;omega)]
     obtain⟨t',rfl⟩:∃t',t=t'+1:=⟨t-1,by omega⟩
     simp at e1 ⊢
     simp[e1]
    rw[this]
    exact RV.rel_mono ⟨Nat.le_refl _,fun x _ hx=>⟨⟨hx,fun j hj=>by simp at hj⟩,rfl⟩⟩ r x e2
  ·omega
theorem Rw{P:Program}{ct:TypeId}{f:FuncId}{fn:Func}{c:Code}{b:List UInt8}(hf:P.funcs[f]?=some fn)(hb:fn.body=some c)(n:Nat)(hn:fn.ntmps=n)(hl:1≤n)
  (h:∀(C:Ctx) (u:Value),C.n=n→(∀x,¬C.mu x)→HU C b u→Runs P C [.code c] (EndsNU P C fn ct u) ⟨[(0,.ro (.c u))],[]⟩):ANewU P ct f b:=by
 intro w ok u h0 hu
 refine Wz hf hb ?_
 have hs:=B7 (args:=[]) (us:=[]) (n:=n) h0 hu (by simp[RV.rels]) (by simpa using hl)
 have hr:=(h ⟨w,ok,fun _=>False,n⟩ u rfl (fun _ h=>h) (RV.rel_mono ⟨Nat.le_refl _,fun x _ hx=>⟨⟨hx,id⟩,rfl⟩⟩ _ _ hu)).run _ w (by simpa [Vb] using hs)
 intro bb cc
 obtain⟨a',w',todo,⟨hd,g,hh,hv,q1,q2,q3⟩,hst⟩:=hr bb cc
 exact⟨a',w',todo,⟨hd,_,hv,g,hh,rfl,q1,q2,q3⟩,by simpa [hn] using hst⟩
theorem endsNU{P:Program}{C:Ctx}{fn:Func}{ct:TypeId}{u:Value}{S:St}{t j:Nat}{h:Int}(hm:∀x,¬C.mu x)(hr:fn.results=#[.tmp t])(h1:look S.env t = .obj j 0)(h2:S.σ[j]?=some (Yp ct u 0 h)):∀a w,Sim C S a w→EndsNU P C fn ct u a w:=by
 rintro a w ⟨s1,s2,φ,hG,hH⟩
 have hu:=hH t
 rw[h1]at hu
 simp only[AV.rel]at hu
 obtain⟨hj,g,hg,eu⟩:=hu
 have hob:=hG.ob j _ h2
 rw[show(⟨w,φ,S.σ,C.ok⟩:Mem).φ j=some g from hg]at hob
 obtain⟨us,q1,q2,q3⟩:=hob
 obtain⟨x0,e0,_,r0⟩:=q3 0 (.ro (.c u)) rfl
 obtain⟨x1,e1,_,r1⟩:=q3 1 (.int 0) rfl
 obtain⟨x2,e2,_,r2⟩:=q3 2 (.int h) rfl
 simp only[AV.rel,RV.rel]at r0 r1 r2
 subst r0;subst r1;subst r2
 exact⟨s1,g,h,by rw[W3,hr];simp[E4,eu],(hG.mine j g hj hg).resolve_left (hm g),⟨us,q1,e0,e1,e2⟩,hG.frm.below0 hm⟩
theorem acu_enter{P:Program}{f:FuncId}{fn:Func}{c:Code}{b:List UInt8}{args:List RV}{R:RR→Prop}(hf:P.funcs[f]?=some fn)(hb:fn.body=some c)(n:Nat)(hn:fn.ntmps=n)(hl:args.length+1≤n)
  (h:∀(C:Ctx) (u:Value),C.n=n→(∀x,¬C.mu x)→HU C b u→Runs P C [.code c] (R7 P C fn R) ⟨(0,.ro (.c u))::Vb 1 args,[]⟩):AC P f (Ya b::args) R:=by
 intro w ok us h0 hu
 simp only[RV.rels]at hu
 obtain⟨u,us',e,hu1,hu2⟩:=hu
 refine Wz hf hb ?_
 have hs:=B7 (n:=n) h0 hu1 hu2 hl
 have hr:=(h ⟨w,ok,fun _=>False,n⟩ u rfl (fun _ h=>h) (RV.rel_mono ⟨Nat.le_refl _,fun x _ hx=>⟨⟨hx,id⟩,rfl⟩⟩ _ _ hu1)).run _ w hs
 intro bb cc
 obtain⟨a',w',todo,⟨hd,v,hv,rr,bs,h1,h2,h3,h4,h5⟩,hst⟩:=hr bb cc
 have e':us=(u::us').toArray:=by rw[←e]
 subst e'
 exact⟨a',w',todo,⟨hd,v,hv,v,rr,bs,rfl,h1,h2,h3,h4,h5⟩,by rw[hn];exact hst⟩
theorem Lends.know{C:Ctx}{σ:List Ob}{b:List UInt8}{u:Value}(hu:HU C b u):Lends C σ (.ro (.c u)) (Ya b):=fun m x ok' hG _ h1 _ hx=>by
 simp only[AV.rel,RV.rel]at hx
 subst hx
 exact RV.rel_mono ⟨Nat.le_refl _,fun z _ hz=>⟨h1 z hz,rfl⟩⟩ _ _ (hu.ok hG)
def Bp(n i:Nat):Nat:=match Nat.beq i n with
 |true=>0
 |false=>i+1
def renE(r:Nat→Nat):Env→Env
 | []=>[]
 |(t,v)::e=>(t,v.ren r)::renE r e
theorem I9(r:Nat→Nat):∀(e:Env) (t:Nat),look (renE r e) t=(look e t).ren r
 | [],t=>by simp[renE,look,AV.ren]
 |(s,v)::e,t=>by
  rw[renE,Yy,Yy]
  split
  ·rfl
  ·exact I9 r e t
theorem N1(n:Nat):Bp n n=0:=by unfold Bp;rw[Nat.beq_refl]
theorem Jn{n i:Nat}(h:i≠n):Bp n i=i+1:=by
 unfold Bp
 cases hb:Nat.beq i n with
 |true=>exact absurd (Nat.eq_of_beq_eq_true hb) h
 |false=>rfl
section
variable{P:Program}{C:Ctx}{ops:Array Oper}{rest:List Oper}{k:List Item}{R:Act→World→Prop}{env:Env}{σ:List Ob}{t:Nat}{ty:TypeId}{pos:String}{after:Array Edge}{ct:TypeId}{b:List UInt8}{u:Value}
theorem sim_rot{o:Ob}{a:Act}{w:World}(hs:Sim C ⟨env,σ++[o]⟩ a w):Sim C ⟨renE (Bp σ.length) env,(o::σ).map (Ob.ren (Bp σ.length))⟩ a w:=by
 obtain⟨s1,s2,φ,hG,hH⟩:=hs
 let φ':Nat→Option Nat:=fun i=>match i with
  |0=>φ σ.length
  |i+1=>φ i
 have hφ:∀i,i<σ.length+1→φ' (Bp σ.length i)=φ i:=fun i hi=>by
  by_cases e:i=σ.length
  ·subst e;rw[N1]
  ·rw[Jn e]
 have hlen:((o::σ).map (Ob.ren (Bp σ.length))).length=σ.length+1:=by simp
 have hat:∀(i:Nat) (x:Ob),(σ++[o])[i]?=some x→((o::σ).map (Ob.ren (Bp σ.length)))[Bp σ.length i]?=some (x.ren (Bp σ.length)):=fun i x hi=>by
  have hil:i<σ.length+1:=by have:=(Za5.1 hi).1;simpa using this
  rw[List.getElem?_map]
  by_cases e:i=σ.length
  ·subst e
   rw[N1]
   simp at hi ⊢
   rw[hi]
  ·rw[Jn e,List.getElem?_cons_succ]
   rw[Zbc (by omega)]at hi
   rw[hi];rfl
 have hinv:∀j,j<σ.length+1→∃i,i<σ.length+1∧Bp σ.length i=j:=fun j hj=>by
  cases j with
  |zero=>exact⟨σ.length,by omega,N1 _⟩
  |succ j=>exact⟨j,by omega,Jn (by omega)⟩
 have hrinj:∀i j,i<σ.length+1→j<σ.length+1→Bp σ.length i=Bp σ.length j→i=j:=fun i j hi hj e=>by
  by_cases e1:i=σ.length<;>by_cases e2:j=σ.length
  ·omega
  ·subst e1;rw[N1,Jn e2]at e;omega
  ·subst e2;rw[N1,Jn e1]at e;omega
  ·rw[Jn e1,Jn e2]at e;omega
 have key:∀v x,AV.rel ⟨w,φ,σ++[o],C.ok⟩ v x→AV.rel ⟨w,φ',(o::σ).map (Ob.ren (Bp σ.length)),C.ok⟩ (v.ren (Bp σ.length)) x:=
  Pp (m:=⟨w,φ,σ++[o],C.ok⟩) (m':=⟨w,φ',(o::σ).map (Ob.ren (Bp σ.length)),C.ok⟩) (n:=σ.length+1) rfl (fun x hx=>⟨hx.1,fun j hj e=>by
   simp only[hlen]at hj
   obtain⟨i,hi,rfl⟩:=hinv j hj
   exact hx.2 i (by simpa using hi) ((hφ i hi).symm.trans e)⟩) (fun i hi=>hφ i hi) (fun i hi=>by
   simp only[hlen]
   by_cases e:i=σ.length
   ·subst e;rw[N1];omega
   ·rw[Jn e];omega) (by simp) (fun i x hx=>⟨Yx (Bp σ.length) x.cs,hat i x hx,Qz _ _⟩)
 refine⟨s1,s2,φ',⟨rfl,fun i j g hi hj e1 e2=>?_,fun j x hj=>?_,fun j g hj hg=>?_,hG.frm⟩,fun s=>by rw[show look (⟨renE _ env,_⟩:St).env s=_ from I9 _ _ _];exact key _ _ (hH s)⟩
 ·simp only[hlen]at hi hj
  obtain⟨i',hi',rfl⟩:=hinv i hi
  obtain⟨j',hj',rfl⟩:=hinv j hj
  rw[hG.inj i' j' g (by simpa using hi') (by simpa using hj') ((hφ i' hi').symm.trans e1) ((hφ j' hj').symm.trans e2)]
 ·have hjl:j<σ.length+1:=by have:=(Za5.1 hj).1;rwa [hlen]at this
  obtain⟨i,hi,rfl⟩:=hinv j hjl
  obtain⟨oo,hx⟩:∃oo,(σ++[o])[i]?=some oo:=⟨_,Za6 (by simpa using hi)⟩
  simp only at hj
  rw[hat i _ hx]at hj
  injection hj with hj;subst hj
  have h0:=hG.ob i _ hx
  show ObRel _ _ (φ' (Bp σ.length i))
  rw[hφ i hi]
  simp only at h0
  cases hg:φ i with
  |none=>rw[hg]at h0;simp only[ObRel,Ob.ren]at h0 ⊢;rw[h0];rfl
  |some g=>
   rw[hg]at h0
   obtain⟨us,q1,q2,q3⟩:=h0
   refine⟨us,q1,by simp only[Ob.ren,Qz];exact q2,fun p v hp=>?_⟩
   simp only[Ob.ren,Gs]at hp
   obtain⟨v0,hv0,rfl⟩:=Option.map_eq_some_iff.1 hp
   obtain⟨y,k1,k2,k3⟩:=q3 p v0 hv0
   exact⟨y,k1,k2,key v0 y k3⟩
 ·simp only[hlen]at hj
  obtain⟨i,hi,rfl⟩:=hinv j hj
  exact hG.mine i g (by simpa using hi) ((hφ i hi).symm.trans hg)
theorem op_newU{f:FuncId}{fn:Func}{x:Operand}{ats:Array TypeId}[hfn:FN P f fn](hf:ANewU P ct f b)(hx:ev env x = .ro (.c u))(hu:HU C b u)(ht:t<C.n)
  (hk:∀h:Int,X8 b 0→RunsL P C ops rest k R ⟨renE (Bp σ.length) ((t,.obj σ.length 0)::env),(Yp ct u 0 h::σ).map (Ob.ren (Bp σ.length))⟩) :
  RunsL P C ops (⟨some t,.call {callee:=.value (.func f),args:=#[x],argTypes:=ats},ty,pos,after,none⟩::rest) k R ⟨env,σ⟩:=by
 refine⟨fun a w ⟨s1,s2,φ,hG,hH⟩=>?_⟩
 refine wpList_plain rfl fun K hK'=>?_
 have hxx:=Ei (Xy hH x) hx
 unfold Oper.wp
 rw[execOp_call_go,Wq hfn]
 simp only[Oper.upon]
 have e0:(#[x].map a.eval)=#[u]:=by simp[hxx]
 rw[e0]
 simp only[Array.empty_append,Array.append_empty]
 refine(hf w (AV.Mem.ok ⟨w,φ,σ,C.ok⟩) u (Ma hG) (hu.ok hG)).mono ?_
 rintro ee w' ⟨g,h,rfl,h1,⟨us,q0,q1,q2,q3⟩,h5⟩
 obtain⟨g1,g2⟩:=Um (φ':=upd φ σ.length (some g)) (new:=[Yp ct u 0 h]) hG h5 (fun i hi=>Xd (show i≠σ.length from Nat.ne_of_lt hi)) (fun j hj b hb=>by
   simp at hj;subst hj;simp[Xg]at hb;subst hb;exact h1) (fun i j b hi hj _ _=>by simp at hi hj;omega) (fun j o hj=>by
   cases j with
   |succ j=>simp at hj
   |zero=>
    simp at hj;subst hj
    simp only[Nat.add_zero,Xg,ObRel]
    refine⟨us,q0,?_,fun p v hp=>?_⟩
    ·have:=(Array.getElem?_eq_some_iff.1 q3).1
     simp[Yp];omega
    ·simp only[Yp]at hp
     match p,hp with
     |0,hp=>simp at hp;subst hp;exact⟨u,q1,hu.one,by simp[AV.rel,RV.rel]⟩
     |1,hp=>simp at hp;subst hp;exact⟨_,q2,rfl,by simp[AV.rel,RV.rel]⟩
     |2,hp=>simp at hp;subst hp;exact⟨_,q3,rfl,by simp[AV.rel,RV.rel]⟩
     |p+3,hp=>simp at hp)
 refine hK' _ _ ((hk h ⟨Int.le_refl _,by omega⟩).run _ _ (sim_rot (o:=Yp ct u 0 h) ⟨s1,by simp[Act.put,s2],_,g1,(hH.keeps g2).put (by rw[s2];exact ht) ?_⟩))
 simp only[AV.rel]
 exact⟨by simp,g,Xg,rfl⟩
theorem op_callQ{f:FuncId}{fn:Func}{xs:Array Operand}{ats:Array TypeId}{args:List RV}{Rr:RR→Prop}{Q:RV→Prop}[hfn:FN P f fn](hf:AC P f args Rr)(hs:∀rr,Rr rr→∃r,Seals rr r∧Q r)(ha:xs.toList.map (ev env)=args.map .ro)(ht:t<C.n)
  (hk:∀r,Q r→RunsL P C ops rest k R ⟨(t,.ro r)::env,σ⟩) :
  RunsL P C ops (⟨some t,.call {callee:=.value (.func f),args:=xs,argTypes:=ats},ty,pos,after,none⟩::rest) k R ⟨env,σ⟩:=by
 refine⟨fun a w ⟨s1,s2,φ,hG,hH⟩=>?_⟩
 refine wpList_plain rfl fun K hK'=>?_
 have hr:=FitsL.rels (ha▸Un args) _ (X4 (a:=a) (m:=⟨w,φ,σ,C.ok⟩) xs.toList fun x hx=>Xy hH x)
 unfold Oper.wp
 rw[execOp_call_go,Wq hfn]
 simp only[Oper.upon]
 refine(hf w _ _ (Ma hG) (by simpa using hr)).mono ?_
 rintro e w' ⟨v,rr,bs,rfl,hR,h1,_,h3,h4⟩
 obtain⟨r,hs',hQ⟩:=hs rr hR
 obtain⟨g1,g2⟩:=Y8 hG h4
 refine hK' _ _ ((hk r hQ).run _ _ ⟨s1,by simp[Act.put,s2],φ,g1,(hH.keeps g2).put (by rw[s2];exact ht) ?_⟩)
 simp only[AV.rel]
 refine seals_rel (ok:=fun x=>AV.Mem.ok ⟨w,φ,σ,C.ok⟩ x∧x∉bs) (fun x hx=>hx.1) rr r v bs hs' h1 fun x hx=>Ma hG x (h3 x hx).1
end
class TB (P:Program) (t:TypeId) (pl:outParam (List (Nat×Nat))) (zs:outParam (List Value)):Prop where
 h:∃it fields z,P.info? t=some it∧P.underlying t=some (.struct fields)∧it.zero=some z∧z.cells=zs.toArray∧fields.toList.mapM (fun f=>(P.info? f.type).map fun i=>(f.offset,i.size))=some pl∧∀x∈zs,x.oneCell'=true
def fillA(pl:List (Nat×Nat))(env:Env):List AV→List (Nat×Operand)→Option (List AV)
 |cells,[]=>some cells
 |cells,(i,x)::l=>match pl[i]? with
  |some (off,size)=>match cells? (ev env x) with
   |some cs=>match Nat.beq cs.length size,Nat.ble (off+size) cells.length with
    |true,true=>fillA pl env (W8 cells off cs) l
    |_,_=>none
   |none=>none
  |none=>none
def aggOf(vs:List AV):AV:=match Rx vs with
 |some rs=>.ro (.agg rs)
 |none=>.agg vs
theorem Ns{m:Mem}:∀(us:List Value) (k:Nat) (cells:Array Value) (off:Nat) (cs vs:List AV),us.length=cs.length→(∀(j:Nat) x,cs[j]?=some x→∃y,us[j]?=some y∧y.oneCell'=true∧AV.rel m x y) →
  off+k+cs.length≤vs.length→cells.size=vs.length→(∀(j:Nat) x,vs[j]?=some x→∃y,cells[j]?=some y∧y.oneCell'=true∧AV.rel m x y) →
  ((us.zipIdx k).foldl (fun cs (c,j)=>cs.setIfInBounds (off+j) c) cells).size=vs.length∧∀(j:Nat) x,(W8 vs (off+k) cs)[j]?=some x→∃y,((us.zipIdx k).foldl (fun cs (c,j)=>cs.setIfInBounds (off+j) c) cells)[j]?=some y∧y.oneCell'=true∧AV.rel m x y
 | [],k,cells,off,cs,vs,hl,hc,hle,hs,hv=>by
  have:cs=[]:=List.eq_nil_of_length_eq_zero (by simpa using hl.symm)
  subst this
  exact⟨hs,hv⟩
 |u::us,k,cells,off,[],vs,hl,hc,hle,hs,hv=>by simp at hl
 |u::us,k,cells,off,c::cs,vs,hl,hc,hle,hs,hv=>by
  simp only[Za8]at hl hle
  rw[List.zipIdx_cons,List.foldl_cons,W8]
  have:=Ns us (k+1) (cells.setIfInBounds (off+k) u) off cs (vs.set (off+k) c) (by omega) (fun j x hj=>hc (j+1) x (by simpa using hj)) (by simp;omega) (by simpa using hs) (fun j x hj=>by
   rw[List.getElem?_set]at hj
   split at hj
   ·rename_i e
    subst e
    split at hj
    ·injection hj with hj;subst hj
     obtain⟨y,e1,e2,e3⟩:=hc 0 c (by simp)
     simp only[List.getElem?_cons_zero,Option.some.injEq]at e1
     subst e1
     exact⟨u,Array.getElem?_setIfInBounds_self_of_lt (by omega),e2,e3⟩
    ·cases hj
   ·rename_i e
    obtain⟨y,e1,e2,e3⟩:=hv j x hj
    exact⟨y,by rw[Array.getElem?_setIfInBounds_ne e];exact e1,e2,e3⟩)
  rw[List.length_set]at this
  rwa [show off+(k+1)=off+k+1 by omega]at this
theorem Fc{m:Mem}{env:Env}{a:Act}{pl:List (Nat×Nat)}:∀(l:List (Nat×Operand)) (vs vs':List AV) (cells:Array Value),(∀p∈l,AV.rel m (ev env p.2) (a.eval p.2))→cells.size=vs.length→(∀(j:Nat) x,vs[j]?=some x→∃y,cells[j]?=some y∧y.oneCell'=true∧AV.rel m x y) →
  fillA pl env vs l=some vs'→∃cells',Instr.fill (pl.toArray[·]?) cells (l.map fun p=>(p.1,a.eval p.2))=some cells'∧cells'.size=vs'.length∧∀(j:Nat) x,vs'[j]?=some x→∃y,cells'[j]?=some y∧y.oneCell'=true∧AV.rel m x y
 | [],vs,vs',cells,_,hs,hv,h=>by
  simp only[fillA,Option.some.injEq]at h
  subst h
  exact⟨cells,rfl,hs,hv⟩
 |(i,x)::l,vs,vs',cells,hH,hs,hv,h=>by
  unfold fillA at h
  split at h
  ·rename_i off size hp
   split at h
   ·rename_i cs hc
    split at h
    ·rename_i hb1 hb2
     have e1:=Nat.eq_of_beq_eq_true hb1
     have e2:=nbT hb2
     obtain⟨c1,c2⟩:=Ku (hH (i,x) (by simp)) hc
     obtain⟨k1,k2⟩:=Ns (m:=m) (a.eval x).cells.toList 0 cells off cs vs (by simpa using c1) (fun j y hj=>by simpa using c2 j y hj) (by omega) hs hv
     rw[Nat.add_zero]at k2
     obtain⟨cells',q1,q2⟩:=Fc l _ vs' _ (fun p hp=>hH p (by simp[hp])) (by rw[Nt];exact k1) k2 h
     refine⟨cells',?_,q2⟩
     simp only[List.map_cons,Instr.fill]
     have:pl.toArray[i]?=some (off,size):=by simpa using hp
     rw[this]
     simp only
     have c1':(a.eval x).cells.size=cs.length:=c1
     rw[if_neg (by rw[c1'];simp;omega),←q1]
     congr 1
     rw[←Array.foldl_toList,Array.toList_zipIdx]
    ·cases h
   ·cases h
  ·cases h
section
variable{P:Program}{C:Ctx}{env:Env}{σ:List Ob}{t:Nat}{ty:TypeId}{pos:String}{after:Array Edge}{gd:Option (Nat×Bool)}
theorem Z2{tt:TypeId}{parts:Array (Nat×Operand)}{pl:List (Nat×Nat)}{zs:List Value}{vs:List AV}[hb:TB P tt pl zs](h:fillA pl env (zs.map fun v=>.ro (.c v)) parts.toList=some vs) :
  Pur P C ⟨some t,.build tt parts,ty,pos,after,gd⟩ env σ (aggOf vs):=
 Xm (fun a m hG hσ hH=>by
  obtain⟨it,fields,z,h1,h2,h3,h4,h5,h6⟩:=hb.h
  obtain⟨cells',q1,q2,q3⟩:=Fc (m:=m) (a:=a) parts.toList _ vs zs.toArray (fun p hp=>hH p.2 (by simp[Op.operands];exact⟨p.1,by simpa using hp⟩)) (by simp) (fun j x hj=>by
   rw[List.getElem?_map,Option.map_eq_some_iff]at hj
   obtain⟨y,hy,rfl⟩:=hj
   exact⟨y,by simpa using hy,h6 y (Zba hy),by simp[AV.rel,RV.rel]⟩) h
  have hbt:P.built tt (parts.map fun p=>(p.1,a.eval p.2)).toList=some cells':=by
   unfold Program.built
   simp only[h1,h2,h3,h5,h4]
   rw[Array.toList_map]
   exact q1
  refine⟨.agg cells',by simp only[execOp];exact by simp[run_build m.w tt _ _ hbt],?_⟩
  have hrel:AV.rels m vs cells'.toList:=AV.rels_of _ _ (by simpa using q2) fun j r u hj hu=>by
   obtain⟨y,e1,_,e3⟩:=q3 j r hj
   have:y=u:=by simpa [e1] using hu
   rwa [this]at e3
  unfold aggOf
  split
  ·rename_i rs hrs
   rw[Lt hrs]at hrel
   simp only[AV.rel,RV.rel]
   exact⟨_,rfl,L8 _ _ hrel⟩
  ·simp only[AV.rel]
   exact⟨_,rfl,hrel⟩)
end
set_option maxRecDepth 100000
instance:T1 Tryz.prog 2:=⟨by kernel_rfl⟩
instance:TI Tryz.prog 2 .i64:=⟨Tryz.underlying2⟩
instance:TZ Tryz.prog 2 [(.int .i64 0)]:=⟨_,_,rfl,rfl,rfl,by decide⟩
instance:T1 Tryz.prog 3:=⟨by kernel_rfl⟩
instance:TI Tryz.prog 3 .i64:=⟨Tryz.underlying3⟩
instance:TZ Tryz.prog 3 [(.int .i64 0)]:=⟨_,_,rfl,rfl,rfl,by decide⟩
instance:T1 Tryz.prog 4:=⟨by kernel_rfl⟩
instance:TZ Tryz.prog 4 [(.bool false)]:=⟨_,_,rfl,rfl,rfl,by decide⟩
instance:T1 Tryz.prog 5:=⟨by kernel_rfl⟩
instance:TI Tryz.prog 5 .u8:=⟨Tryz.underlying5⟩
instance:TZ Tryz.prog 5 [(.int .u8 0)]:=⟨_,_,rfl,rfl,rfl,by decide⟩
instance:T1 Tryz.prog 6:=⟨by kernel_rfl⟩
instance:TI Tryz.prog 6 .u8:=⟨Tryz.underlying6⟩
instance:TZ Tryz.prog 6 [(.int .u8 0)]:=⟨_,_,rfl,rfl,rfl,by decide⟩
instance:FA Tryz.prog 7 0 0:=⟨by kernel_rfl⟩
instance:FA Tryz.prog 7 1 1:=⟨by kernel_rfl⟩
instance:FA Tryz.prog 7 2 2:=⟨by kernel_rfl⟩
instance:FA Tryz.prog 7 3 3:=⟨by kernel_rfl⟩
instance:TN Tryz.prog 7 4:=⟨by kernel_rfl⟩
instance:TZ Tryz.prog 7 [(.int .i64 0),(.int .i64 0),(.bool false),(.int .u8 0)]:=⟨_,_,rfl,rfl,rfl,by decide⟩
instance:FA Tryz.prog 8 0 0:=⟨by kernel_rfl⟩
instance:FA Tryz.prog 8 1 1:=⟨by kernel_rfl⟩
instance:FA Tryz.prog 8 2 2:=⟨by kernel_rfl⟩
instance:FA Tryz.prog 8 3 3:=⟨by kernel_rfl⟩
instance:TN Tryz.prog 8 4:=⟨by kernel_rfl⟩
instance:TZ Tryz.prog 8 [(.int .i64 0),(.int .i64 0),(.bool false),(.int .u8 0)]:=⟨_,_,rfl,rfl,rfl,by decide⟩
instance:T1 Tryz.prog 9:=⟨by kernel_rfl⟩
instance:TS Tryz.prog 9:=⟨Tryz.underlying9⟩
instance:TZ Tryz.prog 9 [(.string ⟨#[]⟩)]:=⟨_,_,rfl,rfl,rfl,by decide⟩
instance:T1 Tryz.prog 10:=⟨by kernel_rfl⟩
instance:TS Tryz.prog 10:=⟨Tryz.underlying10⟩
instance:TZ Tryz.prog 10 [(.string ⟨#[]⟩)]:=⟨_,_,rfl,rfl,rfl,by decide⟩
instance:T1 Tryz.prog 11:=⟨by kernel_rfl⟩
instance:TS Tryz.prog 11:=⟨Tryz.underlying11⟩
instance:TZ Tryz.prog 11 [(.string ⟨#[]⟩)]:=⟨_,_,rfl,rfl,rfl,by decide⟩
instance:T1 Tryz.prog 12:=⟨by kernel_rfl⟩
instance:TI Tryz.prog 12 .u64:=⟨Tryz.underlying12⟩
instance:TZ Tryz.prog 12 [(.int .u64 0)]:=⟨_,_,rfl,rfl,rfl,by decide⟩
instance:FA Tryz.prog 13 0 0:=⟨by kernel_rfl⟩
instance:FA Tryz.prog 13 1 1:=⟨by kernel_rfl⟩
instance:TN Tryz.prog 13 2:=⟨by kernel_rfl⟩
instance:TZ Tryz.prog 13 [(.string ⟨#[]⟩),(.int .u64 0)]:=⟨_,_,rfl,rfl,rfl,by decide⟩
instance:FA Tryz.prog 14 0 0:=⟨by kernel_rfl⟩
instance:FA Tryz.prog 14 1 1:=⟨by kernel_rfl⟩
instance:TN Tryz.prog 14 2:=⟨by kernel_rfl⟩
instance:TZ Tryz.prog 14 [(.string ⟨#[]⟩),(.int .u64 0)]:=⟨_,_,rfl,rfl,rfl,by decide⟩
instance:T1 Tryz.prog 15:=⟨by kernel_rfl⟩
instance:TZ Tryz.prog 15 [(.pointer none)]:=⟨_,_,rfl,rfl,rfl,by decide⟩
instance:T1 Tryz.prog 16:=⟨by kernel_rfl⟩
instance:TZ Tryz.prog 16 [(.pointer none)]:=⟨_,_,rfl,rfl,rfl,by decide⟩
instance:T1 Tryz.prog 17:=⟨by kernel_rfl⟩
instance:TZ Tryz.prog 17 [(.pointer none)]:=⟨_,_,rfl,rfl,rfl,by decide⟩
instance:FA Tryz.prog 18 0 0:=⟨by kernel_rfl⟩
instance:TN Tryz.prog 18 1:=⟨by kernel_rfl⟩
instance:TZ Tryz.prog 18 [(.pointer none)]:=⟨_,_,rfl,rfl,rfl,by decide⟩
instance:FA Tryz.prog 19 0 0:=⟨by kernel_rfl⟩
instance:TN Tryz.prog 19 1:=⟨by kernel_rfl⟩
instance:TZ Tryz.prog 19 [(.pointer none)]:=⟨_,_,rfl,rfl,rfl,by decide⟩
instance:T1 Tryz.prog 21:=⟨by kernel_rfl⟩
instance:TI Tryz.prog 21 .i32:=⟨Tryz.underlying21⟩
instance:TZ Tryz.prog 21 [(.int .i32 0)]:=⟨_,_,rfl,rfl,rfl,by decide⟩
instance:T1 Tryz.prog 22:=⟨by kernel_rfl⟩
instance:TZ Tryz.prog 22 [(.slice none 0 0)]:=⟨_,_,rfl,rfl,rfl,by decide⟩
instance:SL Tryz.prog 22 5 ((.int .u8 0)) 1 1:=⟨Jb Tryz.underlying22 (by kernel_rfl) rfl (by decide)⟩
instance:T1 Tryz.prog 24:=⟨by kernel_rfl⟩
instance:TZ Tryz.prog 24 [(.slice none 0 0)]:=⟨_,_,rfl,rfl,rfl,by decide⟩
instance:SL Tryz.prog 24 78 (.agg #[(.string ⟨#[]⟩),(.int .i64 0),(.int .i64 0),(.bool false),(.slice none 0 0),(.slice none 0 0),(.slice none 0 0),(.slice none 0 0)]) 8 136:=⟨Jb Tryz.underlying24 (by kernel_rfl) rfl (by decide)⟩
instance:FA Tryz.prog 25 0 0:=⟨by kernel_rfl⟩
instance:TN Tryz.prog 25 1:=⟨by kernel_rfl⟩
instance:TZ Tryz.prog 25 [(.slice none 0 0)]:=⟨_,_,rfl,rfl,rfl,by decide⟩
instance:FA Tryz.prog 26 0 0:=⟨by kernel_rfl⟩
instance:TN Tryz.prog 26 1:=⟨by kernel_rfl⟩
instance:TZ Tryz.prog 26 [(.slice none 0 0)]:=⟨_,_,rfl,rfl,rfl,by decide⟩
instance:T1 Tryz.prog 29:=⟨by kernel_rfl⟩
instance:TZ Tryz.prog 29 [(.slice none 0 0)]:=⟨_,_,rfl,rfl,rfl,by decide⟩
instance:SL Tryz.prog 29 51 (.agg #[(.int .i64 0),(.int .i64 0),(.int .i64 0)]) 3 24:=⟨Jb Tryz.underlying29 (by kernel_rfl) rfl (by decide)⟩
instance:T1 Tryz.prog 30:=⟨by kernel_rfl⟩
instance:TZ Tryz.prog 30 [(.slice none 0 0)]:=⟨_,_,rfl,rfl,rfl,by decide⟩
instance:SL Tryz.prog 30 3 ((.int .i64 0)) 1 8:=⟨Jb Tryz.underlying30 (by kernel_rfl) rfl (by decide)⟩
instance:FA Tryz.prog 31 0 0:=⟨by kernel_rfl⟩
instance:FA Tryz.prog 31 1 1:=⟨by kernel_rfl⟩
instance:TN Tryz.prog 31 2:=⟨by kernel_rfl⟩
instance:TZ Tryz.prog 31 [(.slice none 0 0),(.slice none 0 0)]:=⟨_,_,rfl,rfl,rfl,by decide⟩
instance:FA Tryz.prog 32 0 0:=⟨by kernel_rfl⟩
instance:FA Tryz.prog 32 1 1:=⟨by kernel_rfl⟩
instance:TN Tryz.prog 32 2:=⟨by kernel_rfl⟩
instance:TZ Tryz.prog 32 [(.slice none 0 0),(.slice none 0 0)]:=⟨_,_,rfl,rfl,rfl,by decide⟩
instance:T1 Tryz.prog 34:=⟨by kernel_rfl⟩
instance:TZ Tryz.prog 34 [(.slice none 0 0)]:=⟨_,_,rfl,rfl,rfl,by decide⟩
instance:SL Tryz.prog 34 36 (.agg #[(.int .i64 0),(.slice none 0 0),(.slice none 0 0)]) 3 56:=⟨Jb Tryz.underlying34 (by kernel_rfl) rfl (by decide)⟩
instance:FA Tryz.prog 35 0 0:=⟨by kernel_rfl⟩
instance:FA Tryz.prog 35 1 1:=⟨by kernel_rfl⟩
instance:FA Tryz.prog 35 2 2:=⟨by kernel_rfl⟩
instance:TN Tryz.prog 35 3:=⟨by kernel_rfl⟩
instance:TZ Tryz.prog 35 [(.int .i64 0),(.slice none 0 0),(.slice none 0 0)]:=⟨_,_,rfl,rfl,rfl,by decide⟩
instance:FA Tryz.prog 36 0 0:=⟨by kernel_rfl⟩
instance:FA Tryz.prog 36 1 1:=⟨by kernel_rfl⟩
instance:FA Tryz.prog 36 2 2:=⟨by kernel_rfl⟩
instance:TN Tryz.prog 36 3:=⟨by kernel_rfl⟩
instance:TZ Tryz.prog 36 [(.int .i64 0),(.slice none 0 0),(.slice none 0 0)]:=⟨_,_,rfl,rfl,rfl,by decide⟩
instance:FA Tryz.prog 39 0 0:=⟨by kernel_rfl⟩
instance:FA Tryz.prog 39 1 1:=⟨by kernel_rfl⟩
instance:FA Tryz.prog 39 2 2:=⟨by kernel_rfl⟩
instance:FA Tryz.prog 39 3 3:=⟨by kernel_rfl⟩
instance:FA Tryz.prog 39 4 4:=⟨by kernel_rfl⟩
instance:FA Tryz.prog 39 5 5:=⟨by kernel_rfl⟩
instance:FA Tryz.prog 39 6 6:=⟨by kernel_rfl⟩
instance:FA Tryz.prog 39 7 7:=⟨by kernel_rfl⟩
instance:FA Tryz.prog 39 8 8:=⟨by kernel_rfl⟩
instance:FA Tryz.prog 39 9 9:=⟨by kernel_rfl⟩
instance:TN Tryz.prog 39 10:=⟨by kernel_rfl⟩
instance:TZ Tryz.prog 39 [(.int .i64 0),(.int .i64 0),(.slice none 0 0),(.slice none 0 0),(.int .i64 0),(.bool false),(.bool false),(.int .i64 0),(.int .i64 0),(.int .i64 0)]:=⟨_,_,rfl,rfl,rfl,by decide⟩
instance:FA Tryz.prog 40 0 0:=⟨by kernel_rfl⟩
instance:FA Tryz.prog 40 1 1:=⟨by kernel_rfl⟩
instance:FA Tryz.prog 40 2 2:=⟨by kernel_rfl⟩
instance:FA Tryz.prog 40 3 3:=⟨by kernel_rfl⟩
instance:FA Tryz.prog 40 4 4:=⟨by kernel_rfl⟩
instance:FA Tryz.prog 40 5 5:=⟨by kernel_rfl⟩
instance:FA Tryz.prog 40 6 6:=⟨by kernel_rfl⟩
instance:FA Tryz.prog 40 7 7:=⟨by kernel_rfl⟩
instance:FA Tryz.prog 40 8 8:=⟨by kernel_rfl⟩
instance:FA Tryz.prog 40 9 9:=⟨by kernel_rfl⟩
instance:TN Tryz.prog 40 10:=⟨by kernel_rfl⟩
instance:TZ Tryz.prog 40 [(.int .i64 0),(.int .i64 0),(.slice none 0 0),(.slice none 0 0),(.int .i64 0),(.bool false),(.bool false),(.int .i64 0),(.int .i64 0),(.int .i64 0)]:=⟨_,_,rfl,rfl,rfl,by decide⟩
instance:T1 Tryz.prog 46:=⟨by kernel_rfl⟩
instance:TZ Tryz.prog 46 [(.pointer none)]:=⟨_,_,rfl,rfl,rfl,by decide⟩
instance:FA Tryz.prog 50 0 0:=⟨by kernel_rfl⟩
instance:FA Tryz.prog 50 1 1:=⟨by kernel_rfl⟩
instance:FA Tryz.prog 50 2 2:=⟨by kernel_rfl⟩
instance:TN Tryz.prog 50 3:=⟨by kernel_rfl⟩
instance:TZ Tryz.prog 50 [(.int .i64 0),(.int .i64 0),(.int .i64 0)]:=⟨_,_,rfl,rfl,rfl,by decide⟩
instance:FA Tryz.prog 51 0 0:=⟨by kernel_rfl⟩
instance:FA Tryz.prog 51 1 1:=⟨by kernel_rfl⟩
instance:FA Tryz.prog 51 2 2:=⟨by kernel_rfl⟩
instance:TN Tryz.prog 51 3:=⟨by kernel_rfl⟩
instance:TZ Tryz.prog 51 [(.int .i64 0),(.int .i64 0),(.int .i64 0)]:=⟨_,_,rfl,rfl,rfl,by decide⟩
instance:FA Tryz.prog 59 0 0:=⟨by kernel_rfl⟩
instance:FA Tryz.prog 59 1 1:=⟨by kernel_rfl⟩
instance:FA Tryz.prog 59 2 2:=⟨by kernel_rfl⟩
instance:TN Tryz.prog 59 3:=⟨by kernel_rfl⟩
instance:TZ Tryz.prog 59 [(.slice none 0 0),(.int .i64 0),(.int .i64 0)]:=⟨_,_,rfl,rfl,rfl,by decide⟩
instance:FA Tryz.prog 60 0 0:=⟨by kernel_rfl⟩
instance:FA Tryz.prog 60 1 1:=⟨by kernel_rfl⟩
instance:FA Tryz.prog 60 2 2:=⟨by kernel_rfl⟩
instance:TN Tryz.prog 60 3:=⟨by kernel_rfl⟩
instance:TZ Tryz.prog 60 [(.slice none 0 0),(.int .i64 0),(.int .i64 0)]:=⟨_,_,rfl,rfl,rfl,by decide⟩
instance:T1 Tryz.prog 72:=⟨by kernel_rfl⟩
instance:TZ Tryz.prog 72 [(.pointer none)]:=⟨_,_,rfl,rfl,rfl,by decide⟩
instance:T1 Tryz.prog 73:=⟨by kernel_rfl⟩
instance:TZ Tryz.prog 73 [(.slice none 0 0)]:=⟨_,_,rfl,rfl,rfl,by decide⟩
instance:FA Tryz.prog 74 0 0:=⟨by kernel_rfl⟩
instance:FA Tryz.prog 74 1 1:=⟨by kernel_rfl⟩
instance:FA Tryz.prog 74 2 2:=⟨by kernel_rfl⟩
instance:FA Tryz.prog 74 3 3:=⟨by kernel_rfl⟩
instance:TN Tryz.prog 74 4:=⟨by kernel_rfl⟩
instance:TZ Tryz.prog 74 [(.slice none 0 0),(.int .i64 0),(.slice none 0 0),(.slice none 0 0)]:=⟨_,_,rfl,rfl,rfl,by decide⟩
instance:FA Tryz.prog 75 0 0:=⟨by kernel_rfl⟩
instance:FA Tryz.prog 75 1 1:=⟨by kernel_rfl⟩
instance:FA Tryz.prog 75 2 2:=⟨by kernel_rfl⟩
instance:FA Tryz.prog 75 3 3:=⟨by kernel_rfl⟩
instance:TN Tryz.prog 75 4:=⟨by kernel_rfl⟩
instance:TZ Tryz.prog 75 [(.slice none 0 0),(.int .i64 0),(.slice none 0 0),(.slice none 0 0)]:=⟨_,_,rfl,rfl,rfl,by decide⟩
instance:T1 Tryz.prog 76:=⟨by kernel_rfl⟩
instance:TZ Tryz.prog 76 [(.slice none 0 0)]:=⟨_,_,rfl,rfl,rfl,by decide⟩
instance:SL Tryz.prog 76 9 ((.string ⟨#[]⟩)) 1 16:=⟨Jb Tryz.underlying76 (by kernel_rfl) rfl (by decide)⟩
instance:FA Tryz.prog 77 0 0:=⟨by kernel_rfl⟩
instance:FA Tryz.prog 77 1 1:=⟨by kernel_rfl⟩
instance:FA Tryz.prog 77 2 2:=⟨by kernel_rfl⟩
instance:FA Tryz.prog 77 3 3:=⟨by kernel_rfl⟩
instance:FA Tryz.prog 77 4 4:=⟨by kernel_rfl⟩
instance:FA Tryz.prog 77 5 5:=⟨by kernel_rfl⟩
instance:FA Tryz.prog 77 6 6:=⟨by kernel_rfl⟩
instance:FA Tryz.prog 77 7 7:=⟨by kernel_rfl⟩
instance:TN Tryz.prog 77 8:=⟨by kernel_rfl⟩
instance:TZ Tryz.prog 77 [(.string ⟨#[]⟩),(.int .i64 0),(.int .i64 0),(.bool false),(.slice none 0 0),(.slice none 0 0),(.slice none 0 0),(.slice none 0 0)]:=⟨_,_,rfl,rfl,rfl,by decide⟩
instance:FA Tryz.prog 78 0 0:=⟨by kernel_rfl⟩
instance:FA Tryz.prog 78 1 1:=⟨by kernel_rfl⟩
instance:FA Tryz.prog 78 2 2:=⟨by kernel_rfl⟩
instance:FA Tryz.prog 78 3 3:=⟨by kernel_rfl⟩
instance:FA Tryz.prog 78 4 4:=⟨by kernel_rfl⟩
instance:FA Tryz.prog 78 5 5:=⟨by kernel_rfl⟩
instance:FA Tryz.prog 78 6 6:=⟨by kernel_rfl⟩
instance:FA Tryz.prog 78 7 7:=⟨by kernel_rfl⟩
instance:TN Tryz.prog 78 8:=⟨by kernel_rfl⟩
instance:TZ Tryz.prog 78 [(.string ⟨#[]⟩),(.int .i64 0),(.int .i64 0),(.bool false),(.slice none 0 0),(.slice none 0 0),(.slice none 0 0),(.slice none 0 0)]:=⟨_,_,rfl,rfl,rfl,by decide⟩
instance:T1 Tryz.prog 82:=⟨by kernel_rfl⟩
instance:TZ Tryz.prog 82 [(.pointer none)]:=⟨_,_,rfl,rfl,rfl,by decide⟩
instance:TN Tryz.prog 108 18:=⟨by kernel_rfl⟩
instance:AR Tryz.prog 108 18 1:=⟨by kernel_rfl⟩
instance:T1 Tryz.prog 113:=⟨by kernel_rfl⟩
instance:TI Tryz.prog 113 .u64:=⟨Tryz.underlying113⟩
instance:TZ Tryz.prog 113 [(.int .u64 0)]:=⟨_,_,rfl,rfl,rfl,by decide⟩
instance:T1 Tryz.prog 124:=⟨by kernel_rfl⟩
instance:TZ Tryz.prog 124 [(.pointer none)]:=⟨_,_,rfl,rfl,rfl,by decide⟩
instance:FA Tryz.prog 129 0 0:=⟨by kernel_rfl⟩
instance:FA Tryz.prog 129 1 1:=⟨by kernel_rfl⟩
instance:FA Tryz.prog 129 2 2:=⟨by kernel_rfl⟩
instance:FA Tryz.prog 129 3 3:=⟨by kernel_rfl⟩
instance:TN Tryz.prog 129 4:=⟨by kernel_rfl⟩
instance:TZ Tryz.prog 129 [(.pointer none),(.pointer none),(.pointer none),(.string ⟨#[]⟩)]:=⟨_,_,rfl,rfl,rfl,by decide⟩
instance:FA Tryz.prog 130 0 0:=⟨by kernel_rfl⟩
instance:FA Tryz.prog 130 1 1:=⟨by kernel_rfl⟩
instance:FA Tryz.prog 130 2 2:=⟨by kernel_rfl⟩
instance:FA Tryz.prog 130 3 3:=⟨by kernel_rfl⟩
instance:TN Tryz.prog 130 4:=⟨by kernel_rfl⟩
instance:TZ Tryz.prog 130 [(.pointer none),(.pointer none),(.pointer none),(.string ⟨#[]⟩)]:=⟨_,_,rfl,rfl,rfl,by decide⟩
instance:TN Tryz.prog 131 0:=⟨by kernel_rfl⟩
instance:AR Tryz.prog 131 0 1:=⟨by kernel_rfl⟩
instance:T1 Tryz.prog 134:=⟨by kernel_rfl⟩
instance:TI Tryz.prog 134 .u32:=⟨Tryz.underlying134⟩
instance:TZ Tryz.prog 134 [(.int .u32 0)]:=⟨_,_,rfl,rfl,rfl,by decide⟩
instance:T1 Tryz.prog 135:=⟨by kernel_rfl⟩
instance:TI Tryz.prog 135 .u8:=⟨Tryz.underlying135⟩
instance:TZ Tryz.prog 135 [(.int .u8 0)]:=⟨_,_,rfl,rfl,rfl,by decide⟩
instance:T1 Tryz.prog 136:=⟨by kernel_rfl⟩
instance:TI Tryz.prog 136 .u8:=⟨Tryz.underlying136⟩
instance:TZ Tryz.prog 136 [(.int .u8 0)]:=⟨_,_,rfl,rfl,rfl,by decide⟩
instance:T1 Tryz.prog 138:=⟨by kernel_rfl⟩
instance:TZ Tryz.prog 138 [(.pointer none)]:=⟨_,_,rfl,rfl,rfl,by decide⟩
instance:T1 Tryz.prog 139:=⟨by kernel_rfl⟩
instance:TI Tryz.prog 139 .i32:=⟨Tryz.underlying139⟩
instance:TZ Tryz.prog 139 [(.int .i32 0)]:=⟨_,_,rfl,rfl,rfl,by decide⟩
instance:T1 Tryz.prog 140:=⟨by kernel_rfl⟩
instance:TI Tryz.prog 140 .i32:=⟨Tryz.underlying140⟩
instance:TZ Tryz.prog 140 [(.int .i32 0)]:=⟨_,_,rfl,rfl,rfl,by decide⟩
instance:FA Tryz.prog 141 0 0:=⟨by kernel_rfl⟩
instance:FA Tryz.prog 141 1 1:=⟨by kernel_rfl⟩
instance:FA Tryz.prog 141 2 2:=⟨by kernel_rfl⟩
instance:FA Tryz.prog 141 3 3:=⟨by kernel_rfl⟩
instance:FA Tryz.prog 141 4 4:=⟨by kernel_rfl⟩
instance:FA Tryz.prog 141 5 5:=⟨by kernel_rfl⟩
instance:FA Tryz.prog 141 6 6:=⟨by kernel_rfl⟩
instance:FA Tryz.prog 141 8 8:=⟨by kernel_rfl⟩
instance:FA Tryz.prog 141 9 9:=⟨by kernel_rfl⟩
instance:FA Tryz.prog 141 10 10:=⟨by kernel_rfl⟩
instance:TN Tryz.prog 141 11:=⟨by kernel_rfl⟩
instance:TZ Tryz.prog 141 [(.int .u64 0),(.int .u64 0),(.int .u32 0),(.int .u8 0),(.int .u8 0),(.int .u8 0),(.int .u8 0),.nilFunc,(.pointer none),(.int .i32 0),(.int .i32 0)]:=⟨_,_,rfl,rfl,rfl,by decide⟩
instance:FA Tryz.prog 142 0 0:=⟨by kernel_rfl⟩
instance:FA Tryz.prog 142 1 1:=⟨by kernel_rfl⟩
instance:FA Tryz.prog 142 2 2:=⟨by kernel_rfl⟩
instance:FA Tryz.prog 142 3 3:=⟨by kernel_rfl⟩
instance:FA Tryz.prog 142 4 4:=⟨by kernel_rfl⟩
instance:FA Tryz.prog 142 5 5:=⟨by kernel_rfl⟩
instance:FA Tryz.prog 142 6 6:=⟨by kernel_rfl⟩
instance:FA Tryz.prog 142 8 8:=⟨by kernel_rfl⟩
instance:FA Tryz.prog 142 9 9:=⟨by kernel_rfl⟩
instance:FA Tryz.prog 142 10 10:=⟨by kernel_rfl⟩
instance:TN Tryz.prog 142 11:=⟨by kernel_rfl⟩
instance:TZ Tryz.prog 142 [(.int .u64 0),(.int .u64 0),(.int .u32 0),(.int .u8 0),(.int .u8 0),(.int .u8 0),(.int .u8 0),.nilFunc,(.pointer none),(.int .i32 0),(.int .i32 0)]:=⟨_,_,rfl,rfl,rfl,by decide⟩
instance:FN Tryz.prog 3 Tryz.f3:=⟨Tryz.func3,by kernel_rfl,by kernel_rfl⟩
instance:FN Tryz.prog 4 Tryz.f4:=⟨Tryz.func4,by kernel_rfl,by kernel_rfl⟩
instance:FN Tryz.prog 5 Tryz.f5:=⟨Tryz.func5,by kernel_rfl,by kernel_rfl⟩
instance:FN Tryz.prog 6 Tryz.f6:=⟨Tryz.func6,by kernel_rfl,by kernel_rfl⟩
instance:FN Tryz.prog 7 Tryz.f7:=⟨Tryz.func7,by kernel_rfl,by kernel_rfl⟩
instance:FN Tryz.prog 8 Tryz.f8:=⟨Tryz.func8,by kernel_rfl,by kernel_rfl⟩
instance:FN Tryz.prog 9 Tryz.f9:=⟨Tryz.func9,by kernel_rfl,by kernel_rfl⟩
instance:FN Tryz.prog 10 Tryz.f10:=⟨Tryz.func10,by kernel_rfl,by kernel_rfl⟩
instance:FN Tryz.prog 11 Tryz.f11:=⟨Tryz.func11,by kernel_rfl,by kernel_rfl⟩
instance:FN Tryz.prog 12 Tryz.f12:=⟨Tryz.func12,by kernel_rfl,by kernel_rfl⟩
instance:FN Tryz.prog 13 Tryz.f13:=⟨Tryz.func13,by kernel_rfl,by kernel_rfl⟩
instance:FN Tryz.prog 14 Tryz.f14:=⟨Tryz.func14,by kernel_rfl,by kernel_rfl⟩
instance:FN Tryz.prog 15 Tryz.f15:=⟨Tryz.func15,by kernel_rfl,by kernel_rfl⟩
instance:FN Tryz.prog 16 Tryz.f16:=⟨Tryz.func16,by kernel_rfl,by kernel_rfl⟩
instance:FN Tryz.prog 17 Tryz.f17:=⟨Tryz.func17,by kernel_rfl,by kernel_rfl⟩
instance:FN Tryz.prog 18 Tryz.f18:=⟨Tryz.func18,by kernel_rfl,by kernel_rfl⟩
instance:FN Tryz.prog 19 Tryz.f19:=⟨Tryz.func19,by kernel_rfl,by kernel_rfl⟩
instance:FN Tryz.prog 20 Tryz.f20:=⟨Tryz.func20,by kernel_rfl,by kernel_rfl⟩
instance:FN Tryz.prog 21 Tryz.f21:=⟨Tryz.func21,by kernel_rfl,by kernel_rfl⟩
instance:FN Tryz.prog 22 Tryz.f22:=⟨Tryz.func22,by kernel_rfl,by kernel_rfl⟩
instance:FN Tryz.prog 23 Tryz.f23:=⟨Tryz.func23,by kernel_rfl,by kernel_rfl⟩
instance:FN Tryz.prog 24 Tryz.f24:=⟨Tryz.func24,by kernel_rfl,by kernel_rfl⟩
instance:FN Tryz.prog 25 Tryz.f25:=⟨Tryz.func25,by kernel_rfl,by kernel_rfl⟩
instance:FN Tryz.prog 26 Tryz.f26:=⟨Tryz.func26,by kernel_rfl,by kernel_rfl⟩
instance:FN Tryz.prog 27 Tryz.f27:=⟨Tryz.func27,by kernel_rfl,by kernel_rfl⟩
instance:FN Tryz.prog 28 Tryz.f28:=⟨Tryz.func28,by kernel_rfl,by kernel_rfl⟩
instance:FN Tryz.prog 29 Tryz.f29:=⟨Tryz.func29,by kernel_rfl,by kernel_rfl⟩
instance:FN Tryz.prog 30 Tryz.f30:=⟨Tryz.func30,by kernel_rfl,by kernel_rfl⟩
instance:FN Tryz.prog 31 Tryz.f31:=⟨Tryz.func31,by kernel_rfl,by kernel_rfl⟩
instance:FN Tryz.prog 32 Tryz.f32:=⟨Tryz.func32,by kernel_rfl,by kernel_rfl⟩
instance:FN Tryz.prog 33 Tryz.f33:=⟨Tryz.func33,by kernel_rfl,by kernel_rfl⟩
instance:FN Tryz.prog 34 Tryz.f34:=⟨Tryz.func34,by kernel_rfl,by kernel_rfl⟩
instance:FN Tryz.prog 35 Tryz.f35:=⟨Tryz.func35,by kernel_rfl,by kernel_rfl⟩
instance:FN Tryz.prog 36 Tryz.f36:=⟨Tryz.func36,by kernel_rfl,by kernel_rfl⟩
instance:FN Tryz.prog 37 Tryz.f37:=⟨Tryz.func37,by kernel_rfl,by kernel_rfl⟩
instance:FN Tryz.prog 38 Tryz.f38:=⟨Tryz.func38,by kernel_rfl,by kernel_rfl⟩
instance:FN Tryz.prog 39 Tryz.f39:=⟨Tryz.func39,by kernel_rfl,by kernel_rfl⟩
instance:FN Tryz.prog 40 Tryz.f40:=⟨Tryz.func40,by kernel_rfl,by kernel_rfl⟩
instance:FN Tryz.prog 41 Tryz.f41:=⟨Tryz.func41,by kernel_rfl,by kernel_rfl⟩
instance:FN Tryz.prog 42 Tryz.f42:=⟨Tryz.func42,by kernel_rfl,by kernel_rfl⟩
instance:FN Tryz.prog 43 Tryz.f43:=⟨Tryz.func43,by kernel_rfl,by kernel_rfl⟩
instance:FN Tryz.prog 44 Tryz.f44:=⟨Tryz.func44,by kernel_rfl,by kernel_rfl⟩
instance:FN Tryz.prog 45 Tryz.f45:=⟨Tryz.func45,by kernel_rfl,by kernel_rfl⟩
instance:FN Tryz.prog 46 Tryz.f46:=⟨Tryz.func46,by kernel_rfl,by kernel_rfl⟩
instance:FN Tryz.prog 47 Tryz.f47:=⟨Tryz.func47,by kernel_rfl,by kernel_rfl⟩
instance:FN Tryz.prog 48 Tryz.f48:=⟨Tryz.func48,by kernel_rfl,by kernel_rfl⟩
instance:FN Tryz.prog 49 Tryz.f49:=⟨Tryz.func49,by kernel_rfl,by kernel_rfl⟩
instance:FN Tryz.prog 50 Tryz.f50:=⟨Tryz.func50,by kernel_rfl,by kernel_rfl⟩
instance:FN Tryz.prog 51 Tryz.f51:=⟨Tryz.func51,by kernel_rfl,by kernel_rfl⟩
instance:FN Tryz.prog 52 Tryz.f52:=⟨Tryz.func52,by kernel_rfl,by kernel_rfl⟩
instance:FN Tryz.prog 53 Tryz.f53:=⟨Tryz.func53,by kernel_rfl,by kernel_rfl⟩
instance:FN Tryz.prog 54 Tryz.f54:=⟨Tryz.func54,by kernel_rfl,by kernel_rfl⟩
instance:FN Tryz.prog 55 Tryz.f55:=⟨Tryz.func55,by kernel_rfl,by kernel_rfl⟩
instance:FN Tryz.prog 56 Tryz.f56:=⟨Tryz.func56,by kernel_rfl,by kernel_rfl⟩
instance:FN Tryz.prog 57 Tryz.f57:=⟨Tryz.func57,by kernel_rfl,by kernel_rfl⟩
instance:FN Tryz.prog 58 Tryz.f58:=⟨Tryz.func58,by kernel_rfl,by kernel_rfl⟩
instance:FN Tryz.prog 59 Tryz.f59:=⟨Tryz.func59,by kernel_rfl,by kernel_rfl⟩
instance:FN Tryz.prog 60 Tryz.f60:=⟨Tryz.func60,by kernel_rfl,by kernel_rfl⟩
instance:FN Tryz.prog 61 Tryz.f61:=⟨Tryz.func61,by kernel_rfl,by kernel_rfl⟩
instance:FN Tryz.prog 62 Tryz.f62:=⟨Tryz.func62,by kernel_rfl,by kernel_rfl⟩
instance:FN Tryz.prog 63 Tryz.f63:=⟨Tryz.func63,by kernel_rfl,by kernel_rfl⟩
instance:FN Tryz.prog 64 Tryz.f64:=⟨Tryz.func64,by kernel_rfl,by kernel_rfl⟩
instance:FN Tryz.prog 65 Tryz.f65:=⟨Tryz.func65,by kernel_rfl,by kernel_rfl⟩
instance:FN Tryz.prog 66 Tryz.f66:=⟨Tryz.func66,by kernel_rfl,by kernel_rfl⟩
instance:FN Tryz.prog 67 Tryz.f67:=⟨Tryz.func67,by kernel_rfl,by kernel_rfl⟩
instance:FN Tryz.prog 68 Tryz.f68:=⟨Tryz.func68,by kernel_rfl,by kernel_rfl⟩
instance:FN Tryz.prog 69 Tryz.f69:=⟨Tryz.func69,by kernel_rfl,by kernel_rfl⟩
instance:FN Tryz.prog 70 Tryz.f70:=⟨Tryz.func70,by kernel_rfl,by kernel_rfl⟩
instance:FN Tryz.prog 71 Tryz.f71:=⟨Tryz.func71,by kernel_rfl,by kernel_rfl⟩
instance:FN Tryz.prog 72 Tryz.f72:=⟨Tryz.func72,by kernel_rfl,by kernel_rfl⟩
instance:FN Tryz.prog 73 Tryz.f73:=⟨Tryz.func73,by kernel_rfl,by kernel_rfl⟩
instance:FN Tryz.prog 74 Tryz.f74:=⟨Tryz.func74,by kernel_rfl,by kernel_rfl⟩
instance:FN Tryz.prog 75 Tryz.f75:=⟨Tryz.func75,by kernel_rfl,by kernel_rfl⟩
instance:FN Tryz.prog 76 Tryz.f76:=⟨Tryz.func76,by kernel_rfl,by kernel_rfl⟩
instance:FN Tryz.prog 77 Tryz.f77:=⟨Tryz.func77,by kernel_rfl,by kernel_rfl⟩
instance:FN Tryz.prog 78 Tryz.f78:=⟨Tryz.func78,by kernel_rfl,by kernel_rfl⟩
instance:FN Tryz.prog 79 Tryz.f79:=⟨Tryz.func79,by kernel_rfl,by kernel_rfl⟩
instance:FN Tryz.prog 80 Tryz.f80:=⟨Tryz.func80,by kernel_rfl,by kernel_rfl⟩
instance:FN Tryz.prog 81 Tryz.f81:=⟨Tryz.func81,by kernel_rfl,by kernel_rfl⟩
instance:FN Tryz.prog 82 Tryz.f82:=⟨Tryz.func82,by kernel_rfl,by kernel_rfl⟩
instance:FN Tryz.prog 83 Tryz.f83:=⟨Tryz.func83,by kernel_rfl,by kernel_rfl⟩
instance:FN Tryz.prog 84 Tryz.f84:=⟨Tryz.func84,by kernel_rfl,by kernel_rfl⟩
instance:FN Tryz.prog 85 Tryz.f85:=⟨Tryz.func85,by kernel_rfl,by kernel_rfl⟩
instance:FN Tryz.prog 86 Tryz.f86:=⟨Tryz.func86,by kernel_rfl,by kernel_rfl⟩
instance:FN Tryz.prog 87 Tryz.f87:=⟨Tryz.func87,by kernel_rfl,by kernel_rfl⟩
instance:FN Tryz.prog 88 Tryz.f88:=⟨Tryz.func88,by kernel_rfl,by kernel_rfl⟩
instance:FN Tryz.prog 89 Tryz.f89:=⟨Tryz.func89,by kernel_rfl,by kernel_rfl⟩
instance:FN Tryz.prog 90 Tryz.f90:=⟨Tryz.func90,by kernel_rfl,by kernel_rfl⟩
instance:FN Tryz.prog 91 Tryz.f91:=⟨Tryz.func91,by kernel_rfl,by kernel_rfl⟩
instance:FN Tryz.prog 92 Tryz.f92:=⟨Tryz.func92,by kernel_rfl,by kernel_rfl⟩
instance:FN Tryz.prog 93 Tryz.f93:=⟨Tryz.func93,by kernel_rfl,by kernel_rfl⟩
instance:FN Tryz.prog 94 Tryz.f94:=⟨Tryz.func94,by kernel_rfl,by kernel_rfl⟩
instance:FN Tryz.prog 95 Tryz.f95:=⟨Tryz.func95,by kernel_rfl,by kernel_rfl⟩
instance:FN Tryz.prog 96 Tryz.f96:=⟨Tryz.func96,by kernel_rfl,by kernel_rfl⟩
instance:FN Tryz.prog 97 Tryz.f97:=⟨Tryz.func97,by kernel_rfl,by kernel_rfl⟩
instance:FN Tryz.prog 98 Tryz.f98:=⟨Tryz.func98,by kernel_rfl,by kernel_rfl⟩
instance:FN Tryz.prog 99 Tryz.f99:=⟨Tryz.func99,by kernel_rfl,by kernel_rfl⟩
instance:FN Tryz.prog 100 Tryz.f100:=⟨Tryz.func100,by kernel_rfl,by kernel_rfl⟩
instance:FN Tryz.prog 101 Tryz.f101:=⟨Tryz.func101,by kernel_rfl,by kernel_rfl⟩
instance:FN Tryz.prog 102 Tryz.f102:=⟨Tryz.func102,by kernel_rfl,by kernel_rfl⟩
instance:FN Tryz.prog 103 Tryz.f103:=⟨Tryz.func103,by kernel_rfl,by kernel_rfl⟩
instance:FN Tryz.prog 104 Tryz.f104:=⟨Tryz.func104,by kernel_rfl,by kernel_rfl⟩
instance:FN Tryz.prog 105 Tryz.f105:=⟨Tryz.func105,by kernel_rfl,by kernel_rfl⟩
instance:FN Tryz.prog 106 Tryz.f106:=⟨Tryz.func106,by kernel_rfl,by kernel_rfl⟩
instance:FN Tryz.prog 107 Tryz.f107:=⟨Tryz.func107,by kernel_rfl,by kernel_rfl⟩
instance:FN Tryz.prog 108 Tryz.f108:=⟨Tryz.func108,by kernel_rfl,by kernel_rfl⟩
instance:FN Tryz.prog 109 Tryz.f109:=⟨Tryz.func109,by kernel_rfl,by kernel_rfl⟩
instance:FN Tryz.prog 110 Tryz.f110:=⟨Tryz.func110,by kernel_rfl,by kernel_rfl⟩
instance:FN Tryz.prog 111 Tryz.f111:=⟨Tryz.func111,by kernel_rfl,by kernel_rfl⟩
instance:FN Tryz.prog 112 Tryz.f112:=⟨Tryz.func112,by kernel_rfl,by kernel_rfl⟩
instance:FN Tryz.prog 113 Tryz.f113:=⟨Tryz.func113,by kernel_rfl,by kernel_rfl⟩
instance:FN Tryz.prog 114 Tryz.f114:=⟨Tryz.func114,by kernel_rfl,by kernel_rfl⟩
instance:FN Tryz.prog 115 Tryz.f115:=⟨Tryz.func115,by kernel_rfl,by kernel_rfl⟩
instance:FN Tryz.prog 116 Tryz.f116:=⟨Tryz.func116,by kernel_rfl,by kernel_rfl⟩
instance:FN Tryz.prog 117 Tryz.f117:=⟨Tryz.func117,by kernel_rfl,by kernel_rfl⟩
instance:FN Tryz.prog 118 Tryz.f118:=⟨Tryz.func118,by kernel_rfl,by kernel_rfl⟩
instance:FN Tryz.prog 119 Tryz.f119:=⟨Tryz.func119,by kernel_rfl,by kernel_rfl⟩
instance:FN Tryz.prog 120 Tryz.f120:=⟨Tryz.func120,by kernel_rfl,by kernel_rfl⟩
instance:FN Tryz.prog 121 Tryz.f121:=⟨Tryz.func121,by kernel_rfl,by kernel_rfl⟩
instance:FN Tryz.prog 122 Tryz.f122:=⟨Tryz.func122,by kernel_rfl,by kernel_rfl⟩
instance:FN Tryz.prog 123 Tryz.f123:=⟨Tryz.func123,by kernel_rfl,by kernel_rfl⟩
instance:FN Tryz.prog 124 Tryz.f124:=⟨Tryz.func124,by kernel_rfl,by kernel_rfl⟩
def tab:Tab:=⟨[(26,[0]),(32,[0,1]),(36,[0,1,2]),(40,[0,1,2,3,4,5,6,7,8,9]),(51,[0,1,2]),(60,[0,1,2]),(75,[0,1,2,3]),(78,[0,1,2,3,4,5,6,7])],[2,3,4,5,9,21,22,24,29,30,34,46,72,73,76,82,113,124,134,138],[(26,1),(32,2),(36,3),(40,10),(51,3),(60,3),(75,4),(78,8),(108,18),(131,0)],[22,24,29,30,34,73,76],[9],[4]⟩
theorem Zk:TabOk Tryz.prog tab:=⟨by kernel_rfl,by kernel_rfl,by kernel_rfl,by kernel_rfl,by kernel_rfl,by kernel_rfl⟩
theorem Yc:Tryz.prog.follows .mixedOrders=true:=by kernel_rfl
def plains:List Nat:=[2,3,4,5,6,7,9,12,13,21,22,24,25,26,29,30,31,32,34,35,36,39,40,50,51,59,60,74,75,76,77,78,113,134]
theorem plainsOk:(plains.all (typB Tryz.prog plains))=true:=by kernel_rfl
theorem Aa(e:TypeId)(l:List Int):Seals (.row e 1 (l.map RV.int)) (Xe l):=by
 have h:=Nu e (l.map RV.int)
 rwa [List.map_map]at h
structure Ins where
 op:Int
 a:Int
 b:Int
structure Prg where
 code:List Ins
 entries:List Int
def Ul(i:Ins):List RV:=[.int i.op,.int i.a,.int i.b]
def Qp(l:List Ins):RV:=.seq 3 (l.map Ul)
def Tm(p:Prg):RV:=.agg [Qp p.code,Xe p.entries]
theorem insR_len(i:Ins):(Ul i).length=3:=rfl
def InsOk(i:Ins):Prop:=I64 i.op∧I64 i.a∧I64 i.b
structure PrgOk (p:Prg):Prop where
 code:∀i∈p.code,InsOk i
 entries:∀e∈p.entries,I64 e
 clen:p.code.length≤maxLen
 elen:p.entries.length≤maxLen
deriving instance DecidableEq for Ins
deriving instance DecidableEq for Prg
section
variable{α:Type}{a b:List α}{j:Nat}{x y:α}
end
def insV(i:Ins):List Value:=[.int .i64 i.op,.int .i64 i.a,.int .i64 i.b]
section
variable{P:Program}{C:Ctx}{env:Env}{σ:List Ob}{t:Nat}{ty:TypeId}{pos:String}{after:Array Edge}{gd:Option (Nat×Bool)}
theorem pu_string{src dst e:TypeId}{x:Operand}{l:List UInt8}(hs:P.underlying src=some (.slice e))(he:P.underlying e=some (.int .u8))(hd:P.underlying dst=some .string)(hx:ev env x = .ro (Ya l)) :
  Pur P C ⟨some t,.convert src dst x,ty,pos,after,gd⟩ env σ (.str ⟨l.toArray⟩):=
 Xm (fun a m hG hσ hH=>by
  have h:=hH x (by simp[Op.operands])
  rw[hx]at h
  simp only[AV.rel,Ya,RV.rel]at h
  obtain⟨A,n,c,e1,hn,hc,_,hA⟩:=h
  rw[lmT]at hn
  refine⟨.string ⟨l.toArray⟩,?_,by simp[AV.rel,RV.rel]⟩
  have key:(convert src dst (a.eval x)).run P m.w = .ok (.string ⟨l.toArray⟩) m.w:=by
   rw[e1]
   cases hl:l with
   |nil=>
    subst hl
    have:n=0:=by simpa using hn
    subst this
    cases A with
    |none=>rw[run_convert_bytes_string m.w src dst e none 0 c hs he hd];rfl
    |some a=>exact run_convert_bytes_back m.w src dst e a c [] hs he hd (fun j hj=>absurd hj (by simp))
   |cons y ys=>
    obtain⟨b,o,eA,hb,_,hE⟩:=hA (by rw[hn,hl];simp)
    rw[eA,hn,←hl]
    refine run_convert_bytes_back m.w src dst e ⟨b,o,none⟩ c l hs he hd fun j hj=>?_
    have h1:=RV.relE_at _ o 1 hE j [.u8 l[j]] (by rw[List.getElem?_map,Za6 hj];rfl)
    obtain⟨_,h2⟩:=h1
    simp only[RV.relAt]at h2
    obtain⟨⟨u,k1,_,k3⟩,_⟩:=h2
    simp only[RV.rel]at k3
    rw[add_lit,←k3,←k1,Nat.mul_one]
  simp only[execOp,Sem.run_bind,key,Result.andThen]
  rfl)
end
theorem Qc(e:TypeId)(l:List UInt8):Seals (.row e 1 (l.map RV.u8)) (Ya l):=by
 have h:=Nu e (l.map RV.u8)
 rwa [List.map_map]at h
theorem u8_ext{x y:UInt8}(h:(x.toNat:Int)=(y.toNat:Int)):x=y:=UInt8.toNat_inj.1 (Int.ofNat_inj.1 h)
section
variable{α:Type}(f:α→Nat)
theorem Gm{l:List α}{j:Nat}{x:α}(hx:l[j]?=some x):((l.take (j+1)).map f).sum=((l.take j).map f).sum+f x:=by
 obtain⟨hj,rfl⟩:=Za5.1 hx
 rw[List.take_succ_eq_append_getElem hj];simp only[List.map_append,List.map_cons,List.map_nil,List.sum_append,List.sum_cons,List.sum_nil,Nat.add_zero]
theorem Pi(l:List α)(j:Nat):((l.take j).map f).sum≤(l.map f).sum:=by
 have h:=congrArg (fun l=>(l.map f).sum) (List.take_append_drop j l)
 simp only[List.map_append,List.sum_append]at h
 omega
theorem U7{l:List α}{x:α}(h:x∈l):f x≤(l.map f).sum:=by
 induction l with
 |nil=>cases h
 |cons y l ih=>
  rw[List.map_cons,List.sum_cons]
  rcases List.mem_cons.1 h with e|e
  ·rw[e];omega
  ·have:=ih e;omega
end
theorem Vh{a b:Int}(h:a=b):AV.int a=AV.int b:=by rw[h]
structure Rul where
 name:ByteArray
 kind:Int
 size:Int
 little:Bool
 bytes:List UInt8
 names:List ByteArray
 tags:List Int
 kids:List Int
abbrev Des:=List Rul
def Xz(r:Rul):List RV:=[.str r.name,.int r.kind,.int r.size,.bool r.little,Ya r.bytes,Vw r.names,Xe r.tags,Xe r.kids]
def Wa(d:Des):RV:=.seq 8 (d.map Xz)
def X1(d:Des):RV:=.agg [Wa d]
namespace Rul
def total(r:Rul):Nat:=r.name.size+r.bytes.length+(r.names.length+(r.names.map ByteArray.size).sum)+r.tags.length+r.kids.length
structure Ok (r:Rul):Prop where
 kind:I64 r.kind
 size:I64 r.size
 tags:∀z∈r.tags,I64 z
 kids:∀z∈r.kids,I64 z
 lens:r.name.size≤maxLen∧r.bytes.length≤maxLen∧r.names.length≤maxLen∧(∀s∈r.names,s.size≤maxLen)∧r.tags.length≤maxLen∧r.kids.length≤maxLen∧True
end Rul
def Wi(d:Des):Nat:=d.length+(d.map Rul.total).sum
structure H0 (d:Des):Prop where
 rules:∀r∈d,r.Ok
 len:d.length≤maxLen
section
variable{P:Program}{C:Ctx}{env:Env}{σ:List Ob}{t:Nat}{ty:TypeId}{pos:String}{after:Array Edge}{gd:Option (Nat×Bool)}
end
abbrev InR(x lo hi:Int):Prop:=lo≤x∧x≤hi
theorem Y2(x lo hi:Int):ACv Tryz.prog 30 [.int x,.int lo,.int hi] (.bool (decide (InR x lo hi))):=by
 refine Zz Tryz.func30 rfl _ Tryz.ntmps30 (by simp) fun C hn hm=>?_
 repeat' (first
|refine Zbg Zk hn rfl ?_
|refine Zbh ?_
|refine Za 30 rfl ?_
|(refine Zbf 30 rfl ?_;first|refine Zbe (Zj hm rfl rfl ?_)|exact Zbe (Zf hm rfl rfl rfl (nbT rfl) rfl rfl))
|(refine Zh rfl rfl rfl ?_ ?_<;>intro h<;>try(exfalso;first|omega|contradiction)))
 all_goals exact Z3 (by rw[Bool.eq_iff_iff];simp only[decide_eq_true_eq,Bool.not_eq_true',decide_eq_false_iff_not,Bool.false_eq_true,true_iff,false_iff,Bool.and_eq_true,Bool.or_eq_true,Bool.not_eq_eq_eq_not,Bool.not_true,Bool.not_false,reduceCtorEq,eq_self,iff_true,iff_false,ne_eq];simp only[InR]at *;omega)
theorem Xn(x lo hi:Int):ACv Tryz.prog 45 [.int x,.int lo,.int hi] (.bool (decide (InR x lo hi))):=by
 refine Zz Tryz.func45 rfl _ Tryz.ntmps45 (by simp) fun C hn hm=>?_
 repeat' (first
|refine Zbg Zk hn rfl ?_
|refine Zbh ?_
|refine Za 30 rfl ?_
|(refine Zbf 30 rfl ?_;first|refine Zbe (Zj hm rfl rfl ?_)|exact Zbe (Zf hm rfl rfl rfl (nbT rfl) rfl rfl))
|(refine Zh rfl rfl rfl ?_ ?_<;>intro h<;>try(exfalso;first|omega|contradiction)))
 all_goals exact Z3 (by rw[Bool.eq_iff_iff];simp only[decide_eq_true_eq,Bool.not_eq_true',decide_eq_false_iff_not,Bool.false_eq_true,true_iff,false_iff,Bool.and_eq_true,Bool.or_eq_true,Bool.not_eq_eq_eq_not,Bool.not_true,Bool.not_false,reduceCtorEq,eq_self,iff_true,iff_false,ne_eq];simp only[InR]at *;omega)
abbrev Idx(p:Prg)(i:Int):Prop:=0≤i∧i<p.code.length
theorem Wo(p:Prg)(i:Int):ACv Tryz.prog 74 [Tm p,.int i] (.bool (decide (Idx p i))):=by
 have hl:(p.code.map Ul).length=p.code.length:=lmT ..
 refine Zz Tryz.func74 rfl _ Tryz.ntmps74 (by simp) fun C hn hm=>?_
 repeat' (first
|refine Zbg Zk hn rfl ?_
|refine Zbh ?_
|refine Za 30 rfl ?_
|(refine Zbf 30 rfl ?_;first|refine Zbe (Zj hm rfl rfl ?_)|exact Zbe (Zf hm rfl rfl rfl (nbT rfl) rfl rfl))
|refine Zs rfl (tl hn rfl) ?_
|(refine Zh rfl rfl rfl ?_ ?_<;>intro h<;>try(exfalso;first|omega|contradiction|(simp only[lmT]at h;omega))))
 all_goals exact Z3 (by rw[Bool.eq_iff_iff];simp only[decide_eq_true_eq,Bool.not_eq_true',decide_eq_false_iff_not,Bool.false_eq_true,true_iff,false_iff,Bool.and_eq_true,Bool.or_eq_true,Bool.not_eq_eq_eq_not,Bool.not_true,Bool.not_false,reduceCtorEq,eq_self,iff_true,iff_false,ne_eq];simp only[Idx]at *;omega)
abbrev Goes(op:Int):Prop:=op≠8∧op≠10∧op≠12∧op≠17
theorem Ol(op:Int):ACv Tryz.prog 107 [.int op] (.bool (decide (Goes op))):=by
 refine Zz Tryz.func107 rfl _ Tryz.ntmps107 (by simp) fun C hn hm=>?_
 repeat' (first
|refine Zbg Zk hn rfl ?_
|refine Zbh ?_
|refine Za 30 rfl ?_
|(refine Zbf 30 rfl ?_;first|refine Zbe (Zj hm rfl rfl ?_)|exact Zbe (Zf hm rfl rfl rfl (nbT rfl) rfl rfl))
|(refine Zy rfl rfl rfl ?_ ?_<;>intro h<;>try(exfalso;first|omega|contradiction)))
 all_goals exact Z3 (by rw[Bool.eq_iff_iff];simp only[decide_eq_true_eq,Bool.not_eq_true',decide_eq_false_iff_not,Bool.false_eq_true,true_iff,false_iff,Bool.and_eq_true,Bool.or_eq_true,Bool.not_eq_eq_eq_not,Bool.not_true,Bool.not_false,reduceCtorEq,eq_self,iff_true,iff_false,ne_eq];simp only[Goes]at *;omega)
def Tv(x:Ins):Prop:=(x.op=1→InR x.a 1 4∧InR x.b 0 1)∧(x.op=2∨x.op=16→InR x.a 0 255)∧(x.op=3∨x.op=5→InR x.a 0 400)∧(x.op=11→0≤x.a)∧(x.op=12→InR x.a 1 8)∧InR x.op 1 17
instance (x:Ins):Decidable (Tv x):=by unfold Tv;infer_instance
def SafeX(n i:Int)(x:Ins):Prop:=Tv x∧(x.op=7∨x.op=8∨x.op=9∨x.op=13→0≤x.a∧x.a<n)∧(x.op=11→0≤x.b∧x.b<n)∧(Goes x.op→i+1<n)
instance (n i:Int) (x:Ins):Decidable (SafeX n i x):=by unfold SafeX;infer_instance
def Bg(p:Prg)(i:Int):Prop:=match p.code[i.toNat]? with
 |some x=>0≤i∧SafeX p.code.length i x
 |none=>False
instance (p:Prg) (i:Int):Decidable (Bg p i):=by unfold Bg;split<;>infer_instance
theorem U8{p:Prg}{i:Int}{x:Ins}(h:p.code[i.toNat]?=some x):Bg p i↔0≤i∧SafeX p.code.length i x:=by unfold Bg;rw[h]
theorem safeI_out{p:Prg}{i:Int}(h:¬Idx p i):Bg p i↔False:=by
 unfold Bg
 split
 ·rename_i x hx
  have:=(Za5.1 hx).1
  unfold Idx at h
  exact⟨fun h'=>h (by omega),False.elim⟩
 ·exact Iff.rfl
noncomputable instance (s:ByteArray) (l:List ByteArray):Decidable (s∈l):=Classical.propDecidable _
theorem str_lt{s:ByteArray}{i:Nat}{c:UInt8}(h:s[i]?=some c):i<s.size:=by
 by_cases hi:i<s.size
 ·exact hi
 ·rw[getElem?_neg s i hi]at h;cases h
section
variable{P:Program}{C:Ctx}{env:Env}{σ:List Ob}{t:Nat}{ty:TypeId}{pos:String}{after:Array Edge}{gd:Option (Nat×Bool)}
theorem Lg{xt yt:TypeId}{x y:Operand}{s:ByteArray}(hx:ev env x = .str s)(hy:ev env y = .str s):Pur P C ⟨some t,.binOp .eql xt x y yt,ty,pos,after,gd⟩ env σ (.bool true):=by
 have h:=P0 (P:=P) (C:=C) (σ:=σ) (t:=t) (ty:=ty) (pos:=pos) (after:=after) (gd:=gd) (xt:=xt) (yt:=yt) hx hy
 have e:(s.toList == s.toList)=true:=by simp
 rwa [e]at h
theorem Lh{xt yt:TypeId}{x y:Operand}{s u:ByteArray}(hx:ev env x = .str s)(hy:ev env y = .str u)(hn:¬s=u):Pur P C ⟨some t,.binOp .eql xt x y yt,ty,pos,after,gd⟩ env σ (.bool false):=by
 have h:=P0 (P:=P) (C:=C) (σ:=σ) (t:=t) (ty:=ty) (pos:=pos) (after:=after) (gd:=gd) (xt:=xt) (yt:=yt) hx hy
 have e:(s.toList == u.toList)=false:=by
  rw[Bool.eq_false_iff]
  simpa [ByteArray.toList_eq,←ByteArray.ext_iff] using hn
 rwa [e]at h
end
def R5(c:UInt8)(i:Nat):Prop:=(97≤c.toNat∧c.toNat≤122)∨(48≤c.toNat∧c.toNat≤57∧i≠0)
def R6(s:ByteArray):Prop:=1≤s.size∧s.size≤12∧∀(i:Nat) c,s[i]?=some c→R5 c i
noncomputable instance (s:ByteArray):Decidable (R6 s):=Classical.propDecidable _
theorem Ey(s:ByteArray)(hs:s.size≤maxLen):ACv Tryz.prog 117 [.str s] (.bool (decide (R6 s))):=by
 unfold maxLen at hs
 refine Zz Tryz.func117 rfl _ Tryz.ntmps117 (by simp) fun C hn hm=>?_
 repeat' (first
|refine Zbg Zk hn rfl ?_
|refine Zbh ?_
|refine Za 30 rfl ?_
|(refine Zbf 30 rfl ?_;first|refine Zg rfl ?_|refine Zm rfl ?_|(refine Zd rfl ?_ ?_;·first|omega|rfl|assumption)|(refine Ze rfl ?_ ?_;·first|omega|rfl|assumption)|refine Z1 rfl (fun h=>?_) (fun h=>?_)|refine Zbe (Zj hm rfl rfl ?_)|exact Zbe (Zf hm rfl rfl rfl (nbT rfl) rfl rfl))
|(refine Zc hn rfl rfl rfl ?_;first
|refine⟨_,Zq rfl rfl (by omega),?_⟩
   )
|((first|refine Zh rfl rfl rfl ?_ ?_|refine Zy rfl rfl rfl ?_ ?_)<;>intro h<;>try(exfalso;first|omega|contradiction)))
 refine Yh 30 rfl (fun j=>[(0,.str s),(3,.int (j:Int))]) (fun _=>[]) (fun j=>∀(i:Nat) c,i<j→s[i]?=some c→R5 c i) s.size 0 (Nat.zero_le _) (fun i c h=>absurd h (by omega)) ⟨rfl,rfl,trivial⟩ rfl fun j hj hQ next=>?_
 by_cases hlt:j<s.size
 ·obtain⟨x,hx⟩:∃x,s[(j:Int).toNat]?=some x:=⟨_,getElem?_pos s j hlt⟩
  have hx':s[j]?=some x:=hx
  repeat' (first
|refine Zbg Zk hn rfl ?_
|refine Zbh ?_
|refine Za 30 rfl ?_
|(refine Zc hn rfl rfl rfl ?_;first
|refine⟨_,pu_indexS rfl rfl (by omega) (by assumption),?_⟩)
|(refine Zbf 30 rfl ?_;first|refine Zg rfl ?_|refine Zm rfl ?_|(refine Zd rfl ?_ ?_;·first|omega|rfl|assumption)|(refine Ze rfl ?_ ?_;·first|omega|rfl|assumption)|refine Z1 rfl (fun h=>?_) (fun h=>?_)|refine Zbe (Zj hm rfl rfl ?_)|exact Zbe (Zf hm rfl rfl rfl (nbT rfl) rfl rfl))
|(refine Zc hn rfl rfl rfl ?_;first
|refine⟨_,Zq rfl rfl (by omega),?_⟩
    )
|((first|refine Zh rfl rfl rfl ?_ ?_|refine Zy rfl rfl rfl ?_ ?_)<;>intro h<;>try(exfalso;first|omega|contradiction)))
  all_goals first
   |exact Z3 (decide_eq_false fun hN=>by have:=hN.2.2 j x hx';unfold R5 at this;omega).symm
   |(refine next _ _ ⟨rfl,rfl,trivial⟩ hlt (fun i c hi hc=>?_) rfl
     by_cases e:i=j
     ·subst e;rw[hx']at hc;injection hc with hc;subst hc;unfold R5;omega
     ·exact hQ i c (by omega) hc)
 ·repeat' (first
|refine Zbg Zk hn rfl ?_
|refine Zbh ?_
|refine Za 30 rfl ?_
|(refine Zc hn rfl rfl rfl ?_;first
|refine⟨_,Zi (Xn _ _ _) rfl,?_⟩)
|(refine Zbf 30 rfl ?_;first|refine Zg rfl ?_|refine Zm rfl ?_|(refine Zd rfl ?_ ?_;·first|omega|rfl|assumption)|(refine Ze rfl ?_ ?_;·first|omega|rfl|assumption)|refine Z1 rfl (fun h=>?_) (fun h=>?_)|refine Zbe (Zj hm rfl rfl ?_)|exact Zbe (Zf hm rfl rfl rfl (nbT rfl) rfl rfl))
|(refine Zc hn rfl rfl rfl ?_;first
|refine⟨_,Zq rfl rfl (by omega),?_⟩
   )
|((first|refine Zh rfl rfl rfl ?_ ?_|refine Zy rfl rfl rfl ?_ ?_)<;>intro h<;>try(exfalso;first|omega|contradiction)))
  exact Z3 (decide_eq_decide.2 ⟨fun h=>⟨by omega,by omega,fun i c hc=>hQ i c (by have:=str_lt hc;omega) hc⟩,fun h=>⟨by have:=h.1;omega,by have:=h.2.1;omega⟩⟩)
theorem Nr(l:List ByteArray)(s:ByteArray)(hl:l.length≤maxLen):ACv Tryz.prog 124 [Vw l,.str s] (.bool (decide (s∈l))):=by
 unfold maxLen at hl
 refine Zz Tryz.func124 rfl _ Tryz.ntmps124 (by simp) fun C hn hm=>?_
 repeat' (first
|refine Zbg Zk hn rfl ?_
|refine Zbh ?_
|refine Za 30 rfl ?_
|(refine Zbf 30 rfl ?_;first|refine Zg rfl ?_|refine Zm rfl ?_|(refine Zd rfl ?_ ?_;·first|omega|rfl|assumption|(simp only[lmT];omega))|(refine Ze rfl ?_ ?_;·first|omega|rfl|assumption|(simp only[lmT];omega))|refine Zbe (Zj hm rfl rfl ?_)|exact Zbe (Zf hm rfl rfl rfl (nbT rfl) rfl rfl))
|(refine Zc hn rfl rfl rfl ?_;first
|refine⟨_,Zq rfl rfl (by omega),?_⟩
|refine⟨_,Zb rfl rfl (by omega) (by assumption),?_⟩
   ))
 refine Yh 30 rfl (fun j=>[(0,.ro (Vw l)),(1,.str s),(5,.int (j:Int))]) (fun _=>[]) (fun j=>s∉l.take j) l.length 0 (Nat.zero_le _) (by simp) ⟨rfl,rfl,rfl,trivial⟩ rfl fun j hj hQ next=>?_
 by_cases hlt:j<l.length
 ·obtain⟨x,hx⟩:∃x,l[(j:Int).toNat]?=some x:=⟨_,Za6 hlt⟩
  have hx':l[j]?=some x:=hx
  by_cases hxs:x=s
  ·subst hxs
   repeat' (first
|(refine Zc hn rfl rfl rfl ?_;first
|refine⟨_,Lg rfl rfl,?_⟩)
|refine Zbg Zk hn rfl ?_
|refine Zbh ?_
|refine Za 30 rfl ?_
|(refine Zbf 30 rfl ?_;first|refine Zg rfl ?_|refine Zm rfl ?_|(refine Zd rfl ?_ ?_;·first|omega|rfl|assumption|(simp only[lmT];omega))|(refine Ze rfl ?_ ?_;·first|omega|rfl|assumption|(simp only[lmT];omega))|refine Zbe (Zj hm rfl rfl ?_)|exact Zbe (Zf hm rfl rfl rfl (nbT rfl) rfl rfl))
|(refine Zc hn rfl rfl rfl ?_;first
|refine⟨_,Zq rfl rfl (by omega),?_⟩
|refine⟨_,Zb rfl rfl (by omega) (by assumption),?_⟩
     ))
   exact Z3 (decide_eq_true (Zba hx')).symm
  ·repeat' (first
|(refine Zc hn rfl rfl rfl ?_;first
|refine⟨_,Lh rfl rfl (by assumption),?_⟩)
|refine Zbg Zk hn rfl ?_
|refine Zbh ?_
|refine Za 30 rfl ?_
|(refine Zbf 30 rfl ?_;first|refine Zg rfl ?_|refine Zm rfl ?_|(refine Zd rfl ?_ ?_;·first|omega|rfl|assumption|(simp only[lmT];omega))|(refine Ze rfl ?_ ?_;·first|omega|rfl|assumption|(simp only[lmT];omega))|refine Zbe (Zj hm rfl rfl ?_)|exact Zbe (Zf hm rfl rfl rfl (nbT rfl) rfl rfl))
|(refine Zc hn rfl rfl rfl ?_;first
|refine⟨_,Zq rfl rfl (by omega),?_⟩
|refine⟨_,Zb rfl rfl (by omega) (by assumption),?_⟩
    ))
   refine next _ _ ⟨rfl,rfl,rfl,trivial⟩ hlt ?_ rfl
   rw[List.take_succ_eq_append_getElem hlt,List.mem_append]
   rintro(hm'|hm')
   ·exact hQ hm'
   ·rw[Za6 hlt]at hx';injection hx' with hx'
    simp only[List.mem_singleton]at hm'
    exact hxs (by rw[hm',hx'])
 ·repeat' (first
|refine Zbg Zk hn rfl ?_
|refine Zbh ?_
|refine Za 30 rfl ?_
|(refine Zbf 30 rfl ?_;first|refine Zg rfl ?_|refine Zm rfl ?_|(refine Zd rfl ?_ ?_;·first|omega|rfl|assumption|(simp only[lmT];omega))|(refine Ze rfl ?_ ?_;·first|omega|rfl|assumption|(simp only[lmT];omega))|refine Zbe (Zj hm rfl rfl ?_)|exact Zbe (Zf hm rfl rfl rfl (nbT rfl) rfl rfl))
|(refine Zc hn rfl rfl rfl ?_;first
|refine⟨_,Zq rfl rfl (by omega),?_⟩
|refine⟨_,Zb rfl rfl (by omega) (by assumption),?_⟩
   ))
  rw[show j=l.length by omega,List.take_length]at hQ
  exact Z3 (decide_eq_false hQ).symm
theorem Tc(l:List ByteArray)(s:ByteArray)(hl:l.length≤maxLen):ACv Tryz.prog 116 [Vw l,.str s] (.bool (decide (s∈l))):=by
 have hlm:(l.map fun z=>[RV.str z]).length=l.length:=lmT ..
 unfold maxLen at hl
 refine Zz Tryz.func116 rfl _ Tryz.ntmps116 (by simp) fun C hn hm=>?_
 repeat' (first
|refine Zbg Zk hn rfl ?_
|refine Zbh ?_
|refine Za 30 rfl ?_
|(refine Zbf 30 rfl ?_;first|refine Zg rfl ?_|refine Zm rfl ?_|(refine Zd rfl ?_ ?_;·first|omega|rfl|assumption|(simp only[lmT];omega))|(refine Ze rfl ?_ ?_;·first|omega|rfl|assumption|(simp only[lmT];omega))|refine Zbe (Zj hm rfl rfl ?_)|exact Zbe (Zf hm rfl rfl rfl (nbT rfl) rfl rfl))
|(refine Zc hn rfl rfl rfl ?_;first
|refine⟨_,Zq rfl rfl (by omega),?_⟩
|refine⟨_,Zb rfl rfl (by omega) (by assumption),?_⟩
   ))
 refine Yh 30 rfl (fun j=>[(7,.ro (Vw l)),(8,.int (l.length:Int)),(1,.str s),(9,.int (j:Int))]) (fun _=>[]) (fun j=>s∉l.take j) l.length 0 (Nat.zero_le _) (by simp) ⟨rfl,by simp[look],rfl,rfl,trivial⟩ rfl fun j hj hQ next=>?_
 by_cases hlt:j<l.length
 ·obtain⟨x,hx⟩:∃x,l[(j:Int).toNat]?=some x:=⟨_,Za6 hlt⟩
  have hx':l[j]?=some x:=hx
  by_cases hxs:x=s
  ·subst hxs
   repeat' (first
|(refine Zc hn rfl rfl rfl ?_;first
|refine⟨_,Lg rfl rfl,?_⟩)
|refine Zbg Zk hn rfl ?_
|refine Zbh ?_
|refine Za 30 rfl ?_
|(refine Zbf 30 rfl ?_;first|refine Zg rfl ?_|refine Zm rfl ?_|(refine Zd rfl ?_ ?_;·first|omega|rfl|assumption|(simp only[lmT];omega))|(refine Ze rfl ?_ ?_;·first|omega|rfl|assumption|(simp only[lmT];omega))|refine Zbe (Zj hm rfl rfl ?_)|exact Zbe (Zf hm rfl rfl rfl (nbT rfl) rfl rfl))
|(refine Zc hn rfl rfl rfl ?_;first
|refine⟨_,Zq rfl rfl (by omega),?_⟩
|refine⟨_,Zb rfl rfl (by omega) (by assumption),?_⟩
     ))
   exact Z3 (decide_eq_true (Zba hx')).symm
  ·repeat' (first
|(refine Zc hn rfl rfl rfl ?_;first
|refine⟨_,Lh rfl rfl (by assumption),?_⟩)
|refine Zbg Zk hn rfl ?_
|refine Zbh ?_
|refine Za 30 rfl ?_
|(refine Zbf 30 rfl ?_;first|refine Zg rfl ?_|refine Zm rfl ?_|(refine Zd rfl ?_ ?_;·first|omega|rfl|assumption|(simp only[lmT];omega))|(refine Ze rfl ?_ ?_;·first|omega|rfl|assumption|(simp only[lmT];omega))|refine Zbe (Zj hm rfl rfl ?_)|exact Zbe (Zf hm rfl rfl rfl (nbT rfl) rfl rfl))
|(refine Zc hn rfl rfl rfl ?_;first
|refine⟨_,Zq rfl rfl (by omega),?_⟩
|refine⟨_,Zb rfl rfl (by omega) (by assumption),?_⟩
    ))
   refine next _ _ ⟨rfl,rfl,rfl,rfl,trivial⟩ hlt ?_ rfl
   rw[List.take_succ_eq_append_getElem hlt,List.mem_append]
   rintro(hm'|hm')
   ·exact hQ hm'
   ·rw[Za6 hlt]at hx';injection hx' with hx'
    simp only[List.mem_singleton]at hm'
    exact hxs (by rw[hm',hx'])
 ·repeat' (first
|refine Zbg Zk hn rfl ?_
|refine Zbh ?_
|refine Za 30 rfl ?_
|(refine Zbf 30 rfl ?_;first|refine Zg rfl ?_|refine Zm rfl ?_|(refine Zd rfl ?_ ?_;·first|omega|rfl|assumption|(simp only[lmT];omega))|(refine Ze rfl ?_ ?_;·first|omega|rfl|assumption|(simp only[lmT];omega))|refine Zbe (Zj hm rfl rfl ?_)|exact Zbe (Zf hm rfl rfl rfl (nbT rfl) rfl rfl))
|(refine Zc hn rfl rfl rfl ?_;first
|refine⟨_,Zq rfl rfl (by omega),?_⟩
|refine⟨_,Zb rfl rfl (by omega) (by assumption),?_⟩
   ))
  rw[show j=l.length by omega,List.take_length]at hQ
  exact Z3 (decide_eq_false hQ).symm
def Bs(s:Int):Int:=if s=1 then 256 else if s=2 then 65536 else if s=3 then 16777216 else 4294967296
theorem N7{s:Int}:256≤Bs s∧Bs s≤4294967296:=by unfold Bs;split;omega;split;omega;split<;>omega
section
variable{P:Program}{C:Ctx}{env:Env}{σ:List Ob}{t:Nat}{ty:TypeId}{pos:String}{after:Array Edge}{gd:Option (Nat×Bool)}
theorem pu_pow{xt yt:TypeId}{x y:Operand}{s:Int}(hx:ev env x = .ro (.c (.int .i64 1)))(hy:ev env y = .ro (.c (.int .i64 (8*s))))(h:1≤s∧s≤4):Pur P C ⟨some t,.binOp .shl xt x y yt,ty,pos,after,gd⟩ env σ (.int (Bs s)):=by
 have hs:s=1∨s=2∨s=3∨s=4:=by omega
 rcases hs with rfl|rfl|rfl|rfl
 ·exact X5 hx hy (fun w=>by simp[go_sem,Bs];rfl)
 ·exact X5 hx hy (fun w=>by simp[go_sem,Bs];rfl)
 ·exact X5 hx hy (fun w=>by simp[go_sem,Bs];rfl)
 ·exact X5 hx hy (fun w=>by simp[go_sem,Bs];rfl)
end
theorem Lm(s:Int)(h:1≤s∧s≤4):ACv Tryz.prog 57 [.int s] (.int (Bs s)):=by
 refine Zz Tryz.func57 rfl _ Tryz.ntmps57 (by simp) fun C hn hm=>?_
 repeat' (first
|refine Zbg Zk hn rfl ?_
|refine Zbh ?_
|refine Za 30 rfl ?_
|(refine Zc hn rfl rfl rfl ?_;first
|refine⟨_,pu_pow rfl rfl h,?_⟩)
|(refine Zbf 30 rfl ?_;first|refine Zbe (Zj hm rfl rfl ?_)|exact Zbe (Zf hm rfl rfl rfl (nbT rfl) rfl rfl))
|(refine Zc hn rfl rfl rfl ?_;first
|refine⟨_,Xj rfl rfl (by omega),?_⟩
   ))
 exact Xu rfl
def lim(d:Des)(i:Int):Int:=match d[i.toNat]? with
 |some r=>if 0≤i∧r.kind=1∧1≤r.size∧r.size≤4 then Bs r.size-1 else -1
 |none => -1
theorem G4{d:Des}{i:Int}{r:Rul}(h:d[i.toNat]?=some r)(h0:0≤i∧r.kind=1∧1≤r.size∧r.size≤4):lim d i=Bs r.size-1:=by unfold lim;rw[h];exact if_pos h0
theorem lim_no{d:Des}{i:Int}{r:Rul}(h:d[i.toNat]?=some r)(h0:¬(0≤i∧r.kind=1∧1≤r.size∧r.size≤4)):lim d i = -1:=by unfold lim;rw[h];exact if_neg h0
theorem lim_out{d:Des}{i:Int}(h:¬(0≤i∧i<d.length)):lim d i = -1:=by
 unfold lim
 split
 ·rename_i r hr
  have:=(Za5.1 hr).1
  exact if_neg (by omega)
 ·rfl
abbrev HasR(d:Des)(i:Int):Prop:=0≤i∧i<d.length
theorem Qa(d:Des)(i:Int):ACv Tryz.prog 60 [X1 d,.int i] (.bool (decide (HasR d i))):=by
 have hl:(d.map Xz).length=d.length:=lmT ..
 refine Zz Tryz.func60 rfl _ Tryz.ntmps60 (by simp) fun C hn hm=>?_
 repeat' (first
|refine Zbg Zk hn rfl ?_
|refine Zbh ?_
|refine Za 30 rfl ?_
|(refine Zbf 30 rfl ?_;first|refine Zbe (Zj hm rfl rfl ?_)|exact Zbe (Zf hm rfl rfl rfl (nbT rfl) rfl rfl))
|refine Zs rfl (tl hn rfl) ?_
|(refine Zh rfl rfl rfl ?_ ?_<;>intro h<;>try(exfalso;first|omega|contradiction|(simp only[lmT]at h;omega))))
 all_goals exact Z3 (by rw[Bool.eq_iff_iff];simp only[decide_eq_true_eq,Bool.not_eq_true',decide_eq_false_iff_not,Bool.false_eq_true,true_iff,false_iff,Bool.and_eq_true,Bool.or_eq_true,Bool.not_eq_eq_eq_not,Bool.not_true,Bool.not_false,reduceCtorEq,eq_self,iff_true,iff_false,ne_eq];simp only[HasR]at *;omega)
theorem Kq(d:Des)(i:Int)(hl:d.length≤maxLen):ACv Tryz.prog 98 [X1 d,.int i] (.int (lim d i)):=by
 unfold maxLen at hl
 refine Zz Tryz.func98 rfl _ Tryz.ntmps98 (by simp) fun C hn hm=>?_
 by_cases hx:HasR d i
 ·obtain⟨r,hr⟩:∃r,d[i.toNat]?=some r:=⟨_,Za6 (by omega)⟩
  have hb:=N7 (s:=r.size)
  by_cases hk:0≤i∧r.kind=1∧1≤r.size∧r.size≤4
  ·rw[G4 hr hk]
   repeat' (first
|refine Zbg Zk hn rfl ?_
|refine Zbh ?_
|refine Za 30 rfl ?_
|(refine Zc hn rfl rfl rfl ?_;first
|refine⟨_,Zi (Qa _ _) rfl,?_⟩
|refine⟨_,Zi (Y2 _ _ _) rfl,?_⟩
|refine⟨_,pu_pow rfl rfl (by omega),?_⟩)
|(refine Zbf 30 rfl ?_;first|refine Zg rfl ?_|(refine Zp rfl ?_ ?_;·first|omega|rfl|assumption)|(refine Zn rfl ?_ ?_;·first|omega|rfl|assumption)|refine Zbe (Zj hm rfl rfl ?_)|exact Zbe (Zf hm rfl rfl rfl (nbT rfl) rfl rfl))
|refine Zs rfl (tl hn rfl) ?_
|(refine Zc hn rfl rfl rfl ?_;first
|refine⟨_,Zb rfl rfl (by omega) (by assumption),?_⟩
|refine⟨_,Z7 rfl rfl (by omega),?_⟩
|refine⟨_,Xj rfl rfl (by omega),?_⟩
     )
|(refine Zy rfl rfl rfl ?_ ?_<;>intro h<;>try(exfalso;first|omega|contradiction)))
   exact Xu rfl
  ·rw[lim_no hr hk]
   repeat' (first
|refine Zbg Zk hn rfl ?_
|refine Zbh ?_
|refine Za 30 rfl ?_
|(refine Zc hn rfl rfl rfl ?_;first
|refine⟨_,Zi (Qa _ _) rfl,?_⟩
|refine⟨_,Zi (Y2 _ _ _) rfl,?_⟩
|refine⟨_,pu_pow rfl rfl (by omega),?_⟩)
|(refine Zbf 30 rfl ?_;first|refine Zg rfl ?_|(refine Zp rfl ?_ ?_;·first|omega|rfl|assumption)|(refine Zn rfl ?_ ?_;·first|omega|rfl|assumption)|refine Zbe (Zj hm rfl rfl ?_)|exact Zbe (Zf hm rfl rfl rfl (nbT rfl) rfl rfl))
|refine Zs rfl (tl hn rfl) ?_
|(refine Zc hn rfl rfl rfl ?_;first
|refine⟨_,Zb rfl rfl (by omega) (by assumption),?_⟩
|refine⟨_,Z7 rfl rfl (by omega),?_⟩
|refine⟨_,Xj rfl rfl (by omega),?_⟩
     )
|(refine Zy rfl rfl rfl ?_ ?_<;>intro h<;>try(exfalso;first|omega|contradiction)))
   all_goals exact Xu rfl
 ·rw[lim_out hx]
  repeat' (first
|refine Zbg Zk hn rfl ?_
|refine Zbh ?_
|refine Za 30 rfl ?_
|(refine Zc hn rfl rfl rfl ?_;first
|refine⟨_,Zi (Qa _ _) rfl,?_⟩)
|(refine Zbf 30 rfl ?_;first|refine Zg rfl ?_|(refine Zp rfl ?_ ?_;·first|omega|rfl|assumption)|(refine Zn rfl ?_ ?_;·first|omega|rfl|assumption)|refine Zbe (Zj hm rfl rfl ?_)|exact Zbe (Zf hm rfl rfl rfl (nbT rfl) rfl rfl))
|refine Zs rfl (tl hn rfl) ?_
|(refine Zc hn rfl rfl rfl ?_;first
|refine⟨_,Zb rfl rfl (by omega) (by assumption),?_⟩
|refine⟨_,Z7 rfl rfl (by omega),?_⟩
|refine⟨_,Xj rfl rfl (by omega),?_⟩
    )
|(refine Zy rfl rfl rfl ?_ ?_<;>intro h<;>try(exfalso;first|omega|contradiction)))
  all_goals exact Xu rfl
theorem Kd(d:Des)(i:Int)(hl:d.length≤maxLen):ACv Tryz.prog 121 [X1 d,.int i] (.int (lim d i)):=by
 have hlm:(d.map Xz).length=d.length:=lmT ..
 unfold maxLen at hl
 refine Zz Tryz.func121 rfl _ Tryz.ntmps121 (by simp) fun C hn hm=>?_
 by_cases hx:HasR d i
 ·obtain⟨r,hr⟩:∃r,d[i.toNat]?=some r:=⟨_,Za6 (by omega)⟩
  have hb:=N7 (s:=r.size)
  by_cases hk:0≤i∧r.kind=1∧1≤r.size∧r.size≤4
  ·rw[G4 hr hk]
   repeat' (first
|refine Zbg Zk hn rfl ?_
|refine Zbh ?_
|refine Za 30 rfl ?_
|(refine Zc hn rfl rfl rfl ?_;first
|refine⟨_,Zi (Xn _ _ _) rfl,?_⟩
|refine⟨_,Zi (Lm r.size (by omega)) rfl,?_⟩)
|(refine Zbf 30 rfl ?_;first|refine Zg rfl ?_|(refine Zp rfl ?_ ?_;·first|omega|rfl|assumption|(simp only[lmT];omega))|(refine Zn rfl ?_ ?_;·first|omega|rfl|assumption|(simp only[lmT];omega))|refine Zbe (Zj hm rfl rfl ?_)|exact Zbe (Zf hm rfl rfl rfl (nbT rfl) rfl rfl))
|refine Zs rfl (tl hn rfl) ?_
|(refine Zc hn rfl rfl rfl ?_;first
|refine⟨_,Zb rfl rfl (by omega) (by assumption),?_⟩
|refine⟨_,Z7 rfl rfl (by omega),?_⟩
     )
|(refine Zy rfl rfl rfl ?_ ?_<;>intro h<;>try(exfalso;first|omega|contradiction|(simp only[lmT]at h;omega))))
   exact Xu rfl
  ·rw[lim_no hr hk]
   repeat' (first
|refine Zbg Zk hn rfl ?_
|refine Zbh ?_
|refine Za 30 rfl ?_
|(refine Zc hn rfl rfl rfl ?_;first
|refine⟨_,Zi (Xn _ _ _) rfl,?_⟩)
|(refine Zbf 30 rfl ?_;first|refine Zg rfl ?_|(refine Zp rfl ?_ ?_;·first|omega|rfl|assumption|(simp only[lmT];omega))|(refine Zn rfl ?_ ?_;·first|omega|rfl|assumption|(simp only[lmT];omega))|refine Zbe (Zj hm rfl rfl ?_)|exact Zbe (Zf hm rfl rfl rfl (nbT rfl) rfl rfl))
|refine Zs rfl (tl hn rfl) ?_
|(refine Zc hn rfl rfl rfl ?_;first
|refine⟨_,Zb rfl rfl (by omega) (by assumption),?_⟩
|refine⟨_,Z7 rfl rfl (by omega),?_⟩
     )
|(refine Zy rfl rfl rfl ?_ ?_<;>intro h<;>try(exfalso;first|omega|contradiction|(simp only[lmT]at h;omega))))
   all_goals exact Xu rfl
 ·rw[lim_out hx]
  repeat' (first
|refine Zbg Zk hn rfl ?_
|refine Zbh ?_
|refine Za 30 rfl ?_
|(refine Zc hn rfl rfl rfl ?_;first
|refine⟨_,Zi (Xn _ _ _) rfl,?_⟩)
|(refine Zbf 30 rfl ?_;first|refine Zg rfl ?_|(refine Zp rfl ?_ ?_;·first|omega|rfl|assumption|(simp only[lmT];omega))|(refine Zn rfl ?_ ?_;·first|omega|rfl|assumption|(simp only[lmT];omega))|refine Zbe (Zj hm rfl rfl ?_)|exact Zbe (Zf hm rfl rfl rfl (nbT rfl) rfl rfl))
|refine Zs rfl (tl hn rfl) ?_
|(refine Zc hn rfl rfl rfl ?_;first
|refine⟨_,Zb rfl rfl (by omega) (by assumption),?_⟩
|refine⟨_,Z7 rfl rfl (by omega),?_⟩
    )
|(refine Zy rfl rfl rfl ?_ ?_<;>intro h<;>try(exfalso;first|omega|contradiction|(simp only[lmT]at h;omega))))
  all_goals exact Xu rfl
def Plain(r:Rul)(a b c d:Bool)(k:Int):Prop:=(a=true∨r.size=0)∧(b=true∨r.bytes.length=0)∧(c=true∨r.names.length=0)∧(d=true∨r.tags.length=0)∧(k<0∨(r.kids.length:Int)=k)
def Shape(r:Rul)(a b c d:Bool)(k:Int):Prop:=Plain r a b c d k∧(r.little=false∨r.kind=1)
noncomputable instance (r:Rul) (a b c d:Bool) (k:Int):Decidable (Plain r a b c d k):=Classical.propDecidable _
noncomputable instance (r:Rul) (a b c d:Bool) (k:Int):Decidable (Shape r a b c d k):=Classical.propDecidable _
set_option maxHeartbeats 4000000 in
theorem M1(r:Rul)(k:Int):ACv Tryz.prog 97 [.agg (Xz r),.bool true,.bool false,.bool false,.bool false,.int k] (.bool (decide (Plain r true false false false k))):=by
 refine Zz Tryz.func97 rfl _ Tryz.ntmps97 (by simp) fun C hn hm=>?_
 repeat' (first
|refine Zbg Zk hn rfl ?_
|refine Zbh ?_
|refine Za 30 rfl ?_
|(refine Zbf 30 rfl ?_;first|refine Zbe (Zj hm rfl rfl ?_)|exact Zbe (Zf hm rfl rfl rfl (nbT rfl) rfl rfl))
|refine Zs rfl (tl hn rfl) ?_
|(refine Zh rfl rfl rfl ?_ ?_<;>intro h<;>try(exfalso;first|omega|contradiction|(simp only[lmT]at h;omega))))
 all_goals exact Z3 (by rw[Bool.eq_iff_iff];simp only[decide_eq_true_eq,Bool.not_eq_true',decide_eq_false_iff_not,Bool.false_eq_true,true_iff,false_iff,Bool.and_eq_true,Bool.or_eq_true,Bool.not_eq_eq_eq_not,Bool.not_true,Bool.not_false,reduceCtorEq,eq_self,iff_true,iff_false,ne_eq];simp only[Plain,lmT,true_or,false_or,true_and,reduceCtorEq,Bool.false_eq_true,Bool.true_eq_false]at *;first|(simp[*];done)|(simp[*];omega)|omega)
set_option maxHeartbeats 4000000 in
theorem K0(r:Rul)(k:Int):ACv Tryz.prog 97 [.agg (Xz r),.bool false,.bool true,.bool false,.bool false,.int k] (.bool (decide (Plain r false true false false k))):=by
 refine Zz Tryz.func97 rfl _ Tryz.ntmps97 (by simp) fun C hn hm=>?_
 repeat' (first
|refine Zbg Zk hn rfl ?_
|refine Zbh ?_
|refine Za 30 rfl ?_
|(refine Zbf 30 rfl ?_;first|refine Zbe (Zj hm rfl rfl ?_)|exact Zbe (Zf hm rfl rfl rfl (nbT rfl) rfl rfl))
|refine Zs rfl (tl hn rfl) ?_
|(refine Zh rfl rfl rfl ?_ ?_<;>intro h<;>try(exfalso;first|omega|contradiction|(simp only[lmT]at h;omega))))
 all_goals exact Z3 (by rw[Bool.eq_iff_iff];simp only[decide_eq_true_eq,Bool.not_eq_true',decide_eq_false_iff_not,Bool.false_eq_true,true_iff,false_iff,Bool.and_eq_true,Bool.or_eq_true,Bool.not_eq_eq_eq_not,Bool.not_true,Bool.not_false,reduceCtorEq,eq_self,iff_true,iff_false,ne_eq];simp only[Plain,lmT,true_or,false_or,true_and,reduceCtorEq,Bool.false_eq_true,Bool.true_eq_false]at *;first|(simp[*];done)|(simp[*];omega)|omega)
set_option maxHeartbeats 4000000 in
theorem Gx(r:Rul)(k:Int):ACv Tryz.prog 97 [.agg (Xz r),.bool false,.bool false,.bool true,.bool false,.int k] (.bool (decide (Plain r false false true false k))):=by
 refine Zz Tryz.func97 rfl _ Tryz.ntmps97 (by simp) fun C hn hm=>?_
 repeat' (first
|refine Zbg Zk hn rfl ?_
|refine Zbh ?_
|refine Za 30 rfl ?_
|(refine Zbf 30 rfl ?_;first|refine Zbe (Zj hm rfl rfl ?_)|exact Zbe (Zf hm rfl rfl rfl (nbT rfl) rfl rfl))
|refine Zs rfl (tl hn rfl) ?_
|(refine Zh rfl rfl rfl ?_ ?_<;>intro h<;>try(exfalso;first|omega|contradiction|(simp only[lmT]at h;omega))))
 all_goals exact Z3 (by rw[Bool.eq_iff_iff];simp only[decide_eq_true_eq,Bool.not_eq_true',decide_eq_false_iff_not,Bool.false_eq_true,true_iff,false_iff,Bool.and_eq_true,Bool.or_eq_true,Bool.not_eq_eq_eq_not,Bool.not_true,Bool.not_false,reduceCtorEq,eq_self,iff_true,iff_false,ne_eq];simp only[Plain,lmT,true_or,false_or,true_and,reduceCtorEq,Bool.false_eq_true,Bool.true_eq_false]at *;first|(simp[*];done)|(simp[*];omega)|omega)
set_option maxHeartbeats 4000000 in
theorem Gw(r:Rul)(k:Int):ACv Tryz.prog 97 [.agg (Xz r),.bool false,.bool false,.bool false,.bool true,.int k] (.bool (decide (Plain r false false false true k))):=by
 refine Zz Tryz.func97 rfl _ Tryz.ntmps97 (by simp) fun C hn hm=>?_
 repeat' (first
|refine Zbg Zk hn rfl ?_
|refine Zbh ?_
|refine Za 30 rfl ?_
|(refine Zbf 30 rfl ?_;first|refine Zbe (Zj hm rfl rfl ?_)|exact Zbe (Zf hm rfl rfl rfl (nbT rfl) rfl rfl))
|refine Zs rfl (tl hn rfl) ?_
|(refine Zh rfl rfl rfl ?_ ?_<;>intro h<;>try(exfalso;first|omega|contradiction|(simp only[lmT]at h;omega))))
 all_goals exact Z3 (by rw[Bool.eq_iff_iff];simp only[decide_eq_true_eq,Bool.not_eq_true',decide_eq_false_iff_not,Bool.false_eq_true,true_iff,false_iff,Bool.and_eq_true,Bool.or_eq_true,Bool.not_eq_eq_eq_not,Bool.not_true,Bool.not_false,reduceCtorEq,eq_self,iff_true,iff_false,ne_eq];simp only[Plain,lmT,true_or,false_or,true_and,reduceCtorEq,Bool.false_eq_true,Bool.true_eq_false]at *;first|(simp[*];done)|(simp[*];omega)|omega)
set_option maxHeartbeats 4000000 in
theorem W4(r:Rul)(k:Int):ACv Tryz.prog 97 [.agg (Xz r),.bool false,.bool false,.bool false,.bool false,.int k] (.bool (decide (Plain r false false false false k))):=by
 refine Zz Tryz.func97 rfl _ Tryz.ntmps97 (by simp) fun C hn hm=>?_
 repeat' (first
|refine Zbg Zk hn rfl ?_
|refine Zbh ?_
|refine Za 30 rfl ?_
|(refine Zbf 30 rfl ?_;first|refine Zbe (Zj hm rfl rfl ?_)|exact Zbe (Zf hm rfl rfl rfl (nbT rfl) rfl rfl))
|refine Zs rfl (tl hn rfl) ?_
|(refine Zh rfl rfl rfl ?_ ?_<;>intro h<;>try(exfalso;first|omega|contradiction|(simp only[lmT]at h;omega))))
 all_goals exact Z3 (by rw[Bool.eq_iff_iff];simp only[decide_eq_true_eq,Bool.not_eq_true',decide_eq_false_iff_not,Bool.false_eq_true,true_iff,false_iff,Bool.and_eq_true,Bool.or_eq_true,Bool.not_eq_eq_eq_not,Bool.not_true,Bool.not_false,reduceCtorEq,eq_self,iff_true,iff_false,ne_eq];simp only[Plain,lmT,true_or,false_or,true_and,reduceCtorEq,Bool.false_eq_true,Bool.true_eq_false]at *;first|(simp[*];done)|(simp[*];omega)|omega)
set_option maxHeartbeats 4000000 in
theorem Dq(r:Rul)(k:Int):ACv Tryz.prog 120 [.agg (Xz r),.bool true,.bool false,.bool false,.bool false,.int k] (.bool (decide (Shape r true false false false k))):=by
 obtain⟨nm,kd,sz,li,bs,ns,tg,ki⟩:=r
 cases li
 all_goals
  refine Zz Tryz.func120 rfl _ Tryz.ntmps120 (by simp) fun C hn hm=>?_
  repeat' (first
|refine Zbg Zk hn rfl ?_
|refine Zbh ?_
|refine Za 30 rfl ?_
|(refine Zbf 30 rfl ?_;first|refine Zbe (Zj hm rfl rfl ?_)|exact Zbe (Zf hm rfl rfl rfl (nbT rfl) rfl rfl))
|refine Zs rfl (tl hn rfl) ?_
|(refine Zh rfl rfl rfl ?_ ?_<;>intro h<;>try(exfalso;first|omega|contradiction|(simp only[lmT]at h;omega))))
 all_goals exact Z3 (by rw[Bool.eq_iff_iff];simp only[decide_eq_true_eq,Bool.not_eq_true',decide_eq_false_iff_not,Bool.false_eq_true,true_iff,false_iff,Bool.and_eq_true,Bool.or_eq_true,Bool.not_eq_eq_eq_not,Bool.not_true,Bool.not_false,reduceCtorEq,eq_self,iff_true,iff_false,ne_eq];simp only[Shape,Plain,lmT,true_or,false_or,true_and,reduceCtorEq,Bool.false_eq_true,Bool.true_eq_false,true_and,and_true,or_true]at *;first|(simp[*];done)|(simp[*];omega)|omega)
set_option maxHeartbeats 4000000 in
theorem Md(r:Rul)(k:Int):ACv Tryz.prog 120 [.agg (Xz r),.bool false,.bool true,.bool false,.bool false,.int k] (.bool (decide (Shape r false true false false k))):=by
 obtain⟨nm,kd,sz,li,bs,ns,tg,ki⟩:=r
 cases li
 all_goals
  refine Zz Tryz.func120 rfl _ Tryz.ntmps120 (by simp) fun C hn hm=>?_
  repeat' (first
|refine Zbg Zk hn rfl ?_
|refine Zbh ?_
|refine Za 30 rfl ?_
|(refine Zbf 30 rfl ?_;first|refine Zbe (Zj hm rfl rfl ?_)|exact Zbe (Zf hm rfl rfl rfl (nbT rfl) rfl rfl))
|refine Zs rfl (tl hn rfl) ?_
|(refine Zh rfl rfl rfl ?_ ?_<;>intro h<;>try(exfalso;first|omega|contradiction|(simp only[lmT]at h;omega))))
 all_goals exact Z3 (by rw[Bool.eq_iff_iff];simp only[decide_eq_true_eq,Bool.not_eq_true',decide_eq_false_iff_not,Bool.false_eq_true,true_iff,false_iff,Bool.and_eq_true,Bool.or_eq_true,Bool.not_eq_eq_eq_not,Bool.not_true,Bool.not_false,reduceCtorEq,eq_self,iff_true,iff_false,ne_eq];simp only[Shape,Plain,lmT,true_or,false_or,true_and,reduceCtorEq,Bool.false_eq_true,Bool.true_eq_false,true_and,and_true,or_true]at *;first|(simp[*];done)|(simp[*];omega)|omega)
set_option maxHeartbeats 4000000 in
theorem P8(r:Rul)(k:Int):ACv Tryz.prog 120 [.agg (Xz r),.bool false,.bool false,.bool true,.bool false,.int k] (.bool (decide (Shape r false false true false k))):=by
 obtain⟨nm,kd,sz,li,bs,ns,tg,ki⟩:=r
 cases li
 all_goals
  refine Zz Tryz.func120 rfl _ Tryz.ntmps120 (by simp) fun C hn hm=>?_
  repeat' (first
|refine Zbg Zk hn rfl ?_
|refine Zbh ?_
|refine Za 30 rfl ?_
|(refine Zbf 30 rfl ?_;first|refine Zbe (Zj hm rfl rfl ?_)|exact Zbe (Zf hm rfl rfl rfl (nbT rfl) rfl rfl))
|refine Zs rfl (tl hn rfl) ?_
|(refine Zh rfl rfl rfl ?_ ?_<;>intro h<;>try(exfalso;first|omega|contradiction|(simp only[lmT]at h;omega))))
 all_goals exact Z3 (by rw[Bool.eq_iff_iff];simp only[decide_eq_true_eq,Bool.not_eq_true',decide_eq_false_iff_not,Bool.false_eq_true,true_iff,false_iff,Bool.and_eq_true,Bool.or_eq_true,Bool.not_eq_eq_eq_not,Bool.not_true,Bool.not_false,reduceCtorEq,eq_self,iff_true,iff_false,ne_eq];simp only[Shape,Plain,lmT,true_or,false_or,true_and,reduceCtorEq,Bool.false_eq_true,Bool.true_eq_false,true_and,and_true,or_true]at *;first|(simp[*];done)|(simp[*];omega)|omega)
set_option maxHeartbeats 4000000 in
theorem P7(r:Rul)(k:Int):ACv Tryz.prog 120 [.agg (Xz r),.bool false,.bool false,.bool false,.bool true,.int k] (.bool (decide (Shape r false false false true k))):=by
 obtain⟨nm,kd,sz,li,bs,ns,tg,ki⟩:=r
 cases li
 all_goals
  refine Zz Tryz.func120 rfl _ Tryz.ntmps120 (by simp) fun C hn hm=>?_
  repeat' (first
|refine Zbg Zk hn rfl ?_
|refine Zbh ?_
|refine Za 30 rfl ?_
|(refine Zbf 30 rfl ?_;first|refine Zbe (Zj hm rfl rfl ?_)|exact Zbe (Zf hm rfl rfl rfl (nbT rfl) rfl rfl))
|refine Zs rfl (tl hn rfl) ?_
|(refine Zh rfl rfl rfl ?_ ?_<;>intro h<;>try(exfalso;first|omega|contradiction|(simp only[lmT]at h;omega))))
 all_goals exact Z3 (by rw[Bool.eq_iff_iff];simp only[decide_eq_true_eq,Bool.not_eq_true',decide_eq_false_iff_not,Bool.false_eq_true,true_iff,false_iff,Bool.and_eq_true,Bool.or_eq_true,Bool.not_eq_eq_eq_not,Bool.not_true,Bool.not_false,reduceCtorEq,eq_self,iff_true,iff_false,ne_eq];simp only[Shape,Plain,lmT,true_or,false_or,true_and,reduceCtorEq,Bool.false_eq_true,Bool.true_eq_false,true_and,and_true,or_true]at *;first|(simp[*];done)|(simp[*];omega)|omega)
set_option maxHeartbeats 4000000 in
theorem V5(r:Rul)(k:Int):ACv Tryz.prog 120 [.agg (Xz r),.bool false,.bool false,.bool false,.bool false,.int k] (.bool (decide (Shape r false false false false k))):=by
 obtain⟨nm,kd,sz,li,bs,ns,tg,ki⟩:=r
 cases li
 all_goals
  refine Zz Tryz.func120 rfl _ Tryz.ntmps120 (by simp) fun C hn hm=>?_
  repeat' (first
|refine Zbg Zk hn rfl ?_
|refine Zbh ?_
|refine Za 30 rfl ?_
|(refine Zbf 30 rfl ?_;first|refine Zbe (Zj hm rfl rfl ?_)|exact Zbe (Zf hm rfl rfl rfl (nbT rfl) rfl rfl))
|refine Zs rfl (tl hn rfl) ?_
|(refine Zh rfl rfl rfl ?_ ?_<;>intro h<;>try(exfalso;first|omega|contradiction|(simp only[lmT]at h;omega))))
 all_goals exact Z3 (by rw[Bool.eq_iff_iff];simp only[decide_eq_true_eq,Bool.not_eq_true',decide_eq_false_iff_not,Bool.false_eq_true,true_iff,false_iff,Bool.and_eq_true,Bool.or_eq_true,Bool.not_eq_eq_eq_not,Bool.not_true,Bool.not_false,reduceCtorEq,eq_self,iff_true,iff_false,ne_eq];simp only[Shape,Plain,lmT,true_or,false_or,true_and,reduceCtorEq,Bool.false_eq_true,Bool.true_eq_false,true_and,and_true,or_true]at *;first|(simp[*];done)|(simp[*];omega)|omega)
def Bi(l:List ByteArray):Prop:=1≤l.length∧l.length≤8∧∀(i:Nat) x,l[i]?=some x→R6 x∧x∉l.take i
noncomputable instance (l:List ByteArray):Decidable (Bi l):=Classical.propDecidable _
theorem Zaf(l:List ByteArray)(hl:l.length≤maxLen)(ho:∀s∈l,s.size≤maxLen):ACv Tryz.prog 122 [Vw l] (.bool (decide (Bi l))):=by
 have hlm:(l.map fun z=>[RV.str z]).length=l.length:=lmT ..
 unfold maxLen at hl
 refine Zz Tryz.func122 rfl _ Tryz.ntmps122 (by simp) fun C hn hm=>?_
 repeat' (first
|refine Zbg Zk hn rfl ?_
|refine Zbh ?_
|refine Za 30 rfl ?_
|(refine Zbf 30 rfl ?_;first|refine Zg rfl ?_|(refine Zd rfl ?_ ?_;·first|omega|rfl|assumption|(simp only[lmT];omega))|(refine Ze rfl ?_ ?_;·first|omega|rfl|assumption|(simp only[lmT];omega))|refine Zbe (Zj hm rfl rfl ?_)|exact Zbe (Zf hm rfl rfl rfl (nbT rfl) rfl rfl))
|refine Zbi Zk hn rfl rfl ?_
|refine Zbj ?_
|refine Zo 30 Yc hn rfl (by kernel_rfl) rfl ?_
|((first|refine Zc hn rfl rfl rfl ?_|refine Zl rfl rfl ?_);first
|refine⟨_,Zq rfl rfl (by omega),?_⟩
|refine⟨_,Zb rfl rfl (by omega) (by assumption),?_⟩)
|(refine Yu rfl rfl rfl ?_ ?_<;>intro h<;>try(exfalso;first|omega|contradiction|(simp only[lmT]at h;omega))))
 refine Yh 30 rfl (fun j=>[(0,.ro (Vw l)),(3,.int (j:Int))]) (fun _=>[]) (fun j=>∀(i:Nat) x,i<j→l[i]?=some x→R6 x∧x∉l.take i) l.length 0 (Nat.zero_le _) (fun i x h=>absurd h (by omega)) ⟨rfl,rfl,trivial⟩ rfl fun j hj hQ next=>?_
 by_cases hlt:j<l.length
 ·obtain⟨x,hx⟩:∃x,l[(j:Int).toNat]?=some x:=⟨_,Za6 hlt⟩
  have hx':l[j]?=some x:=hx
  have hnm:=Ey x (ho x (Zba hx'))
  have hc:=Nr (l.take j) x (by rw[List.length_take];unfold maxLen;omega)
  by_cases h1:R6 x
  ·by_cases h2:x∈l.take j
   ·repeat' (first
|refine Zbg Zk hn rfl ?_
|refine Zbh ?_
|refine Za 30 rfl ?_
|((first|refine Zc hn rfl rfl rfl ?_|refine Zl rfl rfl ?_);first
|refine⟨_,Zi hnm rfl,?_⟩
|refine⟨_,Zi hc rfl,?_⟩
|refine⟨_,Xv rfl rfl (by omega) (by omega),?_⟩)
|(refine Zbf 30 rfl ?_;first|refine Zg rfl ?_|(refine Zd rfl ?_ ?_;·first|omega|rfl|assumption|(simp only[lmT];omega))|(refine Ze rfl ?_ ?_;·first|omega|rfl|assumption|(simp only[lmT];omega))|refine Zbe (Zj hm rfl rfl ?_)|exact Zbe (Zf hm rfl rfl rfl (nbT rfl) rfl rfl))
|refine Zbi Zk hn rfl rfl ?_
|refine Zbj ?_
|refine Zo 30 Yc hn rfl (by kernel_rfl) rfl ?_
|((first|refine Zc hn rfl rfl rfl ?_|refine Zl rfl rfl ?_);first
|refine⟨_,Zq rfl rfl (by omega),?_⟩
|refine⟨_,Zb rfl rfl (by omega) (by assumption),?_⟩)
|(refine Yu rfl rfl rfl ?_ ?_<;>intro h<;>try(exfalso;first|omega|contradiction|(simp only[lmT]at h;omega))))
    exact Z3 (decide_eq_false fun hN=>(hN.2.2 j x hx').2 h2).symm
   ·repeat' (first
|refine Zbg Zk hn rfl ?_
|refine Zbh ?_
|refine Za 30 rfl ?_
|((first|refine Zc hn rfl rfl rfl ?_|refine Zl rfl rfl ?_);first
|refine⟨_,Zi hnm rfl,?_⟩
|refine⟨_,Zi hc rfl,?_⟩
|refine⟨_,Xv rfl rfl (by omega) (by omega),?_⟩)
|(refine Zbf 30 rfl ?_;first|refine Zg rfl ?_|(refine Zd rfl ?_ ?_;·first|omega|rfl|assumption|(simp only[lmT];omega))|(refine Ze rfl ?_ ?_;·first|omega|rfl|assumption|(simp only[lmT];omega))|refine Zbe (Zj hm rfl rfl ?_)|exact Zbe (Zf hm rfl rfl rfl (nbT rfl) rfl rfl))
|refine Zbi Zk hn rfl rfl ?_
|refine Zbj ?_
|refine Zo 30 Yc hn rfl (by kernel_rfl) rfl ?_
|((first|refine Zc hn rfl rfl rfl ?_|refine Zl rfl rfl ?_);first
|refine⟨_,Zq rfl rfl (by omega),?_⟩
|refine⟨_,Zb rfl rfl (by omega) (by assumption),?_⟩)
|(refine Yu rfl rfl rfl ?_ ?_<;>intro h<;>try(exfalso;first|omega|contradiction|(simp only[lmT]at h;omega))))
    refine next _ _ ⟨rfl,rfl,trivial⟩ hlt (fun i y hi hy=>?_) rfl
    by_cases e:i=j
    ·subst e;rw[hx']at hy;injection hy with hy;subst hy;exact⟨h1,h2⟩
    ·exact hQ i y (by omega) hy
  ·repeat' (first
|refine Zbg Zk hn rfl ?_
|refine Zbh ?_
|refine Za 30 rfl ?_
|((first|refine Zc hn rfl rfl rfl ?_|refine Zl rfl rfl ?_);first
|refine⟨_,Zi hnm rfl,?_⟩
|refine⟨_,Zi hc rfl,?_⟩
|refine⟨_,Xv rfl rfl (by omega) (by omega),?_⟩)
|(refine Zbf 30 rfl ?_;first|refine Zg rfl ?_|(refine Zd rfl ?_ ?_;·first|omega|rfl|assumption|(simp only[lmT];omega))|(refine Ze rfl ?_ ?_;·first|omega|rfl|assumption|(simp only[lmT];omega))|refine Zbe (Zj hm rfl rfl ?_)|exact Zbe (Zf hm rfl rfl rfl (nbT rfl) rfl rfl))
|refine Zbi Zk hn rfl rfl ?_
|refine Zbj ?_
|refine Zo 30 Yc hn rfl (by kernel_rfl) rfl ?_
|((first|refine Zc hn rfl rfl rfl ?_|refine Zl rfl rfl ?_);first
|refine⟨_,Zq rfl rfl (by omega),?_⟩
|refine⟨_,Zb rfl rfl (by omega) (by assumption),?_⟩)
|(refine Yu rfl rfl rfl ?_ ?_<;>intro h<;>try(exfalso;first|omega|contradiction|(simp only[lmT]at h;omega))))
   exact Z3 (decide_eq_false fun hN=>h1 (hN.2.2 j x hx').1).symm
 ·repeat' (first
|refine Zbg Zk hn rfl ?_
|refine Zbh ?_
|refine Za 30 rfl ?_
|((first|refine Zc hn rfl rfl rfl ?_|refine Zl rfl rfl ?_);first
|refine⟨_,Zi (Xn _ _ _) rfl,?_⟩)
|(refine Zbf 30 rfl ?_;first|refine Zg rfl ?_|(refine Zd rfl ?_ ?_;·first|omega|rfl|assumption|(simp only[lmT];omega))|(refine Ze rfl ?_ ?_;·first|omega|rfl|assumption|(simp only[lmT];omega))|refine Zbe (Zj hm rfl rfl ?_)|exact Zbe (Zf hm rfl rfl rfl (nbT rfl) rfl rfl))
|refine Zbi Zk hn rfl rfl ?_
|refine Zbj ?_
|refine Zo 30 Yc hn rfl (by kernel_rfl) rfl ?_
|((first|refine Zc hn rfl rfl rfl ?_|refine Zl rfl rfl ?_);first
|refine⟨_,Zq rfl rfl (by omega),?_⟩
|refine⟨_,Zb rfl rfl (by omega) (by assumption),?_⟩)
|(refine Yu rfl rfl rfl ?_ ?_<;>intro h<;>try(exfalso;first|omega|contradiction|(simp only[lmT]at h;omega))))
  exact Z3 (decide_eq_decide.2 ⟨fun h=>⟨by omega,by omega,fun i x hx=>hQ i x (by have:=(Za5.1 hx).1;omega) hx⟩,fun h=>⟨by have:=h.1;omega,by have:=h.2.1;omega⟩⟩)
def Tt(d:Des)(r:Rul):Prop:=r.kids.length=r.tags.length+1∧1≤r.tags.length∧r.tags.length≤8∧∀(i:Nat) z,r.tags[i]?=some z→0≤z∧z≤lim d (r.kids.headD 0)∧∀y,0<i→r.tags[i-1]?=some y→y<z
noncomputable instance (d:Des) (r:Rul):Decidable (Tt d r):=Classical.propDecidable _
set_option maxHeartbeats 4000000 in
theorem l4Tags_ac(d:Des)(r:Rul)(hl:d.length≤maxLen)(ht:r.tags.length≤1048576):ACv Tryz.prog 123 [X1 d,.agg (Xz r)] (.bool (decide (Tt d r))):=by
 refine Zz Tryz.func123 rfl _ Tryz.ntmps123 (by simp) fun C hn hm=>?_
 by_cases h0:r.kids.length=r.tags.length+1∧1≤r.tags.length∧r.tags.length≤8
 ·obtain⟨k0,hk0⟩:∃k,r.kids[(0:Int).toNat]?=some k:=⟨_,Za6 (by simp;omega)⟩
  have hkd:r.kids.headD 0=k0:=by
   cases hkk:r.kids with
   |nil=>rw[hkk]at hk0;simp at hk0
   |cons a b=>rw[hkk]at hk0;simpa using hk0
  have hlim:=Kd d k0 hl
  repeat' (first
|refine Zbg Zk hn rfl ?_
|refine Zbh ?_
|refine Za 30 rfl ?_
|((first|refine Zc hn rfl rfl rfl ?_|refine Zl rfl rfl ?_);first
|refine⟨_,Zi (Xn _ _ _) rfl,?_⟩
|refine⟨_,Zq rfl rfl (by simp only[lmT];omega),?_⟩)
|(refine Zbf 30 rfl ?_;first|refine Zg rfl ?_|refine Zm rfl ?_|((first|refine Zd rfl ?_ ?_|refine Zp rfl ?_ ?_);·first|omega|rfl|assumption|(simp only[lmT];omega))|(refine Ze rfl ?_ ?_;·first|omega|rfl|assumption|(simp only[lmT];omega))|refine Z1 rfl (fun h=>?_) (fun h=>?_)|refine Z8 rfl (fun h=>?_) (fun h=>?_)|refine Zbe (Zj hm rfl rfl ?_)|exact Zbe (Zf hm rfl rfl rfl (nbT rfl) rfl rfl))
|refine Zs rfl (tl hn rfl) ?_
|refine Zbi Zk hn rfl rfl ?_
|refine Zbj ?_
|refine Zo 30 Yc hn rfl (by kernel_rfl) rfl ?_
|((first|refine Zc hn rfl rfl rfl ?_|refine Zl rfl rfl ?_);first
|refine⟨_,Zq rfl rfl (by omega),?_⟩
|refine⟨_,Zb rfl rfl (by omega) (by assumption),?_⟩
|refine⟨_,Z7 rfl rfl (by omega),?_⟩)
|((first|refine Zy rfl rfl rfl ?_ ?_|refine Zv rfl rfl rfl ?_ ?_|refine Yu rfl rfl rfl ?_ ?_)<;>intro h<;>try(exfalso;first|omega|contradiction|(simp only[lmT]at h;omega))))
  refine Yh 30 rfl (fun j=>[(2,.obj 0 0),(3,.obj 1 0),(5,.int (j:Int))]) (fun _=>[⟨26,0,[.ro (Wa d)]⟩,⟨78,0,[.str r.name,.int r.kind,.int r.size,.bool r.little,.ro (Ya r.bytes),.ro (Vw r.names),.ro (Xe r.tags),.ro (Xe r.kids)]⟩]) (fun j=>∀(i:Nat) z,i<j→r.tags[i]?=some z→0≤z∧z≤lim d (r.kids.headD 0)∧∀y,0<i→r.tags[i-1]?=some y→y<z) r.tags.length 0 (Nat.zero_le _) (fun i x h=>absurd h (by omega)) ⟨rfl,rfl,rfl,trivial⟩ rfl fun j hj hQ next=>?_
  by_cases hlt:j<r.tags.length
  ·obtain⟨x,hx⟩:∃x,r.tags[(j:Int).toNat]?=some x:=⟨_,Za6 hlt⟩
   have hx':r.tags[j]?=some x:=hx
   obtain⟨y,hy⟩:∃y,r.tags[((j:Int)-1).toNat]?=some y:=⟨_,Za6 (by omega)⟩
   have hy':0<j→r.tags[j-1]?=some y:=fun h=>by rw[←hy];congr 1;omega
   repeat' (first
|refine Zbg Zk hn rfl ?_
|refine Zbh ?_
|refine Za 30 rfl ?_
|((first|refine Zc hn rfl rfl rfl ?_|refine Zl rfl rfl ?_);first
|refine⟨_,Zi hlim rfl,?_⟩
|refine⟨_,Zi (Xn _ _ _) rfl,?_⟩)
|(refine Zbf 30 rfl ?_;first|refine Zg rfl ?_|refine Zm rfl ?_|((first|refine Zd rfl ?_ ?_|refine Zp rfl ?_ ?_);·first|omega|rfl|assumption|(simp only[lmT];omega))|(refine Ze rfl ?_ ?_;·first|omega|rfl|assumption|(simp only[lmT];omega))|refine Z1 rfl (fun h=>?_) (fun h=>?_)|refine Z8 rfl (fun h=>?_) (fun h=>?_)|refine Zbe (Zj hm rfl rfl ?_)|exact Zbe (Zf hm rfl rfl rfl (nbT rfl) rfl rfl))
|refine Zs rfl (tl hn rfl) ?_
|refine Zbi Zk hn rfl rfl ?_
|refine Zbj ?_
|refine Zo 30 Yc hn rfl (by kernel_rfl) rfl ?_
|((first|refine Zc hn rfl rfl rfl ?_|refine Zl rfl rfl ?_);first
|refine⟨_,Zq rfl rfl (by omega),?_⟩
|refine⟨_,Zb rfl rfl (by omega) (by assumption),?_⟩
|refine⟨_,Z7 rfl rfl (by omega),?_⟩)
|((first|refine Zy rfl rfl rfl ?_ ?_|refine Zv rfl rfl rfl ?_ ?_|refine Yu rfl rfl rfl ?_ ?_)<;>intro h<;>try(exfalso;first|omega|contradiction|(simp only[lmT]at h;omega))))
   all_goals first
    |exact Z3 (decide_eq_false fun hN=>by
      obtain⟨n1,n2,n3⟩:=hN.2.2.2 j x hx'
      rw[hkd]at n2
      first|omega|(have:=n3 y (by omega) (hy' (by omega));omega)).symm
    |(refine next _ _ ⟨rfl,rfl,rfl,trivial⟩ hlt (fun i z hi hz=>?_) rfl
      by_cases e:i=j
      ·subst e;rw[hx']at hz;injection hz with hz;subst hz
       rw[hkd]
       refine⟨by omega,by omega,fun u hu hu'=>?_⟩
       rw[hy' hu]at hu';injection hu' with hu';subst hu';omega
      ·exact hQ i z (by omega) hz)
  ·repeat' (first
|refine Zbg Zk hn rfl ?_
|refine Zbh ?_
|refine Za 30 rfl ?_
|(refine Zbf 30 rfl ?_;first|refine Zg rfl ?_|refine Zm rfl ?_|((first|refine Zd rfl ?_ ?_|refine Zp rfl ?_ ?_);·first|omega|rfl|assumption|(simp only[lmT];omega))|(refine Ze rfl ?_ ?_;·first|omega|rfl|assumption|(simp only[lmT];omega))|refine Z1 rfl (fun h=>?_) (fun h=>?_)|refine Z8 rfl (fun h=>?_) (fun h=>?_)|refine Zbe (Zj hm rfl rfl ?_)|exact Zbe (Zf hm rfl rfl rfl (nbT rfl) rfl rfl))
|refine Zs rfl (tl hn rfl) ?_
|refine Zbi Zk hn rfl rfl ?_
|refine Zbj ?_
|refine Zo 30 Yc hn rfl (by kernel_rfl) rfl ?_
|((first|refine Zc hn rfl rfl rfl ?_|refine Zl rfl rfl ?_);first
|refine⟨_,Zq rfl rfl (by omega),?_⟩
|refine⟨_,Zb rfl rfl (by omega) (by assumption),?_⟩
|refine⟨_,Z7 rfl rfl (by omega),?_⟩)
|((first|refine Zy rfl rfl rfl ?_ ?_|refine Zv rfl rfl rfl ?_ ?_|refine Yu rfl rfl rfl ?_ ?_)<;>intro h<;>try(exfalso;first|omega|contradiction|(simp only[lmT]at h;omega))))
   exact Z3 (decide_eq_true ⟨h0.1,h0.2.1,h0.2.2,fun i z hz=>hQ i z (by have:=(Za5.1 hz).1;omega) hz⟩).symm
 ·repeat' (first
|refine Zbg Zk hn rfl ?_
|refine Zbh ?_
|refine Za 30 rfl ?_
|((first|refine Zc hn rfl rfl rfl ?_|refine Zl rfl rfl ?_);first
|refine⟨_,Zi (Xn _ _ _) rfl,?_⟩
|refine⟨_,Zq rfl rfl (by simp only[lmT];omega),?_⟩)
|(refine Zbf 30 rfl ?_;first|refine Zg rfl ?_|refine Zm rfl ?_|((first|refine Zd rfl ?_ ?_|refine Zp rfl ?_ ?_);·first|omega|rfl|assumption|(simp only[lmT];omega))|(refine Ze rfl ?_ ?_;·first|omega|rfl|assumption|(simp only[lmT];omega))|refine Z1 rfl (fun h=>?_) (fun h=>?_)|refine Z8 rfl (fun h=>?_) (fun h=>?_)|refine Zbe (Zj hm rfl rfl ?_)|exact Zbe (Zf hm rfl rfl rfl (nbT rfl) rfl rfl))
|refine Zs rfl (tl hn rfl) ?_
|refine Zbi Zk hn rfl rfl ?_
|refine Zbj ?_
|refine Zo 30 Yc hn rfl (by kernel_rfl) rfl ?_
|((first|refine Zc hn rfl rfl rfl ?_|refine Zl rfl rfl ?_);first
|refine⟨_,Zq rfl rfl (by omega),?_⟩
|refine⟨_,Zb rfl rfl (by omega) (by assumption),?_⟩
|refine⟨_,Z7 rfl rfl (by omega),?_⟩)
|((first|refine Zy rfl rfl rfl ?_ ?_|refine Zv rfl rfl rfl ?_ ?_|refine Yu rfl rfl rfl ?_ ?_)<;>intro h<;>try(exfalso;first|omega|contradiction|(simp only[lmT]at h;omega))))
  all_goals first
   |exact Z3 (decide_eq_false (p:=Tt d r) fun hN=>h0 ⟨hN.1,hN.2.1,hN.2.2.1⟩).symm
   |(exfalso;simp only[lmT]at *;omega)
def Xi(d:Des)(r:Rul):Prop:=
 (r.kind=1∧Shape r true false false false 0∧InR r.size 1 4∧(r.little=false∨1<r.size)) ∨
 (r.kind=2∧Shape r false true false false 0∧InR r.bytes.length 1 16) ∨
 (r.kind=3∧Shape r true false false false 0∧InR r.size 1 64) ∨
 (r.kind=4∧Shape r false false false false 1∧0<lim d (r.kids.headD 0)) ∨
 (r.kind=5∧Shape r false false false false 2∧0<lim d (r.kids.headD 0)) ∨
 (r.kind=6∧Shape r false false true false r.names.length∧Bi r.names) ∨
 (r.kind=7∧Shape r false false false true (-1)∧Tt d r) ∨
 ((r.kind=8∨r.kind=9)∧Shape r false false false false 1) ∨
 (r.kind=10∧Shape r false true false false 0∧r.bytes.length=1∧r.bytes.headD 0≠92)
noncomputable instance (d:Des) (r:Rul):Decidable (Xi d r):=Classical.propDecidable _
theorem Td{l:List Int}(h:0<l.length):l[(0:Int).toNat]?=some (l.headD 0):=by cases l<;>simp_all
theorem S7{l:List UInt8}(h:0<l.length):l[(0:Int).toNat]?=some (l.headD 0):=by cases l<;>simp_all
theorem Shape.kids{r:Rul}{a b c d:Bool}{k:Int}(h:Shape r a b c d k)(hk:0≤k):(r.kids.length:Int)=k:=by
 have:=h.1.2.2.2.2;omega
set_option maxHeartbeats 8000000 in
theorem l4Kind_ac(d:Des)(r:Rul)(hl:d.length≤maxLen)(ht:r.tags.length≤1048576)(hnl:r.names.length≤maxLen)(hns:∀s∈r.names,s.size≤maxLen):ACv Tryz.prog 118 [X1 d,.agg (Xz r)] (.bool (decide (Xi d r))):=by
 have hnames:=Zaf r.names hnl hns
 have htags:=l4Tags_ac d r hl ht
 have hlim:=Kd d (r.kids.headD 0) hl
 refine Zz Tryz.func118 rfl _ Tryz.ntmps118 (by simp) fun C hn hm=>?_
 by_cases k1:r.kind=1
 ·repeat' (first
|refine Zbg Zk hn rfl ?_
|refine Zbh ?_
|refine Za 30 rfl ?_
|((first|refine Zc hn rfl rfl rfl ?_|refine Zl rfl rfl ?_);first
|refine⟨_,Zi (Dq r _) rfl,?_⟩
|refine⟨_,Zi (Xn _ _ _) rfl,?_⟩)
|(refine Zbf 30 rfl ?_;first|refine Zg rfl ?_|(refine Zd rfl ?_ ?_;·first|omega|rfl|assumption|(simp only[lmT];omega))|(refine Ze rfl ?_ ?_;·first|omega|rfl|assumption|(simp only[lmT];omega))|refine Zbe (Zj hm rfl rfl ?_)|exact Zbe (Zf hm rfl rfl rfl (nbT rfl) rfl rfl))
|refine Zs rfl (tl hn rfl) ?_
|refine Zbi Zk hn rfl rfl ?_
|refine Zbj ?_
|refine Zo 30 Yc hn rfl (by kernel_rfl) rfl ?_
|((first|refine Zc hn rfl rfl rfl ?_|refine Zl rfl rfl ?_);first
|refine⟨_,Zb rfl rfl (by omega) (by assumption),?_⟩)
|((first|refine Zh rfl rfl rfl ?_ ?_|refine Yf rfl rfl rfl ?_ ?_|refine Zv rfl rfl rfl ?_ ?_)<;>intro h<;>try(exfalso;first|omega|contradiction|(simp only[lmT]at h;omega))))
  all_goals exact Z3 (by rw[Bool.eq_iff_iff];simp[Xi, *])
 by_cases k2:r.kind=2
 ·repeat' (first
|refine Zbg Zk hn rfl ?_
|refine Zbh ?_
|refine Za 30 rfl ?_
|((first|refine Zc hn rfl rfl rfl ?_|refine Zl rfl rfl ?_);first
|refine⟨_,Zi (Md r _) rfl,?_⟩
|refine⟨_,Zi (Xn _ _ _) rfl,?_⟩)
|(refine Zbf 30 rfl ?_;first|refine Zg rfl ?_|(refine Zd rfl ?_ ?_;·first|omega|rfl|assumption|(simp only[lmT];omega))|(refine Ze rfl ?_ ?_;·first|omega|rfl|assumption|(simp only[lmT];omega))|refine Zbe (Zj hm rfl rfl ?_)|exact Zbe (Zf hm rfl rfl rfl (nbT rfl) rfl rfl))
|refine Zs rfl (tl hn rfl) ?_
|refine Zbi Zk hn rfl rfl ?_
|refine Zbj ?_
|refine Zo 30 Yc hn rfl (by kernel_rfl) rfl ?_
|((first|refine Zc hn rfl rfl rfl ?_|refine Zl rfl rfl ?_);first
|refine⟨_,Zb rfl rfl (by omega) (by assumption),?_⟩)
|((first|refine Zh rfl rfl rfl ?_ ?_|refine Yf rfl rfl rfl ?_ ?_|refine Zv rfl rfl rfl ?_ ?_)<;>intro h<;>try(exfalso;first|omega|contradiction|(simp only[lmT]at h;omega))))
  all_goals exact Z3 (by rw[Bool.eq_iff_iff];simp[Xi, *])
 by_cases k3:r.kind=3
 ·repeat' (first
|refine Zbg Zk hn rfl ?_
|refine Zbh ?_
|refine Za 30 rfl ?_
|((first|refine Zc hn rfl rfl rfl ?_|refine Zl rfl rfl ?_);first
|refine⟨_,Zi (Dq r _) rfl,?_⟩
|refine⟨_,Zi (Xn _ _ _) rfl,?_⟩)
|(refine Zbf 30 rfl ?_;first|refine Zg rfl ?_|(refine Zd rfl ?_ ?_;·first|omega|rfl|assumption|(simp only[lmT];omega))|(refine Ze rfl ?_ ?_;·first|omega|rfl|assumption|(simp only[lmT];omega))|refine Zbe (Zj hm rfl rfl ?_)|exact Zbe (Zf hm rfl rfl rfl (nbT rfl) rfl rfl))
|refine Zs rfl (tl hn rfl) ?_
|refine Zbi Zk hn rfl rfl ?_
|refine Zbj ?_
|refine Zo 30 Yc hn rfl (by kernel_rfl) rfl ?_
|((first|refine Zc hn rfl rfl rfl ?_|refine Zl rfl rfl ?_);first
|refine⟨_,Zb rfl rfl (by omega) (by assumption),?_⟩)
|((first|refine Zh rfl rfl rfl ?_ ?_|refine Yf rfl rfl rfl ?_ ?_|refine Zv rfl rfl rfl ?_ ?_)<;>intro h<;>try(exfalso;first|omega|contradiction|(simp only[lmT]at h;omega))))
  all_goals exact Z3 (by rw[Bool.eq_iff_iff];simp[Xi, *])
 by_cases k4:r.kind=4
 ·by_cases hS:Shape r false false false false 1
  ·have hk0:=Td (l:=r.kids) (by have:=hS.kids (by omega);omega)
   repeat' (first
|refine Zbg Zk hn rfl ?_
|refine Zbh ?_
|refine Za 30 rfl ?_
|((first|refine Zc hn rfl rfl rfl ?_|refine Zl rfl rfl ?_);first
|refine⟨_,Zi (V5 r _) rfl,?_⟩
|refine⟨_,Zi hlim rfl,?_⟩)
|(refine Zbf 30 rfl ?_;first|refine Zg rfl ?_|(refine Zd rfl ?_ ?_;·first|omega|rfl|assumption|(simp only[lmT];omega))|(refine Ze rfl ?_ ?_;·first|omega|rfl|assumption|(simp only[lmT];omega))|refine Zbe (Zj hm rfl rfl ?_)|exact Zbe (Zf hm rfl rfl rfl (nbT rfl) rfl rfl))
|refine Zs rfl (tl hn rfl) ?_
|refine Zbi Zk hn rfl rfl ?_
|refine Zbj ?_
|refine Zo 30 Yc hn rfl (by kernel_rfl) rfl ?_
|((first|refine Zc hn rfl rfl rfl ?_|refine Zl rfl rfl ?_);first
|refine⟨_,Zb rfl rfl (by omega) (by assumption),?_⟩)
|((first|refine Zh rfl rfl rfl ?_ ?_|refine Yf rfl rfl rfl ?_ ?_|refine Zv rfl rfl rfl ?_ ?_)<;>intro h<;>try(exfalso;first|omega|contradiction|(simp only[lmT]at h;omega))))
   all_goals exact Z3 (by rw[Bool.eq_iff_iff];simp[Xi, *])
  ·repeat' (first
|refine Zbg Zk hn rfl ?_
|refine Zbh ?_
|refine Za 30 rfl ?_
|((first|refine Zc hn rfl rfl rfl ?_|refine Zl rfl rfl ?_);first
|refine⟨_,Zi (V5 r _) rfl,?_⟩)
|(refine Zbf 30 rfl ?_;first|refine Zg rfl ?_|(refine Zd rfl ?_ ?_;·first|omega|rfl|assumption|(simp only[lmT];omega))|(refine Ze rfl ?_ ?_;·first|omega|rfl|assumption|(simp only[lmT];omega))|refine Zbe (Zj hm rfl rfl ?_)|exact Zbe (Zf hm rfl rfl rfl (nbT rfl) rfl rfl))
|refine Zs rfl (tl hn rfl) ?_
|refine Zbi Zk hn rfl rfl ?_
|refine Zbj ?_
|refine Zo 30 Yc hn rfl (by kernel_rfl) rfl ?_
|((first|refine Zc hn rfl rfl rfl ?_|refine Zl rfl rfl ?_);first
|refine⟨_,Zb rfl rfl (by omega) (by assumption),?_⟩)
|((first|refine Zh rfl rfl rfl ?_ ?_|refine Yf rfl rfl rfl ?_ ?_|refine Zv rfl rfl rfl ?_ ?_)<;>intro h<;>try(exfalso;first|omega|contradiction|(simp only[lmT]at h;omega))))
   all_goals exact Z3 (by rw[Bool.eq_iff_iff];simp[Xi, *])
 by_cases k5:r.kind=5
 ·by_cases hS:Shape r false false false false 2
  ·have hk0:=Td (l:=r.kids) (by have:=hS.kids (by omega);omega)
   repeat' (first
|refine Zbg Zk hn rfl ?_
|refine Zbh ?_
|refine Za 30 rfl ?_
|((first|refine Zc hn rfl rfl rfl ?_|refine Zl rfl rfl ?_);first
|refine⟨_,Zi (V5 r _) rfl,?_⟩
|refine⟨_,Zi hlim rfl,?_⟩)
|(refine Zbf 30 rfl ?_;first|refine Zg rfl ?_|(refine Zd rfl ?_ ?_;·first|omega|rfl|assumption|(simp only[lmT];omega))|(refine Ze rfl ?_ ?_;·first|omega|rfl|assumption|(simp only[lmT];omega))|refine Zbe (Zj hm rfl rfl ?_)|exact Zbe (Zf hm rfl rfl rfl (nbT rfl) rfl rfl))
|refine Zs rfl (tl hn rfl) ?_
|refine Zbi Zk hn rfl rfl ?_
|refine Zbj ?_
|refine Zo 30 Yc hn rfl (by kernel_rfl) rfl ?_
|((first|refine Zc hn rfl rfl rfl ?_|refine Zl rfl rfl ?_);first
|refine⟨_,Zb rfl rfl (by omega) (by assumption),?_⟩)
|((first|refine Zh rfl rfl rfl ?_ ?_|refine Yf rfl rfl rfl ?_ ?_|refine Zv rfl rfl rfl ?_ ?_)<;>intro h<;>try(exfalso;first|omega|contradiction|(simp only[lmT]at h;omega))))
   all_goals exact Z3 (by rw[Bool.eq_iff_iff];simp[Xi, *])
  ·repeat' (first
|refine Zbg Zk hn rfl ?_
|refine Zbh ?_
|refine Za 30 rfl ?_
|((first|refine Zc hn rfl rfl rfl ?_|refine Zl rfl rfl ?_);first
|refine⟨_,Zi (V5 r _) rfl,?_⟩)
|(refine Zbf 30 rfl ?_;first|refine Zg rfl ?_|(refine Zd rfl ?_ ?_;·first|omega|rfl|assumption|(simp only[lmT];omega))|(refine Ze rfl ?_ ?_;·first|omega|rfl|assumption|(simp only[lmT];omega))|refine Zbe (Zj hm rfl rfl ?_)|exact Zbe (Zf hm rfl rfl rfl (nbT rfl) rfl rfl))
|refine Zs rfl (tl hn rfl) ?_
|refine Zbi Zk hn rfl rfl ?_
|refine Zbj ?_
|refine Zo 30 Yc hn rfl (by kernel_rfl) rfl ?_
|((first|refine Zc hn rfl rfl rfl ?_|refine Zl rfl rfl ?_);first
|refine⟨_,Zb rfl rfl (by omega) (by assumption),?_⟩)
|((first|refine Zh rfl rfl rfl ?_ ?_|refine Yf rfl rfl rfl ?_ ?_|refine Zv rfl rfl rfl ?_ ?_)<;>intro h<;>try(exfalso;first|omega|contradiction|(simp only[lmT]at h;omega))))
   all_goals exact Z3 (by rw[Bool.eq_iff_iff];simp[Xi, *])
 by_cases k6:r.kind=6
 ·have hsh:=P8 r r.names.length
  have hlm:(r.names.map fun z=>[RV.str z]).length=r.names.length:=lmT ..
  repeat' (first
|refine Zbg Zk hn rfl ?_
|refine Zbh ?_
|refine Za 30 rfl ?_
|((first|refine Zc hn rfl rfl rfl ?_|refine Zl rfl rfl ?_);first
|refine⟨_,Zi hsh (by simp[ev,look,Xz]),?_⟩
|refine⟨_,Zi hnames rfl,?_⟩)
|(refine Zbf 30 rfl ?_;first|refine Zg rfl ?_|(refine Zd rfl ?_ ?_;·first|omega|rfl|assumption|(simp only[lmT];omega))|(refine Ze rfl ?_ ?_;·first|omega|rfl|assumption|(simp only[lmT];omega))|refine Zbe (Zj hm rfl rfl ?_)|exact Zbe (Zf hm rfl rfl rfl (nbT rfl) rfl rfl))
|refine Zs rfl (tl hn rfl) ?_
|refine Zbi Zk hn rfl rfl ?_
|refine Zbj ?_
|refine Zo 30 Yc hn rfl (by kernel_rfl) rfl ?_
|((first|refine Zc hn rfl rfl rfl ?_|refine Zl rfl rfl ?_);first
|refine⟨_,Zb rfl rfl (by omega) (by assumption),?_⟩)
|((first|refine Zh rfl rfl rfl ?_ ?_|refine Yf rfl rfl rfl ?_ ?_|refine Zv rfl rfl rfl ?_ ?_)<;>intro h<;>try(exfalso;first|omega|contradiction|(simp only[lmT]at h;omega))))
  all_goals exact Z3 (by rw[Bool.eq_iff_iff];simp[Xi, *])
 by_cases k7:r.kind=7
 ·repeat' (first
|refine Zbg Zk hn rfl ?_
|refine Zbh ?_
|refine Za 30 rfl ?_
|((first|refine Zc hn rfl rfl rfl ?_|refine Zl rfl rfl ?_);first
|refine⟨_,Zi (P7 r _) rfl,?_⟩
|refine⟨_,Zi htags rfl,?_⟩)
|(refine Zbf 30 rfl ?_;first|refine Zg rfl ?_|(refine Zd rfl ?_ ?_;·first|omega|rfl|assumption|(simp only[lmT];omega))|(refine Ze rfl ?_ ?_;·first|omega|rfl|assumption|(simp only[lmT];omega))|refine Zbe (Zj hm rfl rfl ?_)|exact Zbe (Zf hm rfl rfl rfl (nbT rfl) rfl rfl))
|refine Zs rfl (tl hn rfl) ?_
|refine Zbi Zk hn rfl rfl ?_
|refine Zbj ?_
|refine Zo 30 Yc hn rfl (by kernel_rfl) rfl ?_
|((first|refine Zc hn rfl rfl rfl ?_|refine Zl rfl rfl ?_);first
|refine⟨_,Zb rfl rfl (by omega) (by assumption),?_⟩)
|((first|refine Zh rfl rfl rfl ?_ ?_|refine Yf rfl rfl rfl ?_ ?_|refine Zv rfl rfl rfl ?_ ?_)<;>intro h<;>try(exfalso;first|omega|contradiction|(simp only[lmT]at h;omega))))
  all_goals exact Z3 (by rw[Bool.eq_iff_iff];simp[Xi, *])
 by_cases k8:r.kind=8
 ·repeat' (first
|refine Zbg Zk hn rfl ?_
|refine Zbh ?_
|refine Za 30 rfl ?_
|((first|refine Zc hn rfl rfl rfl ?_|refine Zl rfl rfl ?_);first
|refine⟨_,Zi (V5 r _) rfl,?_⟩)
|(refine Zbf 30 rfl ?_;first|refine Zg rfl ?_|(refine Zd rfl ?_ ?_;·first|omega|rfl|assumption|(simp only[lmT];omega))|(refine Ze rfl ?_ ?_;·first|omega|rfl|assumption|(simp only[lmT];omega))|refine Zbe (Zj hm rfl rfl ?_)|exact Zbe (Zf hm rfl rfl rfl (nbT rfl) rfl rfl))
|refine Zs rfl (tl hn rfl) ?_
|refine Zbi Zk hn rfl rfl ?_
|refine Zbj ?_
|refine Zo 30 Yc hn rfl (by kernel_rfl) rfl ?_
|((first|refine Zc hn rfl rfl rfl ?_|refine Zl rfl rfl ?_);first
|refine⟨_,Zb rfl rfl (by omega) (by assumption),?_⟩)
|((first|refine Zh rfl rfl rfl ?_ ?_|refine Yf rfl rfl rfl ?_ ?_|refine Zv rfl rfl rfl ?_ ?_)<;>intro h<;>try(exfalso;first|omega|contradiction|(simp only[lmT]at h;omega))))
  all_goals exact Z3 (by rw[Bool.eq_iff_iff];simp[Xi, *])
 by_cases k9:r.kind=9
 ·repeat' (first
|refine Zbg Zk hn rfl ?_
|refine Zbh ?_
|refine Za 30 rfl ?_
|((first|refine Zc hn rfl rfl rfl ?_|refine Zl rfl rfl ?_);first
|refine⟨_,Zi (V5 r _) rfl,?_⟩)
|(refine Zbf 30 rfl ?_;first|refine Zg rfl ?_|(refine Zd rfl ?_ ?_;·first|omega|rfl|assumption|(simp only[lmT];omega))|(refine Ze rfl ?_ ?_;·first|omega|rfl|assumption|(simp only[lmT];omega))|refine Zbe (Zj hm rfl rfl ?_)|exact Zbe (Zf hm rfl rfl rfl (nbT rfl) rfl rfl))
|refine Zs rfl (tl hn rfl) ?_
|refine Zbi Zk hn rfl rfl ?_
|refine Zbj ?_
|refine Zo 30 Yc hn rfl (by kernel_rfl) rfl ?_
|((first|refine Zc hn rfl rfl rfl ?_|refine Zl rfl rfl ?_);first
|refine⟨_,Zb rfl rfl (by omega) (by assumption),?_⟩)
|((first|refine Zh rfl rfl rfl ?_ ?_|refine Yf rfl rfl rfl ?_ ?_|refine Zv rfl rfl rfl ?_ ?_)<;>intro h<;>try(exfalso;first|omega|contradiction|(simp only[lmT]at h;omega))))
  all_goals exact Z3 (by rw[Bool.eq_iff_iff];simp[Xi, *])
 by_cases k10:r.kind=10
 ·by_cases hb:r.bytes.length=1
  ·have hb0:=S7 (l:=r.bytes) (by omega)
   have hu:((r.bytes.headD 0).toNat:Int)=92↔r.bytes.headD 0=92:=⟨fun h=>u8_ext h,fun h=>by rw[h];rfl⟩
   repeat' (first
|refine Zbg Zk hn rfl ?_
|refine Zbh ?_
|refine Za 30 rfl ?_
|((first|refine Zc hn rfl rfl rfl ?_|refine Zl rfl rfl ?_);first
|refine⟨_,Zi (Md r _) rfl,?_⟩)
|(refine Zbf 30 rfl ?_;first|refine Zg rfl ?_|(refine Zd rfl ?_ ?_;·first|omega|rfl|assumption|(simp only[lmT];omega))|(refine Ze rfl ?_ ?_;·first|omega|rfl|assumption|(simp only[lmT];omega))|refine Zbe (Zj hm rfl rfl ?_)|exact Zbe (Zf hm rfl rfl rfl (nbT rfl) rfl rfl))
|refine Zs rfl (tl hn rfl) ?_
|refine Zbi Zk hn rfl rfl ?_
|refine Zbj ?_
|refine Zo 30 Yc hn rfl (by kernel_rfl) rfl ?_
|((first|refine Zc hn rfl rfl rfl ?_|refine Zl rfl rfl ?_);first
|refine⟨_,Zb rfl rfl (by omega) (by assumption),?_⟩)
|((first|refine Zh rfl rfl rfl ?_ ?_|refine Yf rfl rfl rfl ?_ ?_|refine Zv rfl rfl rfl ?_ ?_)<;>intro h<;>try(exfalso;first|omega|contradiction|(simp only[lmT]at h;omega))))
   all_goals exact Z3 (by rw[Bool.eq_iff_iff];first|(simp[Xi, *];done)|(simp[Xi, *];exact not_congr (by simpa using hu)))
  ·repeat' (first
|refine Zbg Zk hn rfl ?_
|refine Zbh ?_
|refine Za 30 rfl ?_
|((first|refine Zc hn rfl rfl rfl ?_|refine Zl rfl rfl ?_);first
|refine⟨_,Zi (Md r _) rfl,?_⟩)
|(refine Zbf 30 rfl ?_;first|refine Zg rfl ?_|(refine Zd rfl ?_ ?_;·first|omega|rfl|assumption|(simp only[lmT];omega))|(refine Ze rfl ?_ ?_;·first|omega|rfl|assumption|(simp only[lmT];omega))|refine Zbe (Zj hm rfl rfl ?_)|exact Zbe (Zf hm rfl rfl rfl (nbT rfl) rfl rfl))
|refine Zs rfl (tl hn rfl) ?_
|refine Zbi Zk hn rfl rfl ?_
|refine Zbj ?_
|refine Zo 30 Yc hn rfl (by kernel_rfl) rfl ?_
|((first|refine Zc hn rfl rfl rfl ?_|refine Zl rfl rfl ?_);first
|refine⟨_,Zb rfl rfl (by omega) (by assumption),?_⟩)
|((first|refine Zh rfl rfl rfl ?_ ?_|refine Yf rfl rfl rfl ?_ ?_|refine Zv rfl rfl rfl ?_ ?_)<;>intro h<;>try(exfalso;first|omega|contradiction|(simp only[lmT]at h;omega))))
   all_goals exact Z3 (by rw[Bool.eq_iff_iff];simp[Xi, *])
 ·repeat' (first
|refine Zbg Zk hn rfl ?_
|refine Zbh ?_
|refine Za 30 rfl ?_
|(refine Zbf 30 rfl ?_;first|refine Zg rfl ?_|(refine Zd rfl ?_ ?_;·first|omega|rfl|assumption|(simp only[lmT];omega))|(refine Ze rfl ?_ ?_;·first|omega|rfl|assumption|(simp only[lmT];omega))|refine Zbe (Zj hm rfl rfl ?_)|exact Zbe (Zf hm rfl rfl rfl (nbT rfl) rfl rfl))
|refine Zs rfl (tl hn rfl) ?_
|refine Zbi Zk hn rfl rfl ?_
|refine Zbj ?_
|refine Zo 30 Yc hn rfl (by kernel_rfl) rfl ?_
|((first|refine Zc hn rfl rfl rfl ?_|refine Zl rfl rfl ?_);first
|refine⟨_,Zb rfl rfl (by omega) (by assumption),?_⟩)
|((first|refine Zh rfl rfl rfl ?_ ?_|refine Yf rfl rfl rfl ?_ ?_|refine Zv rfl rfl rfl ?_ ?_)<;>intro h<;>try(exfalso;first|omega|contradiction|(simp only[lmT]at h;omega))))
  all_goals exact Z3 (by rw[Bool.eq_iff_iff];simp[Xi, *])
def RuleOk(d:Des)(n:Nat)(r:Rul):Prop:=(∀(k:Nat) x,k<n→d[k]?=some x→¬x.name=r.name)∧(∀(k:Nat) z,r.kids[k]?=some z→0≤z∧z<n)∧R6 r.name∧Xi d r
def V2(d:Des)(i:Int):Prop:=0≤i∧∃r,d[i.toNat]?=some r∧RuleOk d i.toNat r
noncomputable instance (d:Des) (i:Int):Decidable (V2 d i):=Classical.propDecidable _
theorem N0{d:Des}{i:Int}{r:Rul}(h0:0≤i)(h:d[i.toNat]?=some r):V2 d i↔RuleOk d i.toNat r:=
 ⟨fun⟨_,r',h1,h2⟩=>by rw[h]at h1;injection h1 with h1;subst h1;exact h2,fun h2=>⟨h0,r,h,h2⟩⟩
set_option maxHeartbeats 4000000 in
theorem Ty(d:Des)(ho:H0 d)(hd:Wi d≤1048576)(i:Int)(hi:I64 i):ACv Tryz.prog 101 [X1 d,.int i] (.bool (decide (V2 d i))):=by
 have hlm:(d.map Xz).length=d.length:=lmT ..
 have hl:=ho.len
 have et:Wi d=d.length+(d.map Rul.total).sum:=rfl
 unfold I64 at hi
 by_cases hx:HasR d i
 ·obtain⟨r,hr⟩:∃r,d[i.toNat]?=some r:=⟨_,Za6 (by omega)⟩
  have hmem:=Zba hr
  have hro:=ho.rules r hmem
  obtain⟨o1,o2,o3,o4,o5,o6,o7⟩:=hro.lens
  have hrt:=U7 Rul.total hmem
  have er:r.total=r.name.size+r.bytes.length+(r.names.length+(r.names.map ByteArray.size).sum)+r.tags.length+r.kids.length:=rfl
  have hnm:=Ey r.name o1
  have hk:=l4Kind_ac d r hl (by omega) o3 o4
  have hiff:=N0 hx.1 hr
  obtain⟨n,rfl⟩:∃n:Nat,i=n:=⟨i.toNat,by omega⟩
  simp only[Int.toNat_natCast]at hiff
  refine Zz Tryz.func101 rfl _ Tryz.ntmps101 (by simp) fun C hn hm=>?_
  repeat' (first
|refine Zbg Zk hn rfl ?_
|refine Zbh ?_
|refine Za 30 rfl ?_
|((first|refine Zc hn rfl rfl rfl ?_|refine Zl rfl rfl ?_);first
|refine⟨_,Zi (Xn _ _ _) rfl,?_⟩)
|(refine Zbf 30 rfl ?_;first|refine Zg rfl ?_|refine Zm rfl ?_|((first|refine Zd rfl ?_ ?_|refine Zp rfl ?_ ?_);·first|omega|rfl|assumption|(simp only[lmT];omega))|((first|refine Ze rfl ?_ ?_|refine Zn rfl ?_ ?_);·first|omega|rfl|assumption|(simp only[lmT];omega))|refine Zbe (Zj hm rfl rfl ?_)|exact Zbe (Zf hm rfl rfl rfl (nbT rfl) rfl rfl))
|refine Zs rfl (tl hn rfl) ?_
|refine Zx (tl hn rfl) ?_
|refine Zr rfl rfl rfl rfl (nbT rfl) ?_
|refine Zbi Zk hn rfl rfl ?_
|refine Zbj ?_
|refine Zo 30 Yc hn rfl (by kernel_rfl) rfl ?_
|((first|refine Zc hn rfl rfl rfl ?_|refine Zl rfl rfl ?_);first
|refine⟨_,Zq rfl rfl (by omega),?_⟩
|refine⟨_,Zb rfl rfl (by omega) (by assumption),?_⟩
|refine⟨_,Z7 rfl rfl (by omega),?_⟩)
|(refine Zh rfl rfl rfl ?_ ?_<;>intro h<;>try(exfalso;first|omega|contradiction|(simp only[lmT]at h;omega))))
  refine Yh 30 rfl (fun j=>[(2,.obj 0 0),(5,.obj 1 0),(1,.int (n:Int)),(6,.int (j:Int))]) (fun _=>[⟨26,0,[.ro (Wa d)]⟩,⟨78,0,[.str r.name,.int r.kind,.int r.size,.bool r.little,.ro (Ya r.bytes),.ro (Vw r.names),.ro (Xe r.tags),.ro (Xe r.kids)]⟩]) (fun j=>∀(k:Nat) x,k<j→d[k]?=some x→¬x.name=r.name) n 0 (Nat.zero_le _) (fun k x h=>absurd h (by omega)) ⟨rfl,rfl,rfl,rfl,trivial⟩ rfl fun j hj hQ next=>?_
  by_cases hlt:j<n
  ·obtain⟨x,hxj⟩:∃x,d[(j:Int).toNat]?=some x:=⟨_,Za6 (by simp;omega)⟩
   have hx':d[j]?=some x:=hxj
   by_cases hq:x.name=r.name
   ·repeat' (first
|((first|refine Zc hn rfl rfl rfl ?_|refine Zl rfl rfl ?_);first
|refine⟨_,Lg rfl (by rw[hq];rfl),?_⟩)
|refine Zbg Zk hn rfl ?_
|refine Zbh ?_
|refine Za 30 rfl ?_
|(refine Zbf 30 rfl ?_;first|refine Zg rfl ?_|refine Zm rfl ?_|((first|refine Zd rfl ?_ ?_|refine Zp rfl ?_ ?_);·first|omega|rfl|assumption|(simp only[lmT];omega))|((first|refine Ze rfl ?_ ?_|refine Zn rfl ?_ ?_);·first|omega|rfl|assumption|(simp only[lmT];omega))|refine Zbe (Zj hm rfl rfl ?_)|exact Zbe (Zf hm rfl rfl rfl (nbT rfl) rfl rfl))
|refine Zs rfl (tl hn rfl) ?_
|refine Zx (tl hn rfl) ?_
|refine Zr rfl rfl rfl rfl (nbT rfl) ?_
|refine Zbi Zk hn rfl rfl ?_
|refine Zbj ?_
|refine Zo 30 Yc hn rfl (by kernel_rfl) rfl ?_
|((first|refine Zc hn rfl rfl rfl ?_|refine Zl rfl rfl ?_);first
|refine⟨_,Zq rfl rfl (by omega),?_⟩
|refine⟨_,Zb rfl rfl (by omega) (by assumption),?_⟩
|refine⟨_,Z7 rfl rfl (by omega),?_⟩)
|(refine Zh rfl rfl rfl ?_ ?_<;>intro h<;>try(exfalso;first|omega|contradiction|(simp only[lmT]at h;omega))))
    all_goals exact Z3 (decide_eq_false (p:=V2 d n) fun hN=>(hiff.1 hN).1 j x hlt hx' hq).symm
   ·repeat' (first
|((first|refine Zc hn rfl rfl rfl ?_|refine Zl rfl rfl ?_);first
|refine⟨_,Lh rfl rfl (by assumption),?_⟩)
|refine Zbg Zk hn rfl ?_
|refine Zbh ?_
|refine Za 30 rfl ?_
|(refine Zbf 30 rfl ?_;first|refine Zg rfl ?_|refine Zm rfl ?_|((first|refine Zd rfl ?_ ?_|refine Zp rfl ?_ ?_);·first|omega|rfl|assumption|(simp only[lmT];omega))|((first|refine Ze rfl ?_ ?_|refine Zn rfl ?_ ?_);·first|omega|rfl|assumption|(simp only[lmT];omega))|refine Zbe (Zj hm rfl rfl ?_)|exact Zbe (Zf hm rfl rfl rfl (nbT rfl) rfl rfl))
|refine Zs rfl (tl hn rfl) ?_
|refine Zx (tl hn rfl) ?_
|refine Zr rfl rfl rfl rfl (nbT rfl) ?_
|refine Zbi Zk hn rfl rfl ?_
|refine Zbj ?_
|refine Zo 30 Yc hn rfl (by kernel_rfl) rfl ?_
|((first|refine Zc hn rfl rfl rfl ?_|refine Zl rfl rfl ?_);first
|refine⟨_,Zq rfl rfl (by omega),?_⟩
|refine⟨_,Zb rfl rfl (by omega) (by assumption),?_⟩
|refine⟨_,Z7 rfl rfl (by omega),?_⟩)
|(refine Zh rfl rfl rfl ?_ ?_<;>intro h<;>try(exfalso;first|omega|contradiction|(simp only[lmT]at h;omega))))
    refine next _ _ ⟨rfl,rfl,rfl,rfl,trivial⟩ hlt (fun k y hkj hy=>?_) rfl
    by_cases e:k=j
    ·subst e;rw[hx']at hy;injection hy with hy;subst hy;exact hq
    ·exact hQ k y (by omega) hy
  ·obtain rfl:j=n:=by omega
   repeat' (first
|refine Zbg Zk hn rfl ?_
|refine Zbh ?_
|refine Za 30 rfl ?_
|(refine Zbf 30 rfl ?_;first|refine Zg rfl ?_|refine Zm rfl ?_|((first|refine Zd rfl ?_ ?_|refine Zp rfl ?_ ?_);·first|omega|rfl|assumption|(simp only[lmT];omega))|((first|refine Ze rfl ?_ ?_|refine Zn rfl ?_ ?_);·first|omega|rfl|assumption|(simp only[lmT];omega))|refine Zbe (Zj hm rfl rfl ?_)|exact Zbe (Zf hm rfl rfl rfl (nbT rfl) rfl rfl))
|refine Zs rfl (tl hn rfl) ?_
|refine Zx (tl hn rfl) ?_
|refine Zr rfl rfl rfl rfl (nbT rfl) ?_
|refine Zbi Zk hn rfl rfl ?_
|refine Zbj ?_
|refine Zo 30 Yc hn rfl (by kernel_rfl) rfl ?_
|((first|refine Zc hn rfl rfl rfl ?_|refine Zl rfl rfl ?_);first
|refine⟨_,Zq rfl rfl (by omega),?_⟩
|refine⟨_,Zb rfl rfl (by omega) (by assumption),?_⟩
|refine⟨_,Z7 rfl rfl (by omega),?_⟩)
|(refine Zh rfl rfl rfl ?_ ?_<;>intro h<;>try(exfalso;first|omega|contradiction|(simp only[lmT]at h;omega))))
   refine Yh 30 rfl (fun m=>[(2,.obj 0 0),(5,.obj 1 0),(1,.int (j:Int)),(7,.int (m:Int))]) (fun _=>[⟨26,0,[.ro (Wa d)]⟩,⟨78,0,[.str r.name,.int r.kind,.int r.size,.bool r.little,.ro (Ya r.bytes),.ro (Vw r.names),.ro (Xe r.tags),.ro (Xe r.kids)]⟩]) (fun m=>∀(k:Nat) z,k<m→r.kids[k]?=some z→0≤z∧z<j) r.kids.length 0 (Nat.zero_le _) (fun k x h=>absurd h (by omega)) ⟨rfl,rfl,rfl,rfl,trivial⟩ rfl fun m hm' hP next2=>?_
   by_cases hlt2:m<r.kids.length
   ·obtain⟨z,hz⟩:∃z,r.kids[(m:Int).toNat]?=some z:=⟨_,Za6 hlt2⟩
    have hz':r.kids[m]?=some z:=hz
    by_cases hzr:0≤z∧z<(j:Int)
    ·repeat' (first
|refine Zbg Zk hn rfl ?_
|refine Zbh ?_
|refine Za 30 rfl ?_
|((first|refine Zc hn rfl rfl rfl ?_|refine Zl rfl rfl ?_);first
|refine⟨_,Zi (Xn _ _ _) rfl,?_⟩)
|(refine Zbf 30 rfl ?_;first|refine Zg rfl ?_|refine Zm rfl ?_|((first|refine Zd rfl ?_ ?_|refine Zp rfl ?_ ?_);·first|omega|rfl|assumption|(simp only[lmT];omega))|((first|refine Ze rfl ?_ ?_|refine Zn rfl ?_ ?_);·first|omega|rfl|assumption|(simp only[lmT];omega))|refine Zbe (Zj hm rfl rfl ?_)|exact Zbe (Zf hm rfl rfl rfl (nbT rfl) rfl rfl))
|refine Zs rfl (tl hn rfl) ?_
|refine Zx (tl hn rfl) ?_
|refine Zr rfl rfl rfl rfl (nbT rfl) ?_
|refine Zbi Zk hn rfl rfl ?_
|refine Zbj ?_
|refine Zo 30 Yc hn rfl (by kernel_rfl) rfl ?_
|((first|refine Zc hn rfl rfl rfl ?_|refine Zl rfl rfl ?_);first
|refine⟨_,Zq rfl rfl (by omega),?_⟩
|refine⟨_,Zb rfl rfl (by omega) (by assumption),?_⟩
|refine⟨_,Z7 rfl rfl (by omega),?_⟩)
|(refine Zh rfl rfl rfl ?_ ?_<;>intro h<;>try(exfalso;first|omega|contradiction|(simp only[lmT]at h;omega))))
     refine next2 _ _ ⟨rfl,rfl,rfl,rfl,trivial⟩ hlt2 (fun k y hkm hy=>?_) rfl
     by_cases e:k=m
     ·subst e;rw[hz']at hy;injection hy with hy;subst hy;exact hzr
     ·exact hP k y (by omega) hy
    ·repeat' (first
|refine Zbg Zk hn rfl ?_
|refine Zbh ?_
|refine Za 30 rfl ?_
|((first|refine Zc hn rfl rfl rfl ?_|refine Zl rfl rfl ?_);first
|refine⟨_,Zi (Xn _ _ _) rfl,?_⟩)
|(refine Zbf 30 rfl ?_;first|refine Zg rfl ?_|refine Zm rfl ?_|((first|refine Zd rfl ?_ ?_|refine Zp rfl ?_ ?_);·first|omega|rfl|assumption|(simp only[lmT];omega))|((first|refine Ze rfl ?_ ?_|refine Zn rfl ?_ ?_);·first|omega|rfl|assumption|(simp only[lmT];omega))|refine Zbe (Zj hm rfl rfl ?_)|exact Zbe (Zf hm rfl rfl rfl (nbT rfl) rfl rfl))
|refine Zs rfl (tl hn rfl) ?_
|refine Zx (tl hn rfl) ?_
|refine Zr rfl rfl rfl rfl (nbT rfl) ?_
|refine Zbi Zk hn rfl rfl ?_
|refine Zbj ?_
|refine Zo 30 Yc hn rfl (by kernel_rfl) rfl ?_
|((first|refine Zc hn rfl rfl rfl ?_|refine Zl rfl rfl ?_);first
|refine⟨_,Zq rfl rfl (by omega),?_⟩
|refine⟨_,Zb rfl rfl (by omega) (by assumption),?_⟩
|refine⟨_,Z7 rfl rfl (by omega),?_⟩)
|(refine Zh rfl rfl rfl ?_ ?_<;>intro h<;>try(exfalso;first|omega|contradiction|(simp only[lmT]at h;omega))))
     all_goals exact Z3 (decide_eq_false (p:=V2 d j) fun hN=>hzr ((hiff.1 hN).2.1 m z hz')).symm
   ·by_cases hn1:R6 r.name
    ·repeat' (first
|refine Zbg Zk hn rfl ?_
|refine Zbh ?_
|refine Za 30 rfl ?_
|((first|refine Zc hn rfl rfl rfl ?_|refine Zl rfl rfl ?_);first
|refine⟨_,Zi hnm rfl,?_⟩
|refine⟨_,Zi hk rfl,?_⟩)
|(refine Zbf 30 rfl ?_;first|refine Zg rfl ?_|refine Zm rfl ?_|((first|refine Zd rfl ?_ ?_|refine Zp rfl ?_ ?_);·first|omega|rfl|assumption|(simp only[lmT];omega))|((first|refine Ze rfl ?_ ?_|refine Zn rfl ?_ ?_);·first|omega|rfl|assumption|(simp only[lmT];omega))|refine Zbe (Zj hm rfl rfl ?_)|exact Zbe (Zf hm rfl rfl rfl (nbT rfl) rfl rfl))
|refine Zs rfl (tl hn rfl) ?_
|refine Zx (tl hn rfl) ?_
|refine Zr rfl rfl rfl rfl (nbT rfl) ?_
|refine Zbi Zk hn rfl rfl ?_
|refine Zbj ?_
|refine Zo 30 Yc hn rfl (by kernel_rfl) rfl ?_
|((first|refine Zc hn rfl rfl rfl ?_|refine Zl rfl rfl ?_);first
|refine⟨_,Zq rfl rfl (by omega),?_⟩
|refine⟨_,Zb rfl rfl (by omega) (by assumption),?_⟩
|refine⟨_,Z7 rfl rfl (by omega),?_⟩)
|(refine Zh rfl rfl rfl ?_ ?_<;>intro h<;>try(exfalso;first|omega|contradiction|(simp only[lmT]at h;omega))))
     exact Z3 (decide_eq_decide.2 ⟨fun h=>hiff.2 ⟨fun k x hk=>hQ k x hk,fun k z hkz=>hP k z (by have:=(Za5.1 hkz).1;omega) hkz,hn1,h⟩,fun h=>(hiff.1 h).2.2.2⟩)
    ·repeat' (first
|refine Zbg Zk hn rfl ?_
|refine Zbh ?_
|refine Za 30 rfl ?_
|((first|refine Zc hn rfl rfl rfl ?_|refine Zl rfl rfl ?_);first
|refine⟨_,Zi hnm rfl,?_⟩
|refine⟨_,Zi hk rfl,?_⟩)
|(refine Zbf 30 rfl ?_;first|refine Zg rfl ?_|refine Zm rfl ?_|((first|refine Zd rfl ?_ ?_|refine Zp rfl ?_ ?_);·first|omega|rfl|assumption|(simp only[lmT];omega))|((first|refine Ze rfl ?_ ?_|refine Zn rfl ?_ ?_);·first|omega|rfl|assumption|(simp only[lmT];omega))|refine Zbe (Zj hm rfl rfl ?_)|exact Zbe (Zf hm rfl rfl rfl (nbT rfl) rfl rfl))
|refine Zs rfl (tl hn rfl) ?_
|refine Zx (tl hn rfl) ?_
|refine Zr rfl rfl rfl rfl (nbT rfl) ?_
|refine Zbi Zk hn rfl rfl ?_
|refine Zbj ?_
|refine Zo 30 Yc hn rfl (by kernel_rfl) rfl ?_
|((first|refine Zc hn rfl rfl rfl ?_|refine Zl rfl rfl ?_);first
|refine⟨_,Zq rfl rfl (by omega),?_⟩
|refine⟨_,Zb rfl rfl (by omega) (by assumption),?_⟩
|refine⟨_,Z7 rfl rfl (by omega),?_⟩)
|(refine Zh rfl rfl rfl ?_ ?_<;>intro h<;>try(exfalso;first|omega|contradiction|(simp only[lmT]at h;omega))))
     all_goals exact Z3 (decide_eq_false (p:=V2 d j) fun hN=>hn1 (hiff.1 hN).2.2.1).symm
 ·have hno:¬V2 d i:=fun⟨h0,r,hr,_⟩=>hx ⟨h0,by have:=(Za5.1 hr).1;omega⟩
  refine Zz Tryz.func101 rfl _ Tryz.ntmps101 (by simp) fun C hn hm=>?_
  repeat' (first
|refine Zbg Zk hn rfl ?_
|refine Zbh ?_
|refine Za 30 rfl ?_
|((first|refine Zc hn rfl rfl rfl ?_|refine Zl rfl rfl ?_);first
|refine⟨_,Zi (Xn _ _ _) rfl,?_⟩)
|(refine Zbf 30 rfl ?_;first|refine Zg rfl ?_|refine Zm rfl ?_|((first|refine Zd rfl ?_ ?_|refine Zp rfl ?_ ?_);·first|omega|rfl|assumption|(simp only[lmT];omega))|((first|refine Ze rfl ?_ ?_|refine Zn rfl ?_ ?_);·first|omega|rfl|assumption|(simp only[lmT];omega))|refine Zbe (Zj hm rfl rfl ?_)|exact Zbe (Zf hm rfl rfl rfl (nbT rfl) rfl rfl))
|refine Zs rfl (tl hn rfl) ?_
|refine Zx (tl hn rfl) ?_
|refine Zr rfl rfl rfl rfl (nbT rfl) ?_
|refine Zbi Zk hn rfl rfl ?_
|refine Zbj ?_
|refine Zo 30 Yc hn rfl (by kernel_rfl) rfl ?_
|((first|refine Zc hn rfl rfl rfl ?_|refine Zl rfl rfl ?_);first
|refine⟨_,Zq rfl rfl (by omega),?_⟩
|refine⟨_,Zb rfl rfl (by omega) (by assumption),?_⟩
|refine⟨_,Z7 rfl rfl (by omega),?_⟩)
|(refine Zh rfl rfl rfl ?_ ?_<;>intro h<;>try(exfalso;first|omega|contradiction|(simp only[lmT]at h;omega))))
  all_goals exact Z3 (decide_eq_false hno).symm
def U5(d:Des):Prop:=1≤d.length∧d.length≤24∧∀j:Nat,j<d.length→V2 d j
noncomputable instance (d:Des):Decidable (U5 d):=Classical.propDecidable _
theorem Kz(d:Des)(ho:H0 d)(hd:Wi d≤1048576):ACv Tryz.prog 65 [X1 d] (.bool (decide (U5 d))):=by
 have hlm:(d.map Xz).length=d.length:=lmT ..
 have et:Wi d=d.length+(d.map Rul.total).sum:=rfl
 refine Zz Tryz.func65 rfl _ Tryz.ntmps65 (by simp) fun C hn hm=>?_
 repeat' (first
|refine Zbg Zk hn rfl ?_
|refine Zbh ?_
|refine Za 30 rfl ?_
|(refine Zbf 30 rfl ?_;first|((first|refine Zd rfl ?_ ?_|refine Zp rfl ?_ ?_);·first|omega|rfl|assumption|(simp only[lmT];omega))|((first|refine Ze rfl ?_ ?_|refine Zn rfl ?_ ?_);·first|omega|rfl|assumption|(simp only[lmT];omega))|refine Zbe (Zj hm rfl rfl ?_)|exact Zbe (Zf hm rfl rfl rfl (nbT rfl) rfl rfl))
|refine Zs rfl (tl hn rfl) ?_
|(refine Zc hn rfl rfl rfl ?_;first
|refine⟨_,Zq rfl rfl (by omega),?_⟩
   ))
 refine Yh 30 rfl (fun j=>[(1,.obj 0 0),(3,.int (j:Int))]) (fun _=>[⟨26,0,[.ro (Wa d)]⟩]) (fun j=>∀k:Nat,k<j→V2 d k) d.length 0 (Nat.zero_le _) (fun k h=>absurd h (by omega)) ⟨rfl,rfl,trivial⟩ rfl fun j hj hQ next=>?_
 by_cases hlt:j<d.length
 ·have hr:=Ty d ho hd j (by unfold I64;omega)
  by_cases hq:V2 d j
  ·repeat' (first
|refine Zbg Zk hn rfl ?_
|refine Zbh ?_
|refine Za 30 rfl ?_
|(refine Zc hn rfl rfl rfl ?_;first
|refine⟨_,Zi hr rfl,?_⟩)
|(refine Zbf 30 rfl ?_;first|((first|refine Zd rfl ?_ ?_|refine Zp rfl ?_ ?_);·first|omega|rfl|assumption|(simp only[lmT];omega))|((first|refine Ze rfl ?_ ?_|refine Zn rfl ?_ ?_);·first|omega|rfl|assumption|(simp only[lmT];omega))|refine Zbe (Zj hm rfl rfl ?_)|exact Zbe (Zf hm rfl rfl rfl (nbT rfl) rfl rfl))
|refine Zs rfl (tl hn rfl) ?_
|(refine Zc hn rfl rfl rfl ?_;first
|refine⟨_,Zq rfl rfl (by omega),?_⟩
    ))
   refine next _ _ ⟨rfl,rfl,trivial⟩ hlt (fun k hk=>?_) rfl
   by_cases e:k=j
   ·subst e;exact hq
   ·exact hQ k (by omega)
  ·repeat' (first
|refine Zbg Zk hn rfl ?_
|refine Zbh ?_
|refine Za 30 rfl ?_
|(refine Zc hn rfl rfl rfl ?_;first
|refine⟨_,Zi hr rfl,?_⟩)
|(refine Zbf 30 rfl ?_;first|((first|refine Zd rfl ?_ ?_|refine Zp rfl ?_ ?_);·first|omega|rfl|assumption|(simp only[lmT];omega))|((first|refine Ze rfl ?_ ?_|refine Zn rfl ?_ ?_);·first|omega|rfl|assumption|(simp only[lmT];omega))|refine Zbe (Zj hm rfl rfl ?_)|exact Zbe (Zf hm rfl rfl rfl (nbT rfl) rfl rfl))
|refine Zs rfl (tl hn rfl) ?_
|(refine Zc hn rfl rfl rfl ?_;first
|refine⟨_,Zq rfl rfl (by omega),?_⟩
    ))
   all_goals exact Z3 (decide_eq_false (p:=U5 d) fun hN=>hq (hN.2.2 j hlt)).symm
 ·repeat' (first
|refine Zbg Zk hn rfl ?_
|refine Zbh ?_
|refine Za 30 rfl ?_
|(refine Zc hn rfl rfl rfl ?_;first
|refine⟨_,Zi (Xn _ _ _) rfl,?_⟩)
|(refine Zbf 30 rfl ?_;first|((first|refine Zd rfl ?_ ?_|refine Zp rfl ?_ ?_);·first|omega|rfl|assumption|(simp only[lmT];omega))|((first|refine Ze rfl ?_ ?_|refine Zn rfl ?_ ?_);·first|omega|rfl|assumption|(simp only[lmT];omega))|refine Zbe (Zj hm rfl rfl ?_)|exact Zbe (Zf hm rfl rfl rfl (nbT rfl) rfl rfl))
|refine Zs rfl (tl hn rfl) ?_
|(refine Zc hn rfl rfl rfl ?_;first
|refine⟨_,Zq rfl rfl (by omega),?_⟩
   ))
  exact Z3 (decide_eq_decide.2 ⟨fun h=>⟨by omega,by omega,fun k hk=>hQ k (by omega)⟩,fun h=>⟨by have:=h.1;omega,by have:=h.2.1;omega⟩⟩)
theorem lim_ge(d:Des)(i:Int):lim d i = -1∨255≤lim d i:=by
 unfold lim
 split
 ·rename_i r _
  split
  ·have:=N7 (s:=r.size);omega
  ·exact .inl rfl
 ·exact .inl rfl
def U6(d:Des)(r:Rul):Prop:=Plain r false false false true ((r.tags.length:Int)+1)∧Tt d r
noncomputable instance (d:Des) (r:Rul):Decidable (U6 d r):=Classical.propDecidable _
set_option maxHeartbeats 4000000 in
theorem Bm(d:Des)(r:Rul)(hl:d.length≤maxLen)(ht:r.tags.length≤1048576):ACv Tryz.prog 100 [X1 d,.agg (Xz r)] (.bool (decide (U6 d r))):=by
 have hlm:(r.tags.map fun z=>[RV.int z]).length=r.tags.length:=lmT ..
 have hpl:=Gw r ((r.tags.length:Int)+1)
 refine Zz Tryz.func100 rfl _ Tryz.ntmps100 (by simp) fun C hn hm=>?_
 by_cases hP:Plain r false false false true ((r.tags.length:Int)+1)
 ·by_cases h8:InR r.tags.length 1 8
  ·have hkl:r.kids.length=r.tags.length+1:=by have:=hP.2.2.2.2;omega
   have hk0:=Td (l:=r.kids) (by omega)
   have hlim:=Kq d (r.kids.headD 0) hl
   have hge:=lim_ge d (r.kids.headD 0)
   repeat' (first
|refine Zbg Zk hn rfl ?_
|refine Zbh ?_
|refine Za 30 rfl ?_
|((first|refine Zc hn rfl rfl rfl ?_|refine Zl rfl rfl ?_);first
|refine⟨_,Zq rfl rfl (by simp only[lmT];omega),?_⟩
|refine⟨_,Zi hpl (by simp[ev,look,Xz]),?_⟩
|refine⟨_,Zi (Y2 _ _ _) rfl,?_⟩
|refine⟨_,Zi hlim rfl,?_⟩)
|(refine Zbf 30 rfl ?_;first|refine Zg rfl ?_|refine Zm rfl ?_|((first|refine Zd rfl ?_ ?_|refine Zp rfl ?_ ?_);·first|omega|rfl|assumption|(simp only[lmT];omega))|((first|refine Ze rfl ?_ ?_|refine Zn rfl ?_ ?_);·first|omega|rfl|assumption|(simp only[lmT];omega))|refine Z1 rfl (fun h=>?_) (fun h=>?_)|refine Zbe (Zj hm rfl rfl ?_)|exact Zbe (Zf hm rfl rfl rfl (nbT rfl) rfl rfl))
|refine Zs rfl (tl hn rfl) ?_
|refine Zbi Zk hn rfl rfl ?_
|refine Zbj ?_
|refine Zo 30 Yc hn rfl (by kernel_rfl) rfl ?_
|((first|refine Zc hn rfl rfl rfl ?_|refine Zl rfl rfl ?_);first
|refine⟨_,Zq rfl rfl (by omega),?_⟩
|refine⟨_,Zb rfl rfl (by omega) (by assumption),?_⟩
|refine⟨_,Z7 rfl rfl (by omega),?_⟩)
|((first|refine Zh rfl rfl rfl ?_ ?_|refine Zy rfl rfl rfl ?_ ?_)<;>intro h<;>try(exfalso;first|omega|contradiction|(simp only[lmT]at h;omega))))
   refine Tk 30 rfl (fun j=>[(29,.ro (Xe r.tags)),(30,.int (r.tags.length:Int)),(3,.obj 1 0),(5,.int (lim d (r.kids.headD 0))),(31,.int (j:Int))]) (fun _=>[⟨26,0,[.ro (Wa d)]⟩,⟨78,0,[.str r.name,.int r.kind,.int r.size,.bool r.little,.ro (Ya r.bytes),.ro (Vw r.names),.ro (Xe r.tags),.ro (Xe r.kids)]⟩]) (fun j=>⟨by simp[Free,AV.only],by simp[FreeO,AV.onlys,AV.only]⟩) (fun j=>∀(i:Nat) z,i<j→r.tags[i]?=some z→0≤z∧z≤lim d (r.kids.headD 0)∧∀y,0<i→r.tags[i-1]?=some y→y<z) r.tags.length 0 (Nat.zero_le _) (fun i x h=>absurd h (by omega)) ⟨rfl,by simp[look],rfl,rfl,rfl,trivial⟩ rfl fun j hj hQ next=>?_
   by_cases hlt:j<r.tags.length
   ·obtain⟨x,hx⟩:∃x,r.tags[(j:Int).toNat]?=some x:=⟨_,Za6 hlt⟩
    have hx':r.tags[j]?=some x:=hx
    obtain⟨y,hy⟩:∃y,r.tags[((j:Int)-1).toNat]?=some y:=⟨_,Za6 (by omega)⟩
    have hy':0<j→r.tags[j-1]?=some y:=fun h=>by rw[←hy];congr 1;omega
    repeat' (first
|refine Zbg Zk hn rfl ?_
|refine Zbh ?_
|refine Za 30 rfl ?_
|((first|refine Zc hn rfl rfl rfl ?_|refine Zl rfl rfl ?_);first
|refine⟨_,Zi (Y2 _ _ _) rfl,?_⟩)
|(refine Zbf 30 rfl ?_;first|refine Zg rfl ?_|refine Zm rfl ?_|((first|refine Zd rfl ?_ ?_|refine Zp rfl ?_ ?_);·first|omega|rfl|assumption|(simp only[lmT];omega))|((first|refine Ze rfl ?_ ?_|refine Zn rfl ?_ ?_);·first|omega|rfl|assumption|(simp only[lmT];omega))|refine Z1 rfl (fun h=>?_) (fun h=>?_)|refine Zbe (Zj hm rfl rfl ?_)|exact Zbe (Zf hm rfl rfl rfl (nbT rfl) rfl rfl))
|refine Zs rfl (tl hn rfl) ?_
|refine Zbi Zk hn rfl rfl ?_
|refine Zbj ?_
|refine Zo 30 Yc hn rfl (by kernel_rfl) rfl ?_
|((first|refine Zc hn rfl rfl rfl ?_|refine Zl rfl rfl ?_);first
|refine⟨_,Zq rfl rfl (by omega),?_⟩
|refine⟨_,Zb rfl rfl (by omega) (by assumption),?_⟩
|refine⟨_,Z7 rfl rfl (by omega),?_⟩)
|((first|refine Zh rfl rfl rfl ?_ ?_|refine Zy rfl rfl rfl ?_ ?_)<;>intro h<;>try(exfalso;first|omega|contradiction|(simp only[lmT]at h;omega))))
    all_goals first
     |exact Z3 (decide_eq_false (p:=U6 d r) fun hN=>by
       obtain⟨n1,n2,n3⟩:=hN.2.2.2.2 j x hx'
       first|omega|(have:=n3 y (by omega) (hy' (by omega));omega)).symm
     |(refine next _ _ [] ⟨rfl,rfl,rfl,rfl,rfl,trivial⟩ hlt (fun i z hi hz=>?_) rfl
       by_cases e:i=j
       ·subst e;rw[hx']at hz;injection hz with hz;subst hz
        refine⟨by omega,by omega,fun u hu hu'=>?_⟩
        rw[hy' hu]at hu';injection hu' with hu';subst hu';omega
       ·exact hQ i z (by omega) hz)
   ·repeat' (first
|refine Zbg Zk hn rfl ?_
|refine Zbh ?_
|refine Za 30 rfl ?_
|(refine Zbf 30 rfl ?_;first|refine Zg rfl ?_|refine Zm rfl ?_|((first|refine Zd rfl ?_ ?_|refine Zp rfl ?_ ?_);·first|omega|rfl|assumption|(simp only[lmT];omega))|((first|refine Ze rfl ?_ ?_|refine Zn rfl ?_ ?_);·first|omega|rfl|assumption|(simp only[lmT];omega))|refine Z1 rfl (fun h=>?_) (fun h=>?_)|refine Zbe (Zj hm rfl rfl ?_)|exact Zbe (Zf hm rfl rfl rfl (nbT rfl) rfl rfl))
|refine Zs rfl (tl hn rfl) ?_
|refine Zbi Zk hn rfl rfl ?_
|refine Zbj ?_
|refine Zo 30 Yc hn rfl (by kernel_rfl) rfl ?_
|((first|refine Zc hn rfl rfl rfl ?_|refine Zl rfl rfl ?_);first
|refine⟨_,Zq rfl rfl (by omega),?_⟩
|refine⟨_,Zb rfl rfl (by omega) (by assumption),?_⟩
|refine⟨_,Z7 rfl rfl (by omega),?_⟩)
|((first|refine Zh rfl rfl rfl ?_ ?_|refine Zy rfl rfl rfl ?_ ?_)<;>intro h<;>try(exfalso;first|omega|contradiction|(simp only[lmT]at h;omega))))
    obtain⟨z0,hz0⟩:∃z,r.tags[0]?=some z:=⟨_,Za6 (by omega)⟩
    have hz:=hQ 0 z0 (by omega) hz0
    exact Z3 (by rw[decide_eq_true (p:=U6 d r) ⟨hP,hkl,by omega,by omega,fun i z hz=>hQ i z (by have:=(Za5.1 hz).1;omega) hz⟩];exact decide_eq_true (by omega))
  ·repeat' (first
|refine Zbg Zk hn rfl ?_
|refine Zbh ?_
|refine Za 30 rfl ?_
|((first|refine Zc hn rfl rfl rfl ?_|refine Zl rfl rfl ?_);first
|refine⟨_,Zq rfl rfl (by simp only[lmT];omega),?_⟩
|refine⟨_,Zi hpl (by simp[ev,look,Xz]),?_⟩
|refine⟨_,Zi (Y2 _ _ _) rfl,?_⟩)
|(refine Zbf 30 rfl ?_;first|refine Zg rfl ?_|refine Zm rfl ?_|((first|refine Zd rfl ?_ ?_|refine Zp rfl ?_ ?_);·first|omega|rfl|assumption|(simp only[lmT];omega))|((first|refine Ze rfl ?_ ?_|refine Zn rfl ?_ ?_);·first|omega|rfl|assumption|(simp only[lmT];omega))|refine Z1 rfl (fun h=>?_) (fun h=>?_)|refine Zbe (Zj hm rfl rfl ?_)|exact Zbe (Zf hm rfl rfl rfl (nbT rfl) rfl rfl))
|refine Zs rfl (tl hn rfl) ?_
|refine Zbi Zk hn rfl rfl ?_
|refine Zbj ?_
|refine Zo 30 Yc hn rfl (by kernel_rfl) rfl ?_
|((first|refine Zc hn rfl rfl rfl ?_|refine Zl rfl rfl ?_);first
|refine⟨_,Zq rfl rfl (by omega),?_⟩
|refine⟨_,Zb rfl rfl (by omega) (by assumption),?_⟩
|refine⟨_,Z7 rfl rfl (by omega),?_⟩)
|((first|refine Zh rfl rfl rfl ?_ ?_|refine Zy rfl rfl rfl ?_ ?_)<;>intro h<;>try(exfalso;first|omega|contradiction|(simp only[lmT]at h;omega))))
   all_goals exact Z3 (decide_eq_false (p:=U6 d r) fun hN=>h8 ⟨by have:=hN.2.2.1;omega,by have:=hN.2.2.2.1;omega⟩).symm
 ·repeat' (first
|refine Zbg Zk hn rfl ?_
|refine Zbh ?_
|refine Za 30 rfl ?_
|((first|refine Zc hn rfl rfl rfl ?_|refine Zl rfl rfl ?_);first
|refine⟨_,Zq rfl rfl (by simp only[lmT];omega),?_⟩
|refine⟨_,Zi hpl (by simp[ev,look,Xz]),?_⟩
|refine⟨_,Zi (Y2 _ _ _) rfl,?_⟩)
|(refine Zbf 30 rfl ?_;first|refine Zg rfl ?_|refine Zm rfl ?_|((first|refine Zd rfl ?_ ?_|refine Zp rfl ?_ ?_);·first|omega|rfl|assumption|(simp only[lmT];omega))|((first|refine Ze rfl ?_ ?_|refine Zn rfl ?_ ?_);·first|omega|rfl|assumption|(simp only[lmT];omega))|refine Z1 rfl (fun h=>?_) (fun h=>?_)|refine Zbe (Zj hm rfl rfl ?_)|exact Zbe (Zf hm rfl rfl rfl (nbT rfl) rfl rfl))
|refine Zs rfl (tl hn rfl) ?_
|refine Zbi Zk hn rfl rfl ?_
|refine Zbj ?_
|refine Zo 30 Yc hn rfl (by kernel_rfl) rfl ?_
|((first|refine Zc hn rfl rfl rfl ?_|refine Zl rfl rfl ?_);first
|refine⟨_,Zq rfl rfl (by omega),?_⟩
|refine⟨_,Zb rfl rfl (by omega) (by assumption),?_⟩
|refine⟨_,Z7 rfl rfl (by omega),?_⟩)
|((first|refine Zh rfl rfl rfl ?_ ?_|refine Zy rfl rfl rfl ?_ ?_)<;>intro h<;>try(exfalso;first|omega|contradiction|(simp only[lmT]at h;omega))))
  all_goals exact Z3 (decide_eq_false (p:=U6 d r) fun hN=>hP hN.1).symm
end Go.Proofs.YtnecoghfhcimeaaGreat
