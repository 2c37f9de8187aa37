/- Gathered texts. -/
import Derived.Test.YtnecoghfhcimeaaGreatGat0
import Derived.Deep.Slices
import Derived.ChangeArms
import Derived.DataReads
import Derived.Great.BuildSlice
import Derived.Laws.Slices
import Derived.Laws.RangeString
import Derived.StillTail
/- What comes in as an argument, of whatever plain type, reads as data. Over any program. -/
namespace Go.Proofs.YtnecoghfhcimeaaGreat
set_option linter.unusedSimpArgs false
set_option linter.unusedVariables false
set_option linter.unusedSectionVars false
open Go.RowKit Go.ChangeShapes Go.WideShapes
def tile(P:Program):Nat→List Field→Nat→Bool
 |o,[],n=>Nat.beq o n
 |o,f::fs,n=>Nat.beq f.offset o&&tile P (o+P.cellsOf f.type) fs n
def typB(P:Program)(T:List Nat)(t:Nat):Bool:=match P.underlying t with
 |some (.int _)|some .bool|some .string=>Nat.beq (P.cellsOf t) 1
 |some (.slice e)=>Ar T e&&Nat.beq (P.cellsOf t) 1&&Nat.ble 1 (P.cellsOf e)
 |some (.struct fs)=>fs.toList.all (fun f=>Ar T f.type)&&tile P 0 fs.toList (P.cellsOf t)
 |_=>false
inductive TyC (P:Program):TypeId→List RV→Prop
 |int {t:TypeId} {k:IntKind} {n:Int} (h:P.underlying t=some (.int k)) (wf:(Lit.int k n).wf=true):TyC P t [.c (.int k n)]
 |bool {t:TypeId} {b:Bool} (h:P.underlying t=some .bool):TyC P t [.bool b]
 |str {t:TypeId} {s:ByteArray} (h:P.underlying t=some .string) (hs:s.size≤maxLen):TyC P t [.str s]
 |slice {t e:TypeId} {els:List (List RV)} (h:P.underlying t=some (.slice e)) (hl:els.length≤maxLen) (hels:∀el∈els,TyC P e el):TyC P t [.seq (P.cellsOf e) els]
 |struct {t:TypeId} {fs:Array Field} {cells:List (List RV)} (h:P.underlying t=some (.struct fs)) (hl:cells.length=fs.size) (hc:∀(j:Nat) f c,fs[j]?=some f→cells[j]?=some c→TyC P f.type c):TyC P t cells.flatten
section
variable{w:World}{ok:Nat→Prop}
theorem Sj:∀{ps bs:List RV} {us vs:List Value},RV.rels w ok ps us→RV.rels w ok bs vs→RV.rels w ok (ps++bs) (us++vs)
 | [],bs,us,vs,h1,h2=>by simp only[RV.rels]at h1;subst h1;simpa using h2
 |a::ps,bs,us,vs,h1,h2=>by
  simp only[RV.rels]at h1
  obtain⟨u,us',rfl,k1,k2⟩:=h1
  simp only[List.cons_append,RV.rels]
  exact⟨u,us'++vs,rfl,k1,Sj k2 h2⟩
end
theorem list_of'{α:Type}{Q:Nat→α→Prop}:∀n,(∀i,i<n→∃x,Q i x)→∃l:List α,l.length=n∧∀(i:Nat) x,l[i]?=some x→Q i x:=by
 intro n
 induction n with
 |zero=>intro _;exact⟨[],rfl,fun i x h=>by simp at h⟩
 |succ n ih=>
  intro h
  obtain⟨l,hl,hP⟩:=ih (fun i hi=>h i (by omega))
  obtain⟨x,hx⟩:=h n (by omega)
  refine⟨l++[x],by simp[hl],fun i y hi=>?_⟩
  rcases Nat.lt_or_ge i n with hlt|hge
  ·rw[Zbc (by omega)]at hi;exact hP i y hi
  ·rw[Zbd (by omega),hl]at hi
   have:i-n=0:=by have:=(Za5.1 hi).1;simp at this;omega
   rw[this]at hi;simp at hi;subst hi
   have:i=n:=by omega
   subst this;exact hx
section
variable{H:Type}{enc:TypeId×Value→H}{P:Program}{w:World}{base b0:Nat}{spare:Nat→Bool}{held:Bool}{r:Reach}{T:List Nat}
theorem Db{cs:List Value}{total:Nat}(hcs:cs.length=total):∀(fs:List Field) (o:Nat),tile P o fs total=true →
  (∀f∈fs,∃rc,TyC P f.type rc∧RV.Rels w rc ((cs.drop f.offset).take (P.cellsOf f.type))∧∀u∈(cs.drop f.offset).take (P.cellsOf f.type),u.oneCell'=true) →
  ∃cells:List (List RV),cells.length=fs.length∧(∀(j:Nat) f c,fs[j]?=some f→cells[j]?=some c→TyC P f.type c)∧RV.Rels w cells.flatten (cs.drop o)∧∀u∈cs.drop o,u.oneCell'=true
 | [],o,ht,_=>by
  simp only[tile]at ht
  have:=Nat.eq_of_beq_eq_true ht
  have e:cs.drop o=[]:=List.drop_eq_nil_of_le (by omega)
  rw[e]
  exact⟨[],rfl,fun j f c h=>by simp at h,by simp[RV.rels],by simp⟩
 |f::fs,o,ht,h=>by
  simp only[tile,Bool.and_eq_true]at ht
  have ho:=Nat.eq_of_beq_eq_true ht.1
  obtain⟨rc,h1,h2,h3⟩:=h f (by simp)
  obtain⟨cells,k1,k2,k3,k4⟩:=Db hcs fs _ ht.2 (fun g hg=>h g (by simp[hg]))
  rw[ho]at h2 h3
  have e:cs.drop o=(cs.drop o).take (P.cellsOf f.type)++cs.drop (o+P.cellsOf f.type):=by
   rw[←List.drop_drop,List.take_append_drop]
  refine⟨rc::cells,by simp[k1],fun j g c hj hc=>?_,?_,?_⟩
  ·cases j with
   |zero=>simp at hj hc;subst hj;subst hc;exact h1
   |succ j=>simp at hj hc;exact k2 j g c hj hc
  ·rw[e,List.flatten_cons];exact Sj h2 k3
  ·rw[e]
   intro u hu
   rcases List.mem_append.1 hu with h|h
   ·exact h3 u h
   ·exact k4 u h
theorem open_ty(hT:(T.all (typB P T))=true):∀(fuel:Nat) (t:TypeId) (cs:List Value) (x:DataW H×List MemPlace),Ar T t=true→DataW.trod enc P w base spare held fuel t cs=some x →
  ∃rcs,TyC P t rcs∧RV.Rels w rcs cs∧∀u∈cs,u.oneCell'=true:=by
 intro fuel
 induction fuel with
 |zero=>intro t cs x _ h;simp[DataW.trod]at h
 |succ fuel ih=>
  intro t cs x ht h
  have hb:=List.all_eq_true.1 hT _ (Lk ht)
  unfold typB at hb
  split at hb
  ·rename_i k hu
   obtain⟨n,rfl,_,wf⟩:=DataW.trod_int hu h
   exact⟨[.c (.int k n)],.int hu wf,by simp[RV.rels,RV.rel],by simp[Value.oneCell']⟩
  ·rename_i hu
   obtain⟨b,rfl,_⟩:=DataW.trod_bool hu h
   exact⟨[.bool b],.bool hu,by simp[RV.rels,RV.rel],by simp[Value.oneCell']⟩
  ·rename_i hu
   obtain⟨s,rfl,_,hs⟩:=DataW.trod_string hu h
   exact⟨[.str s],.str hu hs,by simp[RV.rels,RV.rel],by simp[Value.oneCell']⟩
  ·rename_i e hu
   simp only[Bool.and_eq_true]at hb
   have hpos:=nbT hb.2
   rcases DataW.trod_slice hu h with⟨rfl,_⟩|⟨a,len,cap,elems,rest,n,hf,rfl,_,_,h1,h2,h3,h4,_⟩
   ·refine⟨[.seq (P.cellsOf e) []],.slice hu (Nat.zero_le _) (by simp),?_,by simp[Value.oneCell']⟩
    simp only[RV.rels,RV.rel]
    exact⟨_,_,rfl,⟨none,0,0,rfl,rfl,Nat.le_refl _,Nat.zero_le _,fun h=>absurd h (by omega)⟩,rfl⟩
   ·have hn:n=fuel:=by omega
    subst hn
    have hel:∀i,i<len→∃rc:List RV,TyC P e rc∧rc.length=P.cellsOf e∧∀(j:Nat) rr,rc[j]?=some rr→∃u,w.cell? (a.add (i*P.cellsOf e+j))=some u∧u.oneCell'=true∧RV.Rel w rr u:=by
     intro i hi
     have h5:=h4 i hi
     rw[Za6 (by omega:i<elems.length)]at h5
     obtain⟨cs',hc',ht'⟩:=Option.bind_eq_some_iff.1 h5
     obtain⟨rc,r1,r2,r3⟩:=ih e cs' _ hb.1.1 ht'
     obtain⟨_,hl',hat⟩:=World.cells?_some hc'
     have hlen:=RV.rels_len rc cs' r2
     refine⟨rc,r1,by omega,fun j rr hj=>?_⟩
     obtain⟨u,e1,e2⟩:=RV.rels_at rc cs' r2 j rr hj
     have hjl:=(Za5.1 hj).1
     refine⟨u,?_,r3 u (Zba e1),e2⟩
     rw[←Go.Deep.add_add,hat j (by omega),e1]
    obtain⟨els,l1,l2⟩:=list_of' len hel
    refine⟨[.seq (P.cellsOf e) els],.slice hu (by omega) (fun el hel=>?_),?_,by simp[Value.oneCell']⟩
    ·obtain⟨i,hi,rfl⟩:=List.getElem_of_mem hel
     exact(l2 i _ (Za6 hi)).1
    ·simp only[RV.rels,RV.rel]
     refine⟨_,_,rfl,⟨some a,len,cap,rfl,l1.symm,h1,h2,fun hn=>?_⟩,rfl⟩
     obtain⟨rc0,q1,q2,q3⟩:=hel 0 hn
     obtain⟨u0,q4,_⟩:=q3 0 rc0[0] (Za6 (by omega))
     have hx:=Zay (x:=a) (w:=w) (b:=u0) (by simpa using q4)
     refine⟨a.block,a.off,by rw[←hx],?_,trivial,RV.relE_of _ _ _ fun k el hk=>?_⟩
     ·rw[Nat.zero_mul,Nat.zero_add]at q4
      have:=World.block_lt_of_cell? w _ q4
      rwa [hx,add_lit]at this
     ·obtain⟨_,z1,z2⟩:=l2 k el hk
      refine⟨z1,RV.relAt_of _ _ fun j rr hj=>?_⟩
      obtain⟨u,e1,e2,e3⟩:=z2 j rr hj
      rw[hx,add_lit]at e1
      exact⟨u,by rw[Nat.add_assoc];exact e1,e2,e3⟩
  ·rename_i fs hu
   simp only[Bool.and_eq_true]at hb
   obtain⟨xs,n,hf,_,hl,hxl,hfl⟩:=DataW.trod_struct hu h
   have hn:n=fuel:=by omega
   subst hn
   obtain⟨cells,c1,c2,c3,c4⟩:=Db (P:=P) (w:=w) hl fs.toList 0 hb.2 (fun f hfm=>by
    obtain⟨i,hi,rfl⟩:=List.getElem_of_mem hfm
    have hi':i<fs.size:=by simpa using hi
    have h5:=hfl i fs.toList[i] (by simp[hi'])
    rw[Za6 (by omega:i<xs.length)]at h5
    exact ih _ _ _ (List.all_eq_true.1 hb.1 _ hfm) h5)
   simp only[List.drop_zero]at c3 c4
   exact⟨_,.struct hu (by simpa using c1) (fun j f c hj hc=>c2 j f c (by simpa using hj) hc),c3,c4⟩
  ·cases hb
theorem open_arg(hT:(T.all (typB P T))=true){t:TypeId}(ht:Ar T t=true){v:Value}{d:DataW H}{p:List MemPlace}(h:DataW.Trod enc P w base spare held t v d p) :
  ∃rcs,TyC P t rcs∧RV.Rels w rcs v.cells.toList∧∀u∈v.cells.toList,u.oneCell'=true:=by
 obtain⟨fuel,hf⟩:=h
 exact open_ty hT fuel t _ _ ht hf
end
section
variable{P:Program}{t e:TypeId}{rcs:List RV}
theorem TyC.inv_int{k:IntKind}(h:TyC P t rcs)(hu:P.underlying t=some (.int k)):∃n,rcs=[.c (.int k n)]∧(Lit.int k n).wf=true:=by
 cases h with
 |int h wf=>rw[hu]at h;injection h with h;injection h with h;subst h;exact⟨_,rfl,wf⟩
 |bool h=>rw[hu]at h;cases h
 |str h=>rw[hu]at h;cases h
 |slice h=>rw[hu]at h;cases h
 |struct h=>rw[hu]at h;cases h
theorem TyC.inv_slice(h:TyC P t rcs)(hu:P.underlying t=some (.slice e)):∃els,rcs=[.seq (P.cellsOf e) els]∧els.length≤maxLen∧∀el∈els,TyC P e el:=by
 cases h with
 |int h wf=>rw[hu]at h;cases h
 |bool h=>rw[hu]at h;cases h
 |str h=>rw[hu]at h;cases h
 |slice h hl hels=>rw[hu]at h;injection h with h;injection h with h;subst h;exact⟨_,rfl,hl,hels⟩
 |struct h=>rw[hu]at h;cases h
theorem TyC.inv_struct{fs:Array Field}(h:TyC P t rcs)(hu:P.underlying t=some (.struct fs)):∃cells:List (List RV),rcs=cells.flatten∧cells.length=fs.size∧∀(j:Nat) f c,fs[j]?=some f→cells[j]?=some c→TyC P f.type c:=by
 cases h with
 |int h wf=>rw[hu]at h;cases h
 |bool h=>rw[hu]at h;cases h
 |str h=>rw[hu]at h;cases h
 |slice h=>rw[hu]at h;cases h
 |struct h hl hc=>rw[hu]at h;injection h with h;injection h with h;subst h;exact⟨_,rfl,hl,hc⟩
theorem els_of{α:Type}{f:α→List RV}{Q:α→Prop}:∀{els:List (List RV)},(∀el∈els,∃x,el=f x∧Q x)→∃l:List α,els=l.map f∧∀x∈l,Q x
 | [],_=>⟨[],rfl,by simp⟩
 |el::els,h=>by
  obtain⟨x,rfl,hx⟩:=h el (by simp)
  obtain⟨l,e,hl⟩:=els_of (els:=els) (fun e he=>h e (List.mem_cons_of_mem _ he))
  exact⟨x::l,by rw[e];rfl,by simpa using ⟨hx,hl⟩⟩
end
open Go.RowKit
section
variable{P:Program}{C:Ctx}{ops:Array Oper}{rest:List Oper}{k:List Item}{R:Act→World→Prop}{env:Env}{σ:List Ob}{t:Nat}{ty:TypeId}{pos:String}{after:Array Edge}
section
variable{x y:Code}{φ:Prop}[Decidable φ]
theorem Zd(hc:look env t = .bool (decide φ))(hφ:φ)(h:Runs P C (.code x::k) R ⟨(t,.bool true)::env,σ⟩):Runs P C (.code (.cond (.tmp t) x y)::k) R ⟨env,σ⟩:=Z1 hc (fun _=>h) (fun h=>absurd hφ h)
theorem Ze(hc:look env t = .bool (decide φ))(hφ:¬φ)(h:Runs P C (.code y::k) R ⟨(t,.bool false)::env,σ⟩):Runs P C (.code (.cond (.tmp t) x y)::k) R ⟨env,σ⟩:=Z1 hc (fun h=>absurd h hφ) (fun _=>h)
theorem Zn(hc:look env t = .bool (!decide φ))(hφ:¬φ)(h:Runs P C (.code x::k) R ⟨(t,.bool true)::env,σ⟩):Runs P C (.code (.cond (.tmp t) x y)::k) R ⟨env,σ⟩:=Z8 hc (fun _=>h) (fun h=>absurd h hφ)
theorem Zp(hc:look env t = .bool (!decide φ))(hφ:φ)(h:Runs P C (.code y::k) R ⟨(t,.bool false)::env,σ⟩):Runs P C (.code (.cond (.tmp t) x y)::k) R ⟨env,σ⟩:=Z8 hc (fun h=>absurd hφ h) (fun _=>h)
end
theorem tl{C:Ctx}{t m:Nat}(hn:C.n=m)(h:Nat.ble (t+1) m=true):t<C.n:=Nat.lt_of_lt_of_eq (nbT h) hn.symm
theorem Zc{o:Oper}{m:Nat}(hn:C.n=m)(hg:o.guard=none)(hd:o.dst=some t)(ht:Nat.ble (t+1) m=true)(h:∃v,Pur P C o env σ v∧RunsL P C ops rest k R ⟨(t,v)::env,σ⟩):RunsL P C ops (o::rest) k R ⟨env,σ⟩:=by
 obtain⟨v,h,hk⟩:=h
 exact RunsL.pur h hg hd (tl hn ht) hk
theorem Zl{o:Oper}(hg:gsay ops env o.guard=some true)(hd:o.dst=some t)(h:∃v,Pur P C o env σ v∧RunsD P C ops rest k R ⟨(t,v)::env,σ⟩):RunsD P C ops (o::rest) k R ⟨env,σ⟩:=by
 obtain⟨v,h,hk⟩:=h
 exact RunsD.pur h hg hd hk
theorem Yh(m:Nat){c:Code}{k':List Item}(hc:Proofs.YtnecoghfhcimeaaGreat.ctls m k = .code (.loop c)::k')(E:Nat→Env)(s:Nat→List Ob)(Q:Nat→Prop)(len:Nat)(j0:Nat)(hj0:j0≤len)(h0:Q j0)(henv:Sub (E j0) env)(hs:s j0=σ)
  (round:∀j,j≤len→Q j→(∀env' σ',Sub (E (j+1)) env'→j<len→Q (j+1)→s (j+1)=σ'→Runs P C (.inLoop c::k') R ⟨env',σ'⟩)→Runs P C (.code c :: .inLoop c::k') R ⟨E j,s j⟩) :
  Runs P C k R ⟨env,σ⟩:=by
 refine Zbf m hc ?_
 subst hs
 refine Runs.keep (E j0) henv ?_
 refine Runs.loop (fun n S=>∃j,j+n=len∧Q j∧S=⟨E j,s j⟩) (fun n S hI ih=>?_) (len-j0) ⟨j0,by omega,h0,rfl⟩
 obtain⟨j,hj,hQ,rfl⟩:=hI
 refine round j (by omega) hQ fun env' σ' hsub hlt hQ' hσ=>?_
 subst hσ
 exact Runs.keep _ hsub (ih (n-1) (by omega) _ ⟨j+1,by omega,hQ',rfl⟩)
theorem W5(m:Nat){c:Code}{k':List Item}(hc:Proofs.YtnecoghfhcimeaaGreat.ctls m k = .code (.loop c)::k')(I:Nat→Env→List Ob→Prop)(n:Nat)(env0:Env)(henv:Sub env0 env)(h0:I n env0 σ)
  (round:∀n E s,I n E s→(∀n' E' env' s',n'<n→I n' E' s'→Sub E' env'→Runs P C (.inLoop c::k') R ⟨env',s'⟩)→Runs P C (.code c :: .inLoop c::k') R ⟨E,s⟩) :
  Runs P C k R ⟨env,σ⟩:=by
 refine Zbf m hc (Runs.keep env0 henv ?_)
 refine Runs.loop (fun n S=>I n S.env S.σ) (fun n S hI ih=>?_) n h0
 obtain⟨E,s⟩:=S
 exact round n E s hI fun n' E' env' s' hn hI' hsub=>Runs.keep _ hsub (ih n' hn ⟨E',s'⟩ hI')
end
theorem Xl{P:Program}{C:Ctx}{fn:Func}{R:RR→Prop}{S:St}{t i sz:Nat}{e:TypeId}{cs:List AV}{rs:List RV}(hm:∀b,¬C.mu b)(hr:fn.results=#[.tmp t])(hx:look S.env t = .own i)(ho:S.σ[i]?=some ⟨e,sz,cs⟩)(hc:cs=rs.map .ro)(hR:R (.row e sz rs)):∀a w,Sim C S a w→R7 P C fn R a w:=
 ends1 hm hr _ rfl (.row e sz rs) [i] (by simp only[Kx];exact⟨i,hx,by rw[ho,hc],rfl⟩) (by simp) hR
theorem Z3{a b:Bool}(h:a=b):RR.ro (.bool a) = .ro (.bool b):=by rw[h]
theorem Xu{a b:Int}(h:a=b):RR.ro (.int a) = .ro (.int b):=by rw[h]
theorem rr_ro{a b:RV}(h:a=b):RR.ro a = .ro b:=by rw[h]
def Xe(l:List Int):RV:=.seq 1 (l.map fun z=>[.int z])
def Ya(l:List UInt8):RV:=.seq 1 (l.map fun z=>[.u8 z])
def Vw(l:List ByteArray):RV:=.seq 1 (l.map fun z=>[.str z])
theorem AC.calls{P:Program}{f:FuncId}{args:List RV}{R:RR→Prop}(h:AC P f args R)(w:World)(us:Array Value)(hu:RV.Rels w args us.toList) :
  Calls P f us w fun e w'=>∃u rr bs,e = .returned u∧R rr∧RR.rel w' (fun b=>b∉bs) rr u bs∧bs.Nodup∧(∀b∈bs,w.heap.size≤b∧b<w'.heap.size)∧Below w.heap.size w w':=
 (h w (fun _=>True) us (fun _ _=>trivial) hu).mono fun _ _ ⟨u,rr,bs,e,h1,h2,h3⟩=>⟨u,rr,bs,e,h1,RR.rel_mono (fun _ hb=>hb.2) _ _ _ h2,h3⟩
theorem AC.law{P:Program}{f:FuncId}{args:List RV}(h:ACv P f args (.bool true))(w:World)(us:Array Value)(hu:RV.Rels w args us.toList) :
  Calls P f us w fun e w'=>e = .returned (.bool true)∧Below w.heap.size w w':=
 (h.calls w us hu).mono fun _ _ ⟨u,rr,bs,e,h1,h2,_,_,h5⟩=>by
  subst h1
  simp only[RR.rel,RV.rel]at h2
  rw[e,h2.1]
  exact⟨rfl,h5⟩
open AV (Mem Wn)
theorem AC.shut{P:Program}{f:FuncId}{args:List RV}{R:RR→Prop}{r:RV}(h:AC P f args R)(hs:∀rr,R rr→Seals rr r):ACv P f args r:=
 fun w ok us h0 hu=>(h w ok us h0 hu).mono fun _ _ ⟨u,rr,bs,e,h1,h2,h3,h4,h5⟩=>⟨u,.ro r,[],e,rfl,by
  simp only[RR.rel]
  exact⟨seals_rel (fun b hb=>⟨hb.1,by simp⟩) rr r u bs (hs rr h1) h2 (fun b hb=>⟨h0 b (h4 b hb).1,by simp⟩),trivial⟩,by simp,by simp,h5⟩
section
variable{P:Program}{C:Ctx}{fn:Func}{R:RR→Prop}{S:St}{a:Act}{w:World}
theorem Or{x:ResultVar}{v:AV}{r:RV}(hm:∀b,¬C.mu b)(hr:fn.results=#[x])(hx:H3 P S x v)(hR:R (.ro r))(hl:Lends C S.σ v r):∀a w,Sim C S a w→R7 P C fn R a w:=by
 intro a w ⟨h1,h2,φ,hG,hH⟩
 obtain⟨u,k1,k2⟩:=Ld (P:=P) hG hH x v hx
 have hrel:=hl ⟨w,φ,S.σ,C.ok⟩ u C.ok hG rfl (fun b hb=>hb.1) (fun i g hi hg=>hG.frm.new g ((hG.mine i g hi hg).resolve_left (hm g))) k2
 exact⟨h1,u,by rw[W3,hr];simp[k1],.ro r,[],hR,by simp only[RR.rel];exact⟨RV.rel_mono ⟨Nat.le_refl _,fun b _ hb=>⟨⟨hb,by simp⟩,rfl⟩⟩ r u hrel,trivial⟩,by simp,by simp,hG.frm.below0 hm⟩
theorem Zf{p ty n i off:Nat}{o:Ob}{rs:List RV}[ht:TN P ty n](hm:∀b,¬C.mu b)(hr:fn.results=#[.cell p ty])(h1:look S.env p = .obj i off)(h2:S.σ[i]?=some o)(h3:off+n≤o.cs.length)(hR:R (.ro (.agg rs)))(hc:(o.cs.drop off).take n=rs.map .ro):∀a w,Sim C S a w→R7 P C fn R a w:=
 Or (v:=.agg ((o.cs.drop off).take n)) hm hr (by simp only[H3];exact⟨i,off,o,h1,h2,.inr ⟨n,ht,h3,rfl⟩⟩) hR (hc▸Lends.agg (Yv rs))
end
section
variable{α:Type}(f:α→List RV)(zc:List RV)(sz:Nat)
def filled(l:List α)(j:Nat):List RV:=((l.take j).map f).flatten++(List.replicate (l.length-j) zc).flatten
variable{f zc sz}
end
section
variable{P:Program}{C:Ctx}{ops:Array Oper}{rest:List Oper}{k:List Item}{R:Act→World→Prop}{env:Env}{σ:List Ob}{t:Nat}{ty:TypeId}{pos:String}{after:Array Edge}{gd:Option (Nat×Bool)}
theorem J5{E':Env}{s' more:List Ob}(hsub:Sub E' env)(hσ:σ=s'++more)(hf:Free s'.length E')(ho:FreeO s'.length s')(h:Runs P C k R ⟨E',s'⟩):Runs P C k R ⟨env,σ⟩:=by
 subst hσ
 exact Runs.keep E' hsub (Runs.drop hf ho h)
theorem Tk{more0:List Ob}(m:Nat){c:Code}{k':List Item}(hc:Proofs.YtnecoghfhcimeaaGreat.ctls m k = .code (.loop c)::k')(E:Nat→Env)(s:Nat→List Ob)(hf:∀j,Free (s j).length (E j)∧FreeO (s j).length (s j))(Q:Nat→Prop)(len:Nat)(j0:Nat)(hj0:j0≤len)(h0:Q j0)(henv:Sub (E j0) env)(hs:s j0++more0=σ)
  (round:∀j,j≤len→Q j→(∀env' σ' more,Sub (E (j+1)) env'→j<len→Q (j+1)→s (j+1)++more=σ'→Runs P C (.inLoop c::k') R ⟨env',σ'⟩)→Runs P C (.code c :: .inLoop c::k') R ⟨E j,s j⟩) :
  Runs P C k R ⟨env,σ⟩:=by
 refine Zbf m hc ?_
 refine J5 henv hs.symm (hf j0).1 (hf j0).2 ?_
 refine Runs.loop (fun n S=>∃j,j+n=len∧Q j∧S=⟨E j,s j⟩) (fun n S hI ih=>?_) (len-j0) ⟨j0,by omega,h0,rfl⟩
 obtain⟨j,hj,hQ,rfl⟩:=hI
 refine round j (by omega) hQ fun env' σ' more hsub hlt hQ' hσ=>?_
 exact J5 hsub hσ.symm (hf _).1 (hf _).2 (ih (n-1) (by omega) _ ⟨j+1,by omega,hQ',rfl⟩)
def Qg(env:Env):Nat→List (Nat×Operand)→Option (List (List AV))
 |_,[]=>some []
 |n,p::l=>match Nat.beq p.1 n with
  |true=>match cells? (ev env p.2) with
   |some c=>match Qg env (n+1) l with
    |some cs=>some (c::cs)
    |none=>none
   |none=>none
  |false=>none
theorem To{m:Mem}{a:Act}:∀(l:List (Nat×Operand)) (n:Nat) (css:List (List AV)),(∀p∈l,AV.rel m (ev env p.2) (a.eval p.2))→Qg env n l=some css →
  (l.map fun p=>(p.1,a.eval p.2))=((l.map fun p=>a.eval p.2).zipIdx n).map (fun x=>(x.2,x.1))∧css.length=l.length ∧
  ∀(i:Nat) p c,l[i]?=some p→css[i]?=some c→(a.eval p.2).cells.size=c.length∧∀(j:Nat) x,c[j]?=some x→∃y,(a.eval p.2).cells[j]?=some y∧y.oneCell'=true∧AV.rel m x y
 | [],n,css,_,h=>by simp only[Qg,Option.some.injEq]at h;subst h;simp
 |p::l,n,css,hH,h=>by
  unfold Qg at h
  split at h
  ·rename_i hb
   split at h
   ·rename_i c hc
    split at h
    ·rename_i cs hcs
     injection h with h;subst h
     obtain⟨h1,h2,h3⟩:=To l (n+1) cs (fun p hp=>hH p (by simp[hp])) hcs
     have hn:p.1=n:=Nat.eq_of_beq_eq_true hb
     refine⟨by simp only[List.map_cons,List.zipIdx_cons,h1,hn],by simp[h2],fun i q d e1 e2=>?_⟩
     cases i with
     |zero=>simp at e1 e2;subst e1;subst e2;exact Ku (hH p (by simp)) hc
     |succ i=>exact h3 i q d (by simpa using e1) (by simpa using e2)
    ·cases h
   ·cases h
  ·cases h
theorem Tf{α β:Type}{sz:Nat}(f:α→List β):∀(l:List α),(∀x∈l,(f x).length=sz)→∀(i j:Nat) x,l[i]?=some x→j<sz→(l.flatMap f)[i*sz+j]?=(f x)[j]?
 | [],_,i,j,x,h,_=>by simp at h
 |y::l,hl,i,j,x,h,hj=>by
  have hy:=hl y (by simp)
  rw[List.flatMap_cons]
  cases i with
  |zero=>simp at h;subst h;rw[Nat.zero_mul,Nat.zero_add,Zbc (by omega)]
  |succ i=>
   rw[Zbd (by rw[Nat.succ_mul];omega),hy,show(i+1)*sz+j-sz=i*sz+j by rw[Nat.succ_mul];omega]
   exact Tf f l (fun x hx=>hl x (by simp[hx])) i j x (by simpa using h) hj
theorem built{tt e:TypeId}{z:Value}{sz bytes len:Nat}{parts:Array (Nat×Operand)}{css:List (List AV)}[hs:SL P tt e z sz bytes]{m:Mem}{a:Act}(hH:∀p∈parts.toList,AV.rel m (ev env p.2) (a.eval p.2))(hp:Qg env 0 parts.toList=some css)
  (hl:css.length=len) (hsz:∀c∈css,c.length=sz) (hpos:0<len*sz) (hsm:len*sz≤16777216) :
  ∃us:Array Value,(Instr.buildSlice tt len (parts.map fun p=>(p.1,a.eval p.2))).run P m.w = .ok (slv m.w.heap.size len len) (m.w.alloc (.cells us e))∧us.size=len*sz ∧
   ∀(j:Nat) v,css.flatten[j]?=some v→∃u,us[j]?=some u∧u.oneCell'=true∧AV.rel m v u:=by
 obtain⟨h1,h2,h3⟩:=To parts.toList 0 css hH hp
 obtain⟨i,hi,hz0,hsz',hb⟩:=hs.el.hi
 have hs0:0<sz:=Nat.pos_of_mul_pos_left hpos
 let vs:=parts.toList.map fun p=>a.eval p.2
 have hvl:vs.length=len:=by simp[vs,←hl,h2]
 have hvat:∀(i:Nat) v,vs[i]?=some v→∃p c,parts.toList[i]?=some p∧css[i]?=some c∧v=a.eval p.2:=fun i v hv=>by
  simp only[vs,List.getElem?_map,Option.map_eq_some_iff]at hv
  obtain⟨p,hp',rfl⟩:=hv
  have hil:i<css.length:=by rw[h2];exact(Za5.1 hp').1
  exact⟨p,css[i],hp',Za6 hil,rfl⟩
 have hcs:∀v∈vs,v.cells.size=sz:=fun v hv=>by
  obtain⟨i,hi',rfl⟩:=List.getElem_of_mem hv
  obtain⟨p,c,e1,e2,e3⟩:=hvat i _ (Za6 hi')
  rw[e3,(h3 i p c e1 e2).1]
  exact hsz c (Zba e2)
 refine⟨(vs.flatMap fun v=>v.cells.toList).toArray,?_,?_,fun j v hj=>?_⟩
 ·refine run_buildSlice m.w tt e len _ _ i z hs.el.ht hi hz0 (by rw[hsz'];omega) (by rw[hsz'];omega) ?_
  rw[Array.toList_map,h1,hsz']
  exact Great.fill_whole hs0 vs _ hcs (by simp[hvl])
 ·rw[List.size_toArray,List.length_flatMap]
  have:∀l:List Value,(∀v∈l,v.cells.size=sz)→(l.map fun v=>v.cells.toList.length).sum=l.length*sz:=by
   intro l hl'
   induction l with
   |nil=>simp
   |cons v l ih=>rw[List.map_cons,List.sum_cons,ih (fun v hv=>hl' v (by simp[hv])),Array.length_toList,hl' v (by simp),Za8,Nat.succ_mul,Nat.add_comm]
  rw[this vs hcs,hvl]
 ·have hjl:j<css.length*sz:=by rw[←V7 hsz];exact(Za5.1 hj).1
  have hq:j / sz<css.length:=Nat.div_lt_of_lt_mul (by rwa [Nat.mul_comm])
  have hr:j % sz<sz:=Nat.mod_lt _ hs0
  have hjj:j=(j / sz)*sz+j % sz:=by rw[Nat.mul_comm];exact(Nat.div_add_mod j sz).symm
  have hvq:j / sz<vs.length:=by rw[hvl,←hl];exact hq
  obtain⟨p,c,e1,e2,e3⟩:=hvat (j / sz) _ (Za6 hvq)
  obtain⟨k1,k2⟩:=h3 _ p c e1 e2
  have hcv:c[j % sz]?=some v:=by
   have:=Tf (fun x:List AV=>x) css hsz (j / sz) (j % sz) c e2 hr
   rw[←this,←hjj,←hj];simp[List.flatMap]
  obtain⟨y,y1,y2,y3⟩:=k2 _ v hcv
  refine⟨y,?_,y2,y3⟩
  rw[List.getElem?_toArray,hjj,Tf (fun v:Value=>v.cells.toList) vs (by simpa using hcs) (j / sz) (j % sz) _ (Za6 hvq) hr,e3,Array.getElem?_toList,y1]
theorem Uz{tt e:TypeId}{z:Value}{sz bytes len:Nat}{parts:Array (Nat×Operand)}{css:List (List AV)}[hs:SL P tt e z sz bytes](hp:Qg env 0 parts.toList=some css)
  (hl:css.length=len) (hsz:(css.all fun c=>Nat.beq c.length sz)=true) (hpos:Nat.ble 1 (len*sz)=true) (hsm:Nat.ble (len*sz) 16777216=true) (ht:t<C.n) (hk:RunsL P C ops rest k R ⟨(t,.own σ.length)::env,σ++[⟨e,sz,css.flatten⟩]⟩) :
  RunsL P C ops (⟨some t,.buildSlice tt len parts,ty,pos,after,none⟩::rest) k R ⟨env,σ⟩:=
 RunsL.val rfl rfl ht (fun a w φ hG hH=>by
  have hsz':∀c∈css,c.length=sz:=fun c hc=>Nat.eq_of_beq_eq_true (List.all_eq_true.1 hsz c hc)
  have h1:=nbT hpos
  have h2:=nbT hsm
  obtain⟨us,k1,k2,k3⟩:=built (P:=P) (tt:=tt) (a:=a) (m:=⟨w,φ,σ,C.ok⟩) (fun p _=>Xy hH p.2) hp hl hsz' h1 h2
  have hcl:css.flatten.length=len*sz:=by rw[V7 hsz',hl]
  have hg:=Ks hG us e sz css.flatten (by omega) k3
  have hlen:0<sz:=Nat.pos_of_mul_pos_left h1
  refine⟨slv w.heap.size len len,_,_,by simp only[execOp,Sem.run_bind];rw[k1];rfl,hg.1,hg.2,?_⟩
  simp only[AV.rel]
  have hml:len≤maxLen:=by have:len*1≤len*sz:=Nat.mul_le_mul_left _ hlen;simp[maxLen];omega
  exact⟨⟨e,sz,css.flatten⟩,len,by rw[Zbd (Nat.le_refl _),Nat.sub_self];rfl,hcl,hlen,.inr ⟨w.heap.size,len,_,Xg,rfl,heap_alloc_new w _,Nat.le_refl _,hml,k2⟩⟩) hk
def Ik:List AV→Option (List RV)
 | []=>some []
 | .ro r::l=>match Ik l with
  |some rs=>some (r::rs)
  |none=>none
 |_::_=>none
theorem Ij:∀(l:List AV) (rs:List RV),Ik l=some rs→l=rs.map .ro
 | [],rs,h=>by simp only[Ik,Option.some.injEq]at h;subst h;rfl
 | .ro r::l,rs,h=>by
  unfold Ik at h
  split at h
  ·rename_i rs' h'
   injection h with h;subst h
   rw[Ij l rs' h'];rfl
  ·cases h
 | .obj _ _::l,rs,h=>by cases h
 | .own _::l,rs,h=>by cases h
 | .agg _::l,rs,h=>by cases h
 | .tup _::l,rs,h=>by cases h
 | .fn _ _ _::l,rs,h=>by cases h
 | .junk::l,rs,h=>by cases h
def E2:List (List AV)→Option (List (List RV))
 | []=>some []
 |l::ls=>match Ik l with
  |some r=>match E2 ls with
   |some rs=>some (r::rs)
   |none=>none
  |none=>none
theorem Ae:∀(l:List (List AV)) (rs:List (List RV)),E2 l=some rs→l=rs.map (·.map .ro)
 | [],rs,h=>by simp only[E2,Option.some.injEq]at h;subst h;rfl
 |l::ls,rs,h=>by
  unfold E2 at h
  split at h
  ·rename_i r hr
   split at h
   ·rename_i rs' h'
    injection h with h;subst h
    rw[Ij l r hr,Ae ls rs' h'];rfl
   ·cases h
  ·cases h
theorem Zw{tt e:TypeId}{z:Value}{sz bytes len:Nat}{parts:Array (Nat×Operand)}{css:List (List AV)}{els:List (List RV)}[hs:SL P tt e z sz bytes](hp:Qg env 0 parts.toList=some css)(hr:E2 css=some els)
  (hl:css.length=len) (hsz:(css.all fun c=>Nat.beq c.length sz)=true) (hpos:Nat.ble 1 (len*sz)=true) (hsm:Nat.ble (len*sz) 16777216=true) :
  Pur P C ⟨some t,.buildSlice tt len parts,ty,pos,after,gd⟩ env σ (.ro (.seq sz els)):=by
 refine⟨fun a m hG hσ hH K Q hK=>?_⟩
 have hsz':∀c∈css,c.length=sz:=fun c hc=>Nat.eq_of_beq_eq_true (List.all_eq_true.1 hsz c hc)
 have h1:=nbT hpos
 have h2:=nbT hsm
 obtain⟨w,φ,σ',ok⟩:=m
 have hok:ok=C.ok:=hG.ok0
 subst hok
 subst hσ
 have hcss:=Ae _ _ hr
 obtain⟨us,k1,k2,k3⟩:=built (P:=P) (tt:=tt) (a:=a) (m:=⟨w,φ,σ',C.ok⟩) (fun p hp'=>hH p.2 (by simp only[Op.operands,List.mem_map,List.mem_toArray,Array.mem_def];exact⟨p,hp',rfl⟩)) hp hl hsz' h1 h2
 have he:(execOp a.eval ⟨some t,.buildSlice tt len parts,ty,pos,after,gd⟩).run P w = .ok (.value (slv w.heap.size len len)) (w.alloc (.cells us e)):=by simp only[execOp,Sem.run_bind];rw[k1];rfl
 have hlen:0<sz:=Nat.pos_of_mul_pos_left h1
 have hml:len≤maxLen:=by have:len*1≤len*sz:=Nat.mul_le_mul_left _ hlen;simp[maxLen];omega
 unfold Oper.wp
 rw[he]
 simp only[Oper.upon]
 have hbl:=Qt w (.cells us e)
 have hle:els.length=len:=by rw[←hl,hcss,lmT]
 refine hK _ _ hbl ?_
 simp only[AV.rel,RV.rel]
 refine⟨some ⟨w.heap.size,0,none⟩,len,len,rfl,hle.symm,Nat.le_refl _,hml,fun _=>⟨w.heap.size,0,rfl,(Array.getElem?_eq_some_iff.1 (heap_alloc_new w _)).1,Ma hG _ (Nat.le_refl _),?_⟩⟩
 have hel:∀x∈els,x.length=sz:=fun x hx=>by
  have:=hsz' (x.map .ro) (by rw[hcss];exact List.mem_map.2 ⟨x,hx,rfl⟩)
  simpa using this
 refine RV.relE_of _ _ _ fun k e' hk=>⟨hel e' (Zba hk),RV.relAt_of _ _ fun j r hj=>?_⟩
 have hjl:j<sz:=by have:=(Za5.1 hj).1;rwa [hel e' (Zba hk)]at this
 have hcat:=Lr hsz' k j (e'.map .ro) (by rw[hcss,List.getElem?_map,hk];rfl) hjl
 rw[List.getElem?_map,hj]at hcat
 obtain⟨u,u1,u2,u3⟩:=k3 _ _ hcat
 simp only[AV.rel]at u3
 refine⟨u,by rw[cell_of_row _ _ _ us _ _ (heap_alloc_new w _),Nat.zero_add];exact u1,u2,RV.rel_mono ⟨hbl.size,fun b hb ho=>⟨ho,hbl.block b hb⟩⟩ r u u3⟩
theorem E7{tt:TypeId}{x:Operand}{cs cs':List RV}{n:Nat}[TN P tt n](hx:ev env x = .ro (.rp cs))(he:cs=cs')(hn:cs'.length=n):Pur P C ⟨some t,.load tt x,ty,pos,after,gd⟩ env σ (.ro (.agg cs')):=by
 subst he
 exact E6 hx hn
theorem Hs{m:Mem}:∀(vs:List Value) (us:List Value),RV.rels m.w m.ok (vs.map .c) us→us=vs
 | [],us,h=>by simpa [RV.rels] using h
 |v::vs,us,h=>by
  simp only[List.map_cons,RV.rels]at h
  obtain⟨u,us',rfl,h1,h2⟩:=h
  simp only[RV.rel]at h1
  rw[h1,Hs vs us' h2]
end
section
variable{H:Type}{enc:TypeId×Value→H}{P:Program}{w:World}{base:Nat}{spare:Nat→Bool}{held:Bool}{T:List Nat}{r:Reach}{b0:Nat}{t e:TypeId}{v:Value}{d:DataW H}{p:List MemPlace}
theorem open_cell(hT:(T.all (typB P T))=true)(ht:Ar T t=true)(hc:v.cells.toList=[v])(h:DataW.Trod enc P w base spare held t v d p):∃r,TyC P t [r]∧RV.Rels w [r] [v]:=by
 obtain⟨rcs',h1,h2,_⟩:=open_arg hT ht h
 rw[hc]at h2
 match rcs',h2 with
 | [],h2=>simp[RV.Rels,RV.rels]at h2
 | [r],h2=>exact⟨r,h1,h2⟩
 |_::_::_,h2=>simp[RV.Rels,RV.rels]at h2;obtain⟨_,_,⟨_,rfl⟩,_,_,_,h,_⟩:=h2;cases h
theorem P3(hT:(T.all (typB P T))=true)(ht:Ar T t=true)(hu:P.underlying t=some (.slice e))(hv:Value.okWide P w r b0 t v)(h:DataW.Trod enc P w base spare held t v d p):∃r,TyC P t [r]∧RV.Rels w [r] [v]:=by
 obtain⟨a,n,c,rfl⟩:=okWide_slice hu hv
 exact open_cell hT ht (by rfl) h
end
section
variable{P:Program}{t e:TypeId}{rcs:List RV}{r:RV}
def TyCs(P:Program):List TypeId→List (List RV)→Prop
 | [],cs=>cs=[]
 |t::ts,cs=>∃c cs',cs=c::cs'∧TyC P t c∧TyCs P ts cs'
theorem TyCs.of:∀(fs:List Field) (cells:List (List RV)),cells.length=fs.length→(∀(j:Nat) f c,fs[j]?=some f→cells[j]?=some c→TyC P f.type c)→TyCs P (fs.map (·.type)) cells
 | [],cells,hl,_=>by simpa [TyCs] using List.eq_nil_of_length_eq_zero hl
 |f::fs,[],hl,_=>by simp at hl
 |f::fs,c::cs,hl,h=>by
  simp only[List.map_cons,TyCs]
  exact⟨c,cs,rfl,h 0 f c rfl rfl,TyCs.of fs cs (by simpa using hl) fun j f' c' e1 e2=>h (j+1) f' c' (by simpa using e1) (by simpa using e2)⟩
theorem TyC.parts{fs:Array Field}(h:TyC P t rcs)(hu:P.underlying t=some (.struct fs)):∃cells:List (List RV),rcs=cells.flatten∧TyCs P (fs.toList.map (·.type)) cells:=by
 obtain⟨cells,h1,h2,h3⟩:=h.inv_struct hu
 exact⟨cells,h1,TyCs.of fs.toList cells (by simpa using h2) fun j f c e1 e2=>h3 j f c (by simpa using e1) e2⟩
theorem TyC.i64(h:TyC P t rcs)(hu:P.underlying t=some (.int .i64)):∃n,rcs=[.int n]∧I64 n:=by
 obtain⟨n,e,hw⟩:=h.inv_int hu
 exact⟨n,e,bounds_i64 hw⟩
theorem TyC.byte(h:TyC P t rcs)(hu:P.underlying t=some (.int .u8)):∃c:UInt8,rcs=[.u8 c]:=by
 obtain⟨n,e,hw⟩:=h.inv_int hu
 obtain⟨c,rfl⟩:=u8_of_wf hw
 exact⟨c,e⟩
theorem TyC.ints(h:TyC P t rcs)(hu:P.underlying t=some (.slice e))(he:P.underlying e=some (.int .i64))(hc:P.cellsOf e=1):∃l:List Int,rcs=[Xe l]∧l.length≤maxLen∧∀z∈l,I64 z:=by
 obtain⟨els,rfl,hl,hels⟩:=h.inv_slice hu
 obtain⟨l,rfl,hq⟩:=els_of (f:=fun z:Int=>[RV.int z]) (Q:=I64) fun el hel=>(hels el hel).i64 he
 exact⟨l,by rw[hc];rfl,by simpa using hl,hq⟩
theorem TyC.bytes(h:TyC P t rcs)(hu:P.underlying t=some (.slice e))(he:P.underlying e=some (.int .u8))(hc:P.cellsOf e=1):∃l:List UInt8,rcs=[Ya l]∧l.length≤maxLen:=by
 obtain⟨els,rfl,hl,hels⟩:=h.inv_slice hu
 obtain⟨l,rfl,_⟩:=els_of (f:=fun z:UInt8=>[RV.u8 z]) (Q:=fun _=>True) fun el hel=>(by obtain⟨c,e⟩:=(hels el hel).byte he;exact⟨c,e,trivial⟩)
 exact⟨l,by rw[hc];rfl,by simpa using hl⟩
end
theorem cons_rels{w:World}{r:RV}{rs:List RV}{u:Value}{us:List Value}(h:RV.Rels w [r] [u])(hs:RV.Rels w rs us):RV.Rels w (r::rs) (u::us):=by
 simp only[RV.Rels,RV.rels]at h hs ⊢
 obtain⟨u',us',e,h1,rfl⟩:=h
 injection e with e1 e2;subst e1
 exact⟨u,us,rfl,h1,hs⟩
theorem nil_rels{w:World}:RV.Rels w [] []:=by simp[RV.Rels,RV.rels]
theorem Ai{w:World}{ok:Nat→Prop}{A:Option Addr}{n c sz l h:Nat}{els:List (List RV)}(hr:RV.rel w ok (.seq sz els) (.slice A n c))(hl:l≤h)(hh:h≤els.length):RV.rel w ok (.seq sz ((els.take h).drop l)) (sliced A l h c sz):=by
 simp only[RV.rel]at hr ⊢
 obtain⟨A',n',c',e,hn,h1,h2,h3⟩:=hr
 injection e with e1 e2 e3;subst e1;subst e2;subst e3
 refine⟨_,h-l,c-l,rfl,by rw[List.length_drop,List.length_take];omega,by omega,by omega,fun h0=>?_⟩
 obtain⟨b,o,rfl,hb,hok,hE⟩:=h3 (by omega)
 rw[if_neg (by omega)]
 refine⟨b,o+l*sz,by simp[Addr.add_lit],hb,hok,RV.relE_of _ _ _ fun k e hk=>?_⟩
 rw[List.getElem?_drop,List.getElem?_take]at hk
 split at hk
 ·have:=RV.relE_at _ o sz hE (l+k) e hk
  rwa [Nat.add_mul,←Nat.add_assoc]at this
 ·cases hk
section
variable{P:Program}{C:Ctx}{env:Env}{σ:List Ob}{t:Nat}{ty:TypeId}{pos:String}{after:Array Edge}{gd:Option (Nat×Bool)}
variable{tt e:TypeId}{z:Value}{sz bytes:Nat}{x y y':Operand}{kd kd':IntKind}{p q:Int}{els:List (List RV)}{α:Type}{l:List α}{f:α→List RV}
theorem Lu[hs:SL P tt e z sz bytes]:P.underlying tt=some (.slice (P.elem tt)):=by
 have h:=hs.el.ht
 have:P.elem tt=e:=by simp[Program.elem,h]
 rw[this];exact h
theorem SL.size[hs:SL P tt e z sz bytes](w:World):(sizeOf (P.elem tt)).run P w = .ok sz w:=by
 have h:=hs.el.ht
 have he:P.elem tt=e:=by simp[Program.elem,h]
 obtain⟨i,i1,i2,i3,i4⟩:=hs.el.hi
 simp[he,sizeOf,typeInfo,i1,i3]
theorem Fz[hs:SL P tt e z sz bytes](hx:ev env x = .ro (.seq sz els))(hy:ev env y = .ro (.c (.int kd p)))(h0:0≤p)(h1:p≤els.length):Pur P C ⟨some t,.slice tt x none (some y) none,ty,pos,after,gd⟩ env σ (.ro (.seq sz (els.take p.toNat))):=
 Xm (fun a m hG hσ hH=>by
  have h:=hH x (by simp[Op.operands])
  rw[hx]at h
  simp only[AV.rel]at h
  have h':=h
  simp only[RV.rel]at h'
  obtain⟨A,n,c,ea,hn,k1,k2,_⟩:=h'
  rw[ea]at h
  have hr:=Ai h (Nat.zero_le p.toNat) (by omega)
  refine⟨sliced A 0 p.toNat c sz,?_,by simpa only[AV.rel,List.drop_zero] using hr⟩
  simp only[execOp,Option.map_some,Option.map_none,Ei (hH _ (by simp[Op.operands])) hy,ea,Sem.run_bind,run_sliceAt_slice m.w tt _ _ _ _ Lu,run_slice_h m.w tt A n c Lu kd p h0 (by omega),SL.size,Result.andThen_ok]
  rfl)
theorem Pw[hs:SL P tt e z sz bytes](hx:ev env x = .ro (.seq sz els))(hy:ev env y = .ro (.c (.int kd p)))(hy':ev env y' = .ro (.c (.int kd' q)))(h0:0≤p)(h1:p≤q)(h2:q≤els.length):Pur P C ⟨some t,.slice tt x (some y) (some y') none,ty,pos,after,gd⟩ env σ (.ro (.seq sz ((els.take q.toNat).drop p.toNat))):=
 Xm (fun a m hG hσ hH=>by
  have h:=hH x (by simp[Op.operands])
  rw[hx]at h
  simp only[AV.rel]at h
  have h':=h
  simp only[RV.rel]at h'
  obtain⟨A,n,c,ea,hn,k1,k2,_⟩:=h'
  rw[ea]at h
  have hr:=Ai h (show p.toNat≤q.toNat by omega) (by omega)
  refine⟨sliced A p.toNat q.toNat c sz,?_,by simpa only[AV.rel] using hr⟩
  simp only[execOp,Option.map_some,Option.map_none,Ei (hH _ (by simp[Op.operands])) hy,Ei (hH _ (by simp[Op.operands])) hy',ea,Sem.run_bind,run_sliceAt_slice m.w tt _ _ _ _ Lu,run_slice_lh m.w tt A n c Lu kd kd' p q h0 h1 (by omega),SL.size,Result.andThen_ok]
  rfl)
theorem Xv[hs:SL P tt e z sz bytes](hx:ev env x = .ro (.seq sz (l.map f)))(hy:ev env y = .ro (.c (.int kd p)))(h0:0≤p)(h1:p≤l.length):Pur P C ⟨some t,.slice tt x none (some y) none,ty,pos,after,gd⟩ env σ (.ro (.seq sz ((l.take p.toNat).map f))):=by
 have h:=Fz (P:=P) (tt:=tt) (C:=C) (σ:=σ) (t:=t) (ty:=ty) (pos:=pos) (after:=after) (gd:=gd) hx hy h0 (by simpa using h1)
 rwa [←List.map_take]at h
end
section
variable{P:Program}{k:List Item}{R:Act→World→Prop}
def mine(φ:Nat→Option Nat)(n:Nat)(b:Nat):Prop:=∃i,i<n∧φ i=some b
theorem Zaz{c:Code}(I:Nat→Ctx→St→Prop)
  (h:∀n C S,I n C S→(∀m,m<n→∀C' S',I m C' S'→Runs P C' (.inLoop c::k) R S')→Runs P C (.code c :: .inLoop c::k) R S) (n:Nat) (C:Ctx) (S:St) (h0:I n C S):Runs P C (.code (.loop c)::k) R S:=by
 have key:∀n C S,I n C S→Runs P C (.code c :: .inLoop c::k) R S:=by
  intro n
  induction n using Nat.strongRecOn with
  |_ n ih=>exact fun C S hS=>h n C S hS fun m hm C' S' hS'=>⟨fun a w hs=>((ih m hm C' S' hS').run a w hs).step fun _ _=>step_inLoop⟩
 exact⟨fun a w hs=>((key n C S h0).run a w hs).step fun _ _=>step_loop⟩
def cst:AV→Bool
 | .ro (.c _) | .junk=>true
 | .ro (.tup vs)=>vs.all fun r=>match r with | .c _=>true|_=>false
 |_=>false
def CEnv:Env→Prop
 | []=>True
 |(_,v)::e=>cst v=true∧CEnv e
theorem Si{w w':World}{ok ok':Nat→Prop}:∀(vs:List RV) (us:List Value),(vs.all fun r=>match r with | .c _=>true|_=>false)=true→RV.rels w ok vs us→RV.rels w' ok' vs us
 | [],us,_,h=>by simpa [RV.rels] using h
 |r::vs,us,hc,h=>by
  rw[List.all_cons,Bool.and_eq_true]at hc
  simp only[RV.rels]at h ⊢
  obtain⟨u,us',e,h1,h2⟩:=h
  refine⟨u,us',e,?_,Si vs us' hc.2 h2⟩
  cases r<;>simp at hc
  simpa only[RV.rel] using h1
theorem cst_rel{m m':Mem}{v:AV}{u:Value}(hc:cst v=true)(h:AV.rel m v u):AV.rel m' v u:=by
 cases v with
 |ro r=>
  cases r<;>simp only[cst,Bool.false_eq_true]at hc<;>simp only[AV.rel,RV.rel]at h ⊢
  ·exact h
  ·obtain⟨us,e,h1⟩:=h
   exact⟨us,e,Si _ _ hc h1⟩
 |junk=>simp[AV.rel]
 |_=>simp[cst]at hc
theorem CEnv.look{env:Env}(h:CEnv env)(t:Nat):cst (look env t)=true:=by
 induction env with
 |nil=>rfl
 |cons p e ih=>
  obtain⟨s,v⟩:=p
  simp only[CEnv]at h
  rw[Yy]
  split
  ·exact h.1
  ·exact ih h.2
theorem CEnv.holds{m m':Mem}{env:Env}{a:Act}(h:CEnv env)(hH:Holds m env a):Holds m' env a:=fun t=>cst_rel (h.look t) (hH t)
theorem Rm(s:ByteArray)(i:Nat)(h:i<s.size)(hc:128≤(s[i]'h).toNat):128≤(Utf8.decode s i).1:=by
 have e:s.get! (i+0)=s[i]'h:=by
  show s.get! i=_
  simp[ByteArray.get!,getElem!_pos,h]
  rfl
 unfold Utf8.decode
 simp only[e]
 rw[if_neg (by omega)]
 split
 ·split
  ·assumption
  ·decide
 ·split
  ·split
   ·rename_i h1;simp only[Bool.and_eq_true,decide_eq_true_eq]at h1;simp only;omega
   ·decide
  ·split
   ·split
    ·rename_i h1;simp only[Bool.and_eq_true,decide_eq_true_eq]at h1;simp only;omega
    ·decide
   ·decide
section
variable{C:Ctx}{ops:Array Oper}{rest:List Oper}{env:Env}{t:Nat}{ty:TypeId}{pos:String}{after:Array Edge}{x:Operand}{s:ByteArray}
theorem op_rangeS{tt:TypeId}[hs:TS P tt](hx:ev env x = .str s)(ht:t<C.n)(hce:CEnv env)(hm:∀b,¬C.mu b)
  (hk:∀(C':Ctx) (g:Nat),C'.n=C.n→(∀b,¬C'.mu b)→C'.w0.heap[g]?=some (.stringIter s 0)→C.w0.heap.size≤g→Below C.w0.heap.size C.w0 C'.w0→RunsL P C' ops rest k R ⟨(t,.ro (.c (.pointer (some ⟨g,0,none⟩))))::env,[]⟩) :
  RunsL P C ops (⟨some t,.range tt x,ty,pos,after,none⟩::rest) k R ⟨env,[]⟩:=by
 refine⟨fun a w hsim=>?_⟩
 obtain⟨h1,h2,φ,hG,hH⟩:=hsim
 have hxx:=Ei (Xy hH x) hx
 refine wpList_plain rfl fun K hK'=>?_
 unfold Oper.wp
 have hrun:(execOp a.eval ⟨some t,.range tt x,ty,pos,after,none⟩).run P w = .ok (.value (.pointer (some ⟨w.heap.size,0,none⟩))) (w.iter s 0):=by
  simp[execOp,hxx,run_range_string w tt s hs.h]
 rw[hrun]
 simp only[Oper.upon]
 have hb:Below w.heap.size w (w.iter s 0):=Qt w _
 have hb0:Below C.w0.heap.size C.w0 (w.iter s 0):=(hG.frm.below0 hm).trans (hb.mono hG.frm.size)
 refine hK' _ _ ((hk ⟨w.iter s 0,C.ok,fun _=>False,C.n⟩ w.heap.size rfl (fun _ h=>h) (World.iter_heap w s 0) hG.frm.size hb0).run _ _ ?_)
 refine⟨h1,by simp[Act.put,h2],φ,⟨rfl,fun i j g hi=>by simp at hi,fun i o hi=>by simp at hi,fun i g hi=>by simp at hi,⟨rfl,rfl,rfl,Nat.le_refl _,fun _ _ _=>rfl,fun b hbb=>hG.frm.new b (Nat.le_trans hG.frm.size (Nat.le_trans hb.size hbb))⟩⟩,?_⟩
 exact(hce.holds hH).put (by rw[h2];exact ht) (by simp[AV.rel,RV.rel])
theorem Zaj{w w':World}{g:Nat}{o:Obj}(hg:w.heap[g]?=some o)(o':Obj)(hw:w'={w with heap:=w.heap.setIfInBounds g o'}):Below g w w'∧w'.heap[g]?=some o'∧w'.heap.size=w.heap.size:=by
 subst hw
 have hlt:g<w.heap.size:=(Array.getElem?_eq_some_iff.1 hg).1
 refine⟨⟨rfl,rfl,rfl,by simp,fun b hb=>?_⟩,?_,by simp⟩
 ·show(w.heap.setIfInBounds g o')[b]?=_
  rw[Array.getElem?_setIfInBounds_ne (by omega)]
 ·show(w.heap.setIfInBounds g o')[g]?=_
  rw[Array.getElem?_setIfInBounds_self_of_lt hlt]
theorem op_nextS{g p:Nat}(hx:ev env x = .ro (.c (.pointer (some ⟨g,0,none⟩))))(hg:C.w0.heap[g]?=some (.stringIter s p))(hp:p<s.size)(ht:t<C.n)(hce:CEnv env)(hm:∀b,¬C.mu b)
  (hk:∀(C':Ctx),C'.n=C.n→(∀b,¬C'.mu b)→C'.w0.heap[g]?=some (.stringIter s (p+(Utf8.decode s p).2))→Below g C.w0 C'.w0→RunsL P C' ops rest k R ⟨(t,.ro (.tup [.bool true,.int (p:Int),.c (.int .i32 ((Utf8.decode s p).1:Int))]))::env,[]⟩) :
  RunsL P C ops (⟨some t,.next x true,ty,pos,after,none⟩::rest) k R ⟨env,[]⟩:=by
 refine⟨fun a w hsim=>?_⟩
 obtain⟨h1,h2,φ,hG,hH⟩:=hsim
 have hxx:=Ei (Xy hH x) hx
 have hlt:g<C.w0.heap.size:=(Array.getElem?_eq_some_iff.1 hg).1
 have hb0:=hG.frm.below0 hm
 have hgw:w.heap[g]?=some (.stringIter s p):=(hb0.block g hlt).trans hg
 refine wpList_plain rfl fun K hK'=>?_
 unfold Oper.wp
 obtain⟨k1,k2,k3⟩:=Zaj hgw (.stringIter s (p+(Utf8.decode s p).2)) rfl
 have hrun:(execOp a.eval ⟨some t,.next x true,ty,pos,after,none⟩).run P w = .ok (.value (.tuple #[.bool true,.int .i64 p,.int .i32 ((Utf8.decode s p).1:Int)])) {w with heap:=w.heap.setIfInBounds g (.stringIter s (p+(Utf8.decode s p).2))}:=by
  simp[execOp,hxx,Instr.next,getObj,setObj,Sem.run,Result.andThen,hgw,hp,goInt]
 rw[hrun]
 simp only[Oper.upon]
 have hb1:Below g C.w0 {w with heap:=w.heap.setIfInBounds g (.stringIter s (p+(Utf8.decode s p).2))}:=(hb0.mono (Nat.le_of_lt hlt)).trans k1
 refine hK' _ _ ((hk ⟨_,C.ok,fun _=>False,C.n⟩ rfl (fun _ h=>h) k2 hb1).run _ _ ?_)
 refine⟨h1,by simp[Act.put,h2],φ,⟨rfl,fun i j g hi=>by simp at hi,fun i o hi=>by simp at hi,fun i g hi=>by simp at hi,⟨rfl,rfl,rfl,Nat.le_refl _,fun _ _ _=>rfl,fun b hbb=>hG.frm.new b (Nat.le_trans hb1.size hbb)⟩⟩,?_⟩
 exact(hce.holds hH).put (by rw[h2];exact ht) (by simp[AV.rel,RV.rel,RV.rels])
theorem F6{g p:Nat}(hx:ev env x = .ro (.c (.pointer (some ⟨g,0,none⟩))))(hg:C.w0.heap[g]?=some (.stringIter s p))(hp:¬p<s.size)(ht:t<C.n)(hm:∀b,¬C.mu b)
  (hk:RunsL P C ops rest k R ⟨(t,.ro (.tup [.bool false]))::env,[]⟩) :
  RunsL P C ops (⟨some t,.next x true,ty,pos,after,none⟩::rest) k R ⟨env,[]⟩:=by
 refine⟨fun a w hsim=>?_⟩
 obtain⟨h1,h2,φ,hG,hH⟩:=hsim
 have hxx:=Ei (Xy hH x) hx
 have hlt:g<C.w0.heap.size:=(Array.getElem?_eq_some_iff.1 hg).1
 have hgw:w.heap[g]?=some (.stringIter s p):=((hG.frm.below0 hm).block g hlt).trans hg
 refine wpList_plain rfl fun K hK'=>?_
 unfold Oper.wp
 have hrun:(execOp a.eval ⟨some t,.next x true,ty,pos,after,none⟩).run P w = .ok (.value (.tuple #[.bool false])) w:=by
  simp[execOp,hxx,Instr.next,getObj,Sem.run,Result.andThen,hgw,hp]
 rw[hrun]
 simp only[Oper.upon]
 exact hK' _ _ (hk.run _ _ ⟨h1,by simp[Act.put,h2],φ,hG,hH.put (by rw[h2];exact ht) (by simp[AV.rel,RV.rel,RV.rels])⟩)
end
theorem endsB{C C':Ctx}{fn:Func}{R0:RR→Prop}{S:St}{t:Nat}{v:Value}(hB:Below C.w0.heap.size C.w0 C'.w0)(hm:∀b,¬C'.mu b)(hr:fn.results=#[.tmp t])(hx:look S.env t = .ro (.c v))(hR:R0 (.ro (.c v))):∀a w,Sim C' S a w→R7 P C fn R0 a w:=by
 intro a w hs
 obtain⟨h1,v',h2,rr,bs,rfl,h4,h5,h6,h7⟩:=Zj (R:=fun r=>r = .ro (.c v)) hm hr hx rfl a w hs
 simp only[RR.rel,RV.rel]at h4
 obtain⟨rfl,rfl⟩:=h4
 exact⟨h1,v',h2,.ro (.c v'),[],hR,by simp[RR.rel,RV.rel],by simp,by simp,hB.trans (h7.mono hB.size)⟩
end
def bools(n:Nat)(u:Nat→Bool):List AV:=(List.range n).map fun j=>.bool (u j)
def boolsR(n:Nat)(u:Nat→Bool):List RV:=(List.range n).map fun j=>.bool (u j)
attribute [irreducible] bools boolsR
section
variable{P:Program}{C:Ctx}{ops:Array Oper}{rest:List Oper}{k:List Item}{R:Act→World→Prop}{env:Env}{σ:List Ob}{t:Nat}{ty:TypeId}{pos:String}{after:Array Edge}{gd:Option (Nat×Bool)}
end
def FreeI(i:Nat):List Ob→Prop
 | []=>True
 |o::os=>AV.onlys (fun k=>k≠i) o.cs∧FreeI i os
theorem FreeI.at_{i:Nat}:∀{os:List Ob},FreeI i os→∀(j:Nat) o,os[j]?=some o→AV.onlys (fun k=>k≠i) o.cs
 | [],_,j,o,hj=>by simp at hj
 |o::os,h,j,o',hj=>by
  simp only[FreeI]at h
  cases j with
  |zero=>simp at hj;subst hj;exact h.1
  |succ j=>exact FreeI.at_ h.2 j o' (by simpa using hj)
section
variable{P:Program}{C:Ctx}{ops:Array Oper}{rest:List Oper}{k:List Item}{R:Act→World→Prop}{env:Env}{σ:List Ob}{t:Nat}{ty:TypeId}{pos:String}{after:Array Edge}
theorem Ui{f:FuncId}{fn:Func}{xs:Array Operand}{ats:Array TypeId}{args:List RV}{rr:RR}[hfn:FN P f fn](hf:AC P f args fun r=>r=rr)(ha:xs.toList.map (ev env)=args.map .ro)(ht:t<C.n)
  (hk:RunsL P C ops rest k R ⟨(t,Bu σ.length rr)::env,σ++obs rr⟩) :
  RunsL P C ops (⟨some t,.call {callee:=.value (.func f),args:=xs,argTypes:=ats},ty,pos,after,none⟩::rest) k R ⟨env,σ⟩:=op_callO hf (ha▸Un args) ht hk
theorem Zu{tt e:TypeId}{z:Value}{sz bytes sz':Nat}{x:Operand}{els:List (List RV)}{gd:Option (Nat×Bool)}(n:Nat)[hs:SL P tt e z sz bytes](hx:ev env x = .ro (.seq sz' els))(hl:els.length=n) :
  Pur P C ⟨some t,.call {callee:=.builtin .len,args:=#[x],argTypes:=#[tt]},ty,pos,after,gd⟩ env σ (.int (n:Int)):=hl▸F1 hx
theorem U9{tt e:TypeId}{z:Value}{bytes i:Nat}{o:Ob}{rs:List RV}{els:List (List RV)}{x y:Operand}[hs:SL P tt e z 1 bytes](hx:ev env x = .own i)(ho:σ[i]?=some o)(hc:Rx o.cs=some rs)(hy:ev env y = .ro (.seq 1 els))(het:o.t=e)(hes:o.sz=1)
  (hfree:FreeI i (σ.set i ⟨o.t,o.sz,[]⟩)) (b1:rs.length+els.length≤4294967296) (b2:Nat.ble bytes 256=true) (ht:t<C.n)
  (hk:RunsL P C ops rest k R ⟨(t,.own i)::Qo i env,σ.set i ⟨e,1,(rs++els.flatten).map .ro⟩⟩) :
  RunsL P C ops (⟨some t,.call {callee:=.builtin .append,args:=#[x,y],argTypes:=#[tt,tt]},ty,pos,after,none⟩::rest) k R ⟨env,σ⟩:=
 Yl (n:=rs.length) hx ho (Lt hc) hy het hes (Nat.mul_one _).symm (fun j ob hj=>by
  by_cases hji:j=i
  ·subst hji
   rw[ho]at hj;injection hj with hj;subst hj
   rw[Lt hc];exact Yg _ _
  ·exact hfree.at_ j ob (by rw[List.getElem?_set_ne (Ne.symm hji)];exact hj)) (by omega) (by
  have h:=nbT b2
  have:=Nat.mul_le_mul b1 h
  omega) ht hk
theorem Fx{tt e:TypeId}{z:Value}{sz bytes:Nat}[hs:SL P tt e z sz bytes](w:World):(Instr.buildSlice tt 0 #[]).run P w = .ok (.slice (some ⟨w.heap.size,0,none⟩) 0 0) (w.alloc (.cells #[] e)):=by
 obtain⟨i,hi,hz0,hsz',hb⟩:=hs.el.hi
 simp[Instr.buildSlice,run_underlying hs.el.ht,sizeOf,typeInfo,hi,newRow,newObj,Instr.fill,show Array.range 0=#[] by rfl]
 rfl
theorem Xa{tt e:TypeId}{z:Value}{sz bytes:Nat}[hs:SL P tt e z sz bytes](ht:t<C.n)(hk:RunsL P C ops rest k R ⟨(t,.own σ.length)::env,σ++[⟨e,sz,[]⟩]⟩) :
  RunsL P C ops (⟨some t,.buildSlice tt 0 #[],ty,pos,after,none⟩::rest) k R ⟨env,σ⟩:=
 RunsL.val rfl rfl ht (fun a w φ hG hH=>by
  have hg:=Ks hG #[] e sz [] (by simp) (fun j v hj=>by simp at hj)
  refine⟨_,_,_,by simp only[execOp,Sem.run_bind];rw[show(#[]:Array (Nat×Operand)).map (fun p=>(p.1,a.eval p.2))=#[] from by simp,Fx (P:=P) (tt:=tt) w];rfl,hg.1,hg.2,?_⟩
  simp only[AV.rel]
  exact⟨⟨e,sz,[]⟩,0,by rw[Zbd (Nat.le_refl _),Nat.sub_self];rfl,by simp,hs.el.hs,.inr ⟨w.heap.size,0,_,Xg,rfl,heap_alloc_new w _,Nat.le_refl _,Nat.zero_le _,by simp⟩⟩) hk
end
theorem good_junk{C:Ctx}{w:World}{φ:Nat→Option Nat}{σ:List Ob}(hG:Good C ⟨w,φ,σ,C.ok⟩){j p:Nat}{o:Ob}(ho:σ[j]?=some o) :
  Good C ⟨w,φ,σ.set j ⟨o.t,o.sz,o.cs.set p .junk⟩,C.ok⟩∧Wn (fun _=>True) ⟨w,φ,σ,C.ok⟩ ⟨w,φ,σ.set j ⟨o.t,o.sz,o.cs.set p .junk⟩,C.ok⟩:=by
 have hj:=(Za5.1 ho).1
 have hK:Wn (fun _=>True) ⟨w,φ,σ,C.ok⟩ ⟨w,φ,σ.set j ⟨o.t,o.sz,o.cs.set p .junk⟩,C.ok⟩:=by
  refine⟨⟨Nat.le_refl _,fun b _ hb=>⟨⟨hb.1,fun i hi=>hb.2 i (by simpa using hi)⟩,rfl⟩⟩,fun i _ hi=>⟨by simpa using hi,rfl⟩,fun i ob _ hi=>?_,fun i g us t _ _ _ hh=>⟨us,hh,rfl⟩⟩
  by_cases e:i=j
  ·subst e
   have:ob=o:=Option.some.inj (hi.symm.trans ho)
   subst this
   exact⟨ob.cs.set p .junk,by simp[hj],by simp⟩
  ·exact⟨ob.cs,by simp only[List.getElem?_set_ne (Ne.symm e)];exact hi,rfl⟩
 refine⟨⟨rfl,fun a b g ha hb=>hG.inj a b g (by simpa using ha) (by simpa using hb),fun i ob hi=>?_,fun i g hi=>hG.mine i g (by simpa using hi),hG.frm⟩,hK⟩
 by_cases e:i=j
 ·subst e
  simp only[List.getElem?_set_self hj,Option.some.injEq]at hi
  subst hi
  have h:=hG.ob i o ho
  show ObRel _ _ (φ i)
  simp only at h
  cases hφ:φ i with
  |none=>
   rw[hφ]at h
   simp only[ObRel]at h ⊢
   simp[h]
  |some g=>
   rw[hφ]at h
   obtain⟨us,h1,h2,h3⟩:=h
   refine⟨us,h1,by simpa using h2,fun k v hk=>?_⟩
   simp only[List.getElem?_set]at hk
   split at hk
   ·rename_i hpk
    subst hpk
    split at hk
    ·rename_i hlt
     injection hk with hk;subst hk
     obtain⟨u,e1,e2,_⟩:=h3 p _ (Za6 hlt)
     exact⟨u,e1,e2,by simp[AV.rel]⟩
    ·cases hk
   ·obtain⟨u,e1,e2,e3⟩:=h3 k v hk
    exact⟨u,e1,e2,AV.rel_keeps hK _ _ (AV.only_true _) e3⟩
 ·rw[List.getElem?_set_ne (Ne.symm e)]at hi
  exact(hG.ob i ob hi).keeps hK fun _ _=>rfl
section
variable{P:Program}{C:Ctx}{ops:Array Oper}{rest:List Oper}{k:List Item}{R:Act→World→Prop}{env:Env}{σ:List Ob}{t:Nat}{ty:TypeId}{pos:String}{after:Array Edge}
theorem RunsL.junk{l:List Oper}(j p:Nat){o:Ob}(ho:σ[j]?=some o)(hk:RunsL P C ops l k R ⟨env,σ.set j ⟨o.t,o.sz,o.cs.set p .junk⟩⟩):RunsL P C ops l k R ⟨env,σ⟩:=
 ⟨fun a w ⟨h1,h2,φ,h3,h4⟩=>by
  obtain⟨g1,g2⟩:=good_junk (p:=p) h3 ho
  exact hk.run a w ⟨h1,h2,φ,g1,h4.keeps g2⟩⟩
theorem Ss{tt e:TypeId}{z:Value}{sz bytes i n:Nat}{o:Ob}{x y:Operand}{kd:IntKind}{q:Int}[hs:SL P tt e z sz bytes](hx:ev env x = .own i)(hy:ev env y = .ro (.c (.int kd q)))(ho:σ[i]?=some o)(hsz:o.sz=sz)(hl:o.cs.length=n*sz)(h0:0≤q)(hq:q≤n)(hn:0<n)
  (hfree:FreeI i (σ.set i ⟨o.t,o.sz,[]⟩)) (hro:∀(j:Nat) v,o.cs[j]?=some v→v.only fun k=>k≠i) (ht:t<C.n)
  (hk:RunsL P C ops rest k R ⟨(t,.own i)::Qo i env,σ.set i ⟨o.t,o.sz,o.cs.take (q.toNat*o.sz)⟩⟩) :
  RunsL P C ops (⟨some t,.slice tt x none (some y) none,ty,pos,after,none⟩::rest) k R ⟨env,σ⟩:=by
 refine⟨fun a w ⟨h1,h2,φ,hG,hH⟩=>?_⟩
 have hil:=(Za5.1 ho).1
 have h:=Xy hH x
 rw[hx]at h
 simp only[AV.rel]at h
 obtain⟨ob,n',r1,r2,r3,r4⟩:=h
 rw[ho]at r1;injection r1 with r1;subst r1
 rw[hsz]at r2 r3
 have hn':n'=n:=Nat.eq_of_mul_eq_mul_right r3 (r2.symm.trans hl)
 subst hn'
 rcases r4 with⟨_,e0,_⟩|⟨g,cap,us,hφ,eu,hh,c1,c2,c3⟩
 ·omega
 have hle:q.toNat*sz≤n'*sz:=Nat.mul_le_mul_right _ (by omega)
 have hK:Wn (fun k=>k≠i) ⟨w,φ,σ,C.ok⟩ ⟨w,φ,σ.set i ⟨o.t,o.sz,o.cs.take (q.toNat*o.sz)⟩,C.ok⟩:=
  ⟨⟨Nat.le_refl _,fun b _ hb=>⟨⟨hb.1,fun j hj=>hb.2 j (by simpa using hj)⟩,rfl⟩⟩,fun j _ hj=>⟨by simpa using hj,rfl⟩,fun j ob hji hj=>⟨ob.cs,by simp only[List.getElem?_set_ne (Ne.symm hji)];exact hj,rfl⟩,fun j g us t _ _ _ hh=>⟨us,hh,rfl⟩⟩
 have hG':Good C ⟨w,φ,σ.set i ⟨o.t,o.sz,o.cs.take (q.toNat*o.sz)⟩,C.ok⟩:=by
  refine⟨rfl,fun a b g ha hb=>hG.inj a b g (by simpa using ha) (by simpa using hb),fun j ob hj=>?_,fun j g hj=>hG.mine j g (by simpa using hj),hG.frm⟩
  by_cases e:j=i
  ·subst e
   simp only[List.getElem?_set_self hil,Option.some.injEq]at hj
   subst hj
   have hob:=hG.ob j o ho
   show ObRel _ _ (φ j)
   rw[hφ]
   rw[show(⟨w,φ,σ,C.ok⟩:Mem).φ j=some g from hφ]at hob
   obtain⟨us',q1,q2,q3⟩:=hob
   refine⟨us',q1,by rw[List.length_take];omega,fun m v hm=>?_⟩
   rw[List.getElem?_take]at hm
   split at hm
   ·obtain⟨u,e1,e2,e3⟩:=q3 m v hm
    exact⟨u,e1,e2,AV.rel_keeps hK _ _ (hro m v hm) e3⟩
   ·cases hm
  ·rw[List.getElem?_set_ne (Ne.symm e)]at hj
   have h:=hG.ob j ob hj
   have hfj:=hfree.at_ j ob (by rw[List.getElem?_set_ne (Ne.symm e)];exact hj)
   show ObRel _ _ (φ j)
   simp only at h
   cases hφj:φ j with
   |none=>rw[hφj]at h;exact h
   |some g'=>
    rw[hφj]at h
    obtain⟨us',q1,q2,q3⟩:=h
    refine⟨us',q1,q2,fun m v hm=>?_⟩
    obtain⟨u,e1,e2,e3⟩:=q3 m v hm
    exact⟨u,e1,e2,AV.rel_keeps hK _ _ (Vm hfj m v hm) e3⟩
 refine wpList_plain rfl fun K hK'=>?_
 have hyv:=Ei (m:=⟨w,φ,σ,C.ok⟩) (Xy hH y) hy
 have hrun:(execOp a.eval (⟨some t,.slice tt x none (some y) none,ty,pos,after,none⟩:Oper)).run P w = .ok (.value (sliced (some ⟨g,0,none⟩) 0 q.toNat cap sz)) w:=by
  simp only[execOp,Option.map_some,Option.map_none,hyv,eu,Sem.run_bind,run_sliceAt_slice w tt _ _ _ _ Lu,run_slice_h w tt (some ⟨g,0,none⟩) n' cap Lu kd q h0 (by omega),SL.size,Result.andThen_ok]
  rfl
 unfold Oper.wp
 rw[hrun]
 simp only[Oper.upon]
 refine hK' _ _ (hk.run _ _ ⟨h1,by simp[Act.put,h2],φ,hG',Holds.put (fun s=>?_) (by rw[h2];exact ht) ?_⟩)
 ·rw[Q2]
  exact AV.rel_keeps hK _ _ (AV.kill_only i _) (AV.kill_rel i _ _ (hH s))
 ·have e:sliced (some ⟨g,0,none⟩) 0 q.toNat cap sz = .slice (some ⟨g,0,none⟩) q.toNat cap:=by
   unfold sliced
   by_cases h:0<cap-0
   ·simp[Addr.add_lit,h]
   ·omega
  rw[e]
  simp only[AV.rel]
  refine⟨_,q.toNat,List.getElem?_set_self hil,by simp only[List.length_take,hsz];omega,by rw[hsz];exact r3,.inr ⟨g,cap,us,hφ,rfl,hh,by omega,c2,by rw[hsz];rw[hsz]at c3;exact c3⟩⟩
end
def Uh:Nat→List AV→Env
 |_,[]=>[]
 |t,r::rs=>(t,r)::Uh (t+1) rs
theorem L5:∀(rs:List AV) (t k:Nat),look (Uh t rs) k=if t≤k then(rs[k-t]?).getD .junk else .junk
 | [],t,k=>by simp[Uh,look]
 |r::rs,t,k=>by
  rw[Uh,Yy,L5 rs (t+1) k]
  by_cases h:t=k
  ·subst h;simp
  ·rw[if_neg h]
   by_cases h2:t+1≤k
   ·have e:k-t=(k-(t+1))+1:=by omega
    rw[if_pos h2,if_pos (by omega:t≤k),e,List.getElem?_cons_succ]
   ·rw[if_neg h2]
    split
    ·omega
    ·rfl
def AM(P:Program)(f:FuncId)(σ:List Ob)(st:List Nat)(args:List AV)(σ':List Ob)(v:AV):Prop:=
 ∀(w:World) (φ:Nat→Option Nat) (ok:Nat→Prop) (us:Array Value),Good ⟨w,ok,mine φ σ.length,0⟩ ⟨w,φ,σ,ok⟩→AV.rels ⟨w,φ,σ,ok⟩ args us.toList →
  Calls P f us w fun e w'=>∃u φ',e = .returned u∧Good ⟨w,ok,mine φ σ.length,0⟩ ⟨w',φ',σ',ok⟩∧AV.rel ⟨w',φ',σ',ok⟩ v u∧∀i∈st,φ' i=φ i
def pinA(gs:Nat→Nat):AV→AV
 | .obj i off=>.pin i off (gs i)
 |v=>v
def Pc(P:Program)(C:Ctx)(fn:Func)(gs:Nat→Nat)(st:List Nat)(σ':List Ob)(v:AV)(a:Act)(w:World):Prop:=
 a.defers=[]∧∃u,(results fn a.tmps).run P w = .ok u w∧∃φ',Good C ⟨w,φ',σ',C.ok⟩∧AV.rel ⟨w,φ',σ',C.ok⟩ v u∧∀i∈st,φ' i=some (gs i)
theorem S9{w:World}{ok mu:Nat→Prop}{n n':Nat}{m:Mem}(h:Good ⟨w,ok,mu,n⟩ m):Good ⟨w,ok,mu,n'⟩ m:=
 ⟨h.ok0,h.inj,h.ob,h.mine,⟨h.frm.os,h.frm.tape,h.frm.output,h.frm.size,h.frm.block,h.frm.new⟩⟩
theorem Yz{P:Program}{f:FuncId}{fn:Func}{c:Code}{σ σ':List Ob}{st:List Nat}{args:List AV}{v:AV}(hf:P.funcs[f]?=some fn)(hb:fn.body=some c)(n:Nat)(hn:fn.ntmps=n)(hl:args.length≤n)
  (hst:∀i∈st,∃off,AV.obj i off∈args)
  (h:∀(C:Ctx) (gs:Nat→Nat),C.n=n→Runs P C [.code c] (Pc P C fn gs st σ' v) ⟨Uh 0 (args.map (pinA gs)),σ⟩):AM P f σ st args σ' v:=by
 intro w φ ok us hG hu
 have hlen:=AV.rels_len args _ hu
 refine Wz hf hb ?_
 let gs:Nat→Nat:=fun i=>(φ i).getD 0
 have hs:Sim ⟨w,ok,mine φ σ.length,n⟩ ⟨Uh 0 (args.map (pinA gs)),σ⟩ {tmps:=us++Array.replicate (fn.ntmps-us.size) undef,defers:=[]} w:=by
  refine⟨rfl,by simp at hlen ⊢;omega,φ,S9 hG,fun t=>?_⟩
  rw[L5]
  simp only[Nat.zero_le,if_true,Nat.sub_zero,List.getElem?_map]
  cases hr:args[t]? with
  |none=>simp[AV.rel]
  |some r=>
   obtain⟨u,e1,e2⟩:=AV.rels_at args _ hu t r hr
   have ht:t<us.size:=by have:=(Za5.1 e1).1;simpa using this
   have:(us++Array.replicate (fn.ntmps-us.size) undef).getD t undef=u:=by
    rw[Array.getD_eq_getD_getElem?,Array.getElem?_append_left ht]
    have:us[t]?=some u:=by simpa using e1
    simp[this]
   simp only[Option.map_some,Option.getD_some]
   rw[this]
   cases r<;>simp only[pinA]<;>try exact e2
   case obj i off=>
    simp only[AV.rel]at e2 ⊢
    obtain⟨k1,g,k2,k3⟩:=e2
    have:gs i=g:=by simp only[gs,k2,Option.getD_some]
    rw[this]
    exact⟨k1,k2,k3⟩
 have hr:=(h ⟨w,ok,mine φ σ.length,n⟩ gs rfl).run _ w hs
 intro b cs
 obtain⟨a',w',todo,⟨hd,u,hv,φ',h1,h2,h3⟩,hstep⟩:=hr b cs
 refine⟨a',w',todo,⟨hd,u,hv,u,φ',rfl,S9 h1,h2,fun i hi=>?_⟩,hstep⟩
 obtain⟨off,ho⟩:=hst i hi
 obtain⟨j,hj⟩:=List.mem_iff_getElem?.1 ho
 obtain⟨u',_,e2⟩:=AV.rels_at args _ hu j _ hj
 simp only[AV.rel]at e2
 obtain⟨_,g,k2,_⟩:=e2
 rw[h3 i hi]
 simp only[gs,k2,Option.getD_some]
section
variable{P:Program}{C:Ctx}{fn:Func}{S:St}{gs:Nat→Nat}{st:List Nat}{σ':List Ob}{v:AV}
theorem pins{φ:Nat→Option Nat}{w:World}{a:Act}(hH:Holds ⟨w,φ,S.σ,C.ok⟩ S.env a)(h:∀i∈st,∃t off,look S.env t = .pin i off (gs i)):∀i∈st,φ i=some (gs i):=fun i hi=>by
 obtain⟨t,off,ht⟩:=h i hi
 have:=hH t
 rw[ht]at this
 simp only[AV.rel]at this
 exact this.2.1
theorem Tq(hst:∀i∈st,∃t off,look S.env t = .pin i off (gs i))(hr:fn.results=#[])(hσ:S.σ=σ'):∀a w,Sim C S a w→Pc P C fn gs st σ' (.tup []) a w:=by
 rintro a w ⟨h1,h2,φ,hG,hH⟩
 subst hσ
 exact⟨h1,.tuple #[],by rw[W3,hr];simp,φ,hG,by simp[AV.rel,AV.rels],pins hH hst⟩
theorem endsA2{x y:ResultVar}{vx vy:AV}(hst:∀i∈st,∃t off,look S.env t = .pin i off (gs i))(hr:fn.results=#[x,y])(hx:H3 P S x vx)(hy:H3 P S y vy)(hσ:S.σ=σ'):∀a w,Sim C S a w→Pc P C fn gs st σ' (.tup [vx,vy]) a w:=by
 rintro a w ⟨h1,h2,φ,hG,hH⟩
 subst hσ
 obtain⟨u,k1,k2⟩:=Ld (P:=P) hG hH x vx hx
 obtain⟨u',k1',k2'⟩:=Ld (P:=P) hG hH y vy hy
 exact⟨h1,.tuple #[u,u'],by rw[W3,hr];simp[k1,k1'],φ,hG,by simp only[AV.rel];exact⟨_,rfl,by simp only[AV.rels];exact⟨u,[u'],rfl,k2,u',[],rfl,k2',rfl⟩⟩,pins hH hst⟩
end
mutual
def AV.ren(r:Nat→Nat):AV→AV
 | .ro v=>.ro v
 | .junk=>.junk
 | .obj i off=>.obj (r i) off
 | .pin i off g=>.pin (r i) off g
 | .own i=>.own (r i)
 | .agg cs=>.agg (Yx r cs)
 | .tup vs=>.tup (Yx r vs)
 | .fn f a b=>.fn f (Yx r a) (Yx r b)
def Yx(r:Nat→Nat):List AV→List AV
 | []=>[]
 |x::xs=>AV.ren r x::Yx r xs
end
def Ob.ren(r:Nat→Nat)(o:Ob):Ob:=⟨o.t,o.sz,Yx r o.cs⟩
theorem Qz(r:Nat→Nat):∀l:List AV,(Yx r l).length=l.length
 | []=>rfl
 |x::xs=>by simp[Yx,Qz r xs]
theorem Gs(r:Nat→Nat):∀(l:List AV) (j:Nat),(Yx r l)[j]?=(l[j]?).map (AV.ren r)
 | [],j=>by simp[Yx]
 |x::xs,0=>by simp[Yx]
 |x::xs,j+1=>by simp[Yx,Gs r xs j]
mutual
def AV.rid(lent st:Nat→Bool):AV→AV
 | .ro v=>.ro v
 | .junk=>.junk
 | .obj i off=>match lent i,st i with
  |true,false=>.junk
  |_,_=>.obj i off
 | .pin i off g=>match lent i,st i with
  |true,false=>.junk
  |_,_=>.pin i off g
 | .own i=>match lent i with
  |true=>.junk
  |false=>.own i
 | .agg cs=>.agg (W2 lent st cs)
 | .tup vs=>.tup (W2 lent st vs)
 | .fn f a b=>.fn f (W2 lent st a) (W2 lent st b)
def W2(lent st:Nat→Bool):List AV→List AV
 | []=>[]
 |x::xs=>AV.rid lent st x::W2 lent st xs
end
def Ly(lent st:Nat→Bool):Env→Env
 | []=>[]
 |(t,v)::e=>(t,v.rid lent st)::Ly lent st e
theorem Ve(lent st:Nat→Bool):∀(e:Env) (t:Nat),look (Ly lent st e) t=(look e t).rid lent st
 | [],t=>by simp[Ly,look,AV.rid]
 |(s,v)::e,t=>by
  rw[Ly,Yy,Yy]
  split
  ·rfl
  ·exact Ve lent st e t
section
variable{m m':Mem}{r:Nat→Nat}{lent st:Nat→Bool}
mutual
theorem In{n:Nat}(hw:m'.w=m.w)(hok:∀b,m.ok b→m'.ok b)(hφ:∀i,i<n→m'.φ i=m.φ (r i))(hn:m'.σ.length=n)(hσ:∀(i:Nat) o,i<n→m.σ[r i]?=some o→∃cs,m'.σ[i]?=some ⟨o.t,o.sz,cs⟩∧cs.length=o.cs.length) :
  ∀(v:AV) (u:Value),v.only (fun i=>i<n)→AV.rel m (v.ren r) u→AV.rel m' v u
 | .ro v,u,_,h=>by
  simp only[AV.ren,AV.rel]at h ⊢
  exact RV.rel_mono ⟨by rw[hw];exact Nat.le_refl _,fun b _ hb=>⟨hok b hb,by rw[hw]⟩⟩ v u h
 | .junk,u,_,_=>by simp[AV.rel]
 | .obj i off,u,ho,h=>by
  simp only[AV.ren,AV.rel,AV.only]at h ho ⊢
  obtain⟨_,g,h2,h3⟩:=h
  exact⟨by omega,g,(hφ i ho).trans h2,h3⟩
 | .pin i off g,u,ho,h=>by
  simp only[AV.ren,AV.rel,AV.only]at h ho ⊢
  obtain⟨_,h2,h3⟩:=h
  exact⟨by omega,(hφ i ho).trans h2,h3⟩
 | .own i,u,ho,h=>by
  simp only[AV.ren,AV.rel,AV.only]at h ho ⊢
  obtain⟨ob,k,h1,h2,h3,h4⟩:=h
  obtain⟨cs,e1,e2⟩:=hσ i ob ho h1
  refine⟨_,k,e1,by simp only;rw[e2];exact h2,h3,?_⟩
  rcases h4 with⟨q1,q2,q3⟩|⟨g,cap,us,q1,q2,q3,q4⟩
  ·exact .inl ⟨q1,q2,(hφ i ho).trans q3⟩
  ·exact .inr ⟨g,cap,us,(hφ i ho).trans q1,q2,by rw[hw];exact q3,q4⟩
 | .agg cs,u,ho,h=>by
  simp only[AV.ren,AV.rel,AV.only]at h ho ⊢
  obtain⟨us,e,h1⟩:=h
  exact⟨us,e,Ke hw hok hφ hn hσ cs _ ho h1⟩
 | .tup cs,u,ho,h=>by
  simp only[AV.ren,AV.rel,AV.only]at h ho ⊢
  obtain⟨us,e,h1⟩:=h
  exact⟨us,e,Ke hw hok hφ hn hσ cs _ ho h1⟩
 | .fn f a b,u,ho,h=>by
  simp only[AV.ren,AV.rel,AV.only]at h ho ⊢
  obtain⟨us,vs,e,h1,h2⟩:=h
  exact⟨us,vs,e,Ke hw hok hφ hn hσ a _ ho.1 h1,Ke hw hok hφ hn hσ b _ ho.2 h2⟩
theorem Ke{n:Nat}(hw:m'.w=m.w)(hok:∀b,m.ok b→m'.ok b)(hφ:∀i,i<n→m'.φ i=m.φ (r i))(hn:m'.σ.length=n)(hσ:∀(i:Nat) o,i<n→m.σ[r i]?=some o→∃cs,m'.σ[i]?=some ⟨o.t,o.sz,cs⟩∧cs.length=o.cs.length) :
  ∀(vs:List AV) (us:List Value),AV.onlys (fun i=>i<n) vs→AV.rels m (Yx r vs) us→AV.rels m' vs us
 | [],us,_,h=>by simpa [Yx,AV.rels] using h
 |x::xs,us,ho,h=>by
  simp only[Yx,AV.rels,AV.onlys]at h ho ⊢
  obtain⟨u,us',e,h1,h2⟩:=h
  exact⟨u,us',e,In hw hok hφ hn hσ x u ho.1 h1,Ke hw hok hφ hn hσ xs us' ho.2 h2⟩
end
mutual
theorem Pp{n:Nat}(hw:m'.w=m.w)(hok:∀b,m.ok b→m'.ok b)(hφ:∀i,i<n→m'.φ (r i)=m.φ i)(hr:∀i,i<n→r i<m'.σ.length)(hn:m.σ.length=n)(hσ:∀(i:Nat) o,m.σ[i]?=some o→∃cs,m'.σ[r i]?=some ⟨o.t,o.sz,cs⟩∧cs.length=o.cs.length) :
  ∀(v:AV) (u:Value),AV.rel m v u→AV.rel m' (v.ren r) u
 | .ro v,u,h=>by
  simp only[AV.ren,AV.rel]at h ⊢
  exact RV.rel_mono ⟨by rw[hw];exact Nat.le_refl _,fun b _ hb=>⟨hok b hb,by rw[hw]⟩⟩ v u h
 | .junk,u,_=>by simp[AV.rel,AV.ren]
 | .obj i off,u,h=>by
  simp only[AV.ren,AV.rel]at h ⊢
  obtain⟨h1,g,h2,h3⟩:=h
  exact⟨hr i (by omega),g,(hφ i (by omega)).trans h2,h3⟩
 | .pin i off g,u,h=>by
  simp only[AV.ren,AV.rel]at h ⊢
  obtain⟨h1,h2,h3⟩:=h
  exact⟨hr i (by omega),(hφ i (by omega)).trans h2,h3⟩
 | .own i,u,h=>by
  simp only[AV.ren,AV.rel]at h ⊢
  obtain⟨ob,k,h1,h2,h3,h4⟩:=h
  obtain⟨cs,e1,e2⟩:=hσ i ob h1
  have hi:i<n:=by have:=(Za5.1 h1).1;omega
  refine⟨_,k,e1,by simp only;rw[e2];exact h2,h3,?_⟩
  rcases h4 with⟨q1,q2,q3⟩|⟨g,cap,us,q1,q2,q3,q4⟩
  ·exact .inl ⟨q1,q2,(hφ i hi).trans q3⟩
  ·exact .inr ⟨g,cap,us,(hφ i hi).trans q1,q2,by rw[hw];exact q3,q4⟩
 | .agg cs,u,h=>by
  simp only[AV.ren,AV.rel]at h ⊢
  obtain⟨us,e,h1⟩:=h
  exact⟨us,e,Mw hw hok hφ hr hn hσ cs _ h1⟩
 | .tup cs,u,h=>by
  simp only[AV.ren,AV.rel]at h ⊢
  obtain⟨us,e,h1⟩:=h
  exact⟨us,e,Mw hw hok hφ hr hn hσ cs _ h1⟩
 | .fn f a b,u,h=>by
  simp only[AV.ren,AV.rel]at h ⊢
  obtain⟨us,vs,e,h1,h2⟩:=h
  exact⟨us,vs,e,Mw hw hok hφ hr hn hσ a _ h1,Mw hw hok hφ hr hn hσ b _ h2⟩
theorem Mw{n:Nat}(hw:m'.w=m.w)(hok:∀b,m.ok b→m'.ok b)(hφ:∀i,i<n→m'.φ (r i)=m.φ i)(hr:∀i,i<n→r i<m'.σ.length)(hn:m.σ.length=n)(hσ:∀(i:Nat) o,m.σ[i]?=some o→∃cs,m'.σ[r i]?=some ⟨o.t,o.sz,cs⟩∧cs.length=o.cs.length) :
  ∀(vs:List AV) (us:List Value),AV.rels m vs us→AV.rels m' (Yx r vs) us
 | [],us,h=>by simpa [Yx,AV.rels] using h
 |x::xs,us,h=>by
  simp only[Yx,AV.rels]at h ⊢
  obtain⟨u,us',e,h1,h2⟩:=h
  exact⟨u,us',e,Pp hw hok hφ hr hn hσ x u h1,Mw hw hok hφ hr hn hσ xs us' h2⟩
end
mutual
theorem rel_rid(hro:RV.Kept m.w m.ok m'.w m'.ok)(hlen:m'.σ.length=m.σ.length)(hφ:∀i,i<m.σ.length→lent i=false∨st i=true→m'.φ i=m.φ i)(hσ:∀i,lent i=false→m'.σ[i]?=m.σ[i]?)(hb:∀i g,i<m.σ.length→lent i=false→m.φ i=some g→m'.w.heap[g]?=m.w.heap[g]?) :
  ∀(v:AV) (u:Value),AV.rel m v u→AV.rel m' (v.rid lent st) u
 | .ro v,u,h=>by
  simp only[AV.rid,AV.rel]at h ⊢
  exact RV.rel_mono hro v u h
 | .junk,u,_=>by simp[AV.rel,AV.rid]
 | .obj i off,u,h=>by
  have key:lent i=false∨st i=true→AV.rel m' (.obj i off) u:=fun hk=>by
   simp only[AV.rel]at h ⊢
   obtain⟨h1,g,h2,h3⟩:=h
   exact⟨by omega,g,(hφ i h1 hk).trans h2,h3⟩
  unfold AV.rid
  cases h1:lent i<;>cases h2:st i<;>first|exact key (.inl h1)|exact key (.inr h2)|simp[AV.rel]
 | .pin i off g,u,h=>by
  have key:lent i=false∨st i=true→AV.rel m' (.pin i off g) u:=fun hk=>by
   simp only[AV.rel]at h ⊢
   obtain⟨h1,h2,h3⟩:=h
   exact⟨by omega,(hφ i h1 hk).trans h2,h3⟩
  unfold AV.rid
  cases h1:lent i<;>cases h2:st i<;>first|exact key (.inl h1)|exact key (.inr h2)|simp[AV.rel]
 | .own i,u,h=>by
  have key:lent i=false→AV.rel m' (.own i) u:=fun hk=>by
   simp only[AV.rel]at h ⊢
   obtain⟨ob,k,h1,h2,h3,h4⟩:=h
   have hi:=(Za5.1 h1).1
   refine⟨ob,k,(hσ i hk).trans h1,h2,h3,?_⟩
   rcases h4 with⟨q1,q2,q3⟩|⟨g,cap,us,q1,q2,q3,q4⟩
   ·exact .inl ⟨q1,q2,(hφ i hi (.inl hk)).trans q3⟩
   ·exact .inr ⟨g,cap,us,(hφ i hi (.inl hk)).trans q1,q2,(hb i g hi hk q1).trans q3,q4⟩
  unfold AV.rid
  cases h1:lent i<;>first|exact key h1|simp[AV.rel]
 | .agg cs,u,h=>by
  simp only[AV.rid,AV.rel]at h ⊢
  obtain⟨us,e,h1⟩:=h
  exact⟨us,e,Mv hro hlen hφ hσ hb cs _ h1⟩
 | .tup cs,u,h=>by
  simp only[AV.rid,AV.rel]at h ⊢
  obtain⟨us,e,h1⟩:=h
  exact⟨us,e,Mv hro hlen hφ hσ hb cs _ h1⟩
 | .fn f a b,u,h=>by
  simp only[AV.rid,AV.rel]at h ⊢
  obtain⟨us,vs,e,h1,h2⟩:=h
  exact⟨us,vs,e,Mv hro hlen hφ hσ hb a _ h1,Mv hro hlen hφ hσ hb b _ h2⟩
theorem Mv(hro:RV.Kept m.w m.ok m'.w m'.ok)(hlen:m'.σ.length=m.σ.length)(hφ:∀i,i<m.σ.length→lent i=false∨st i=true→m'.φ i=m.φ i)(hσ:∀i,lent i=false→m'.σ[i]?=m.σ[i]?)(hb:∀i g,i<m.σ.length→lent i=false→m.φ i=some g→m'.w.heap[g]?=m.w.heap[g]?) :
  ∀(vs:List AV) (us:List Value),AV.rels m vs us→AV.rels m' (W2 lent st vs) us
 | [],us,h=>by simpa [W2,AV.rels] using h
 |x::xs,us,h=>by
  simp only[W2,AV.rels]at h ⊢
  obtain⟨u,us',e,h1,h2⟩:=h
  exact⟨u,us',e,rel_rid hro hlen hφ hσ hb x u h1,Mv hro hlen hφ hσ hb xs us' h2⟩
end
end
theorem rids_at(lent st:Nat→Bool):∀(l:List AV) (j:Nat),(W2 lent st l)[j]?=(l[j]?).map (AV.rid lent st)
 | [],j=>by simp[W2]
 |x::xs,0=>by simp[W2]
 |x::xs,j+1=>by simp[W2,rids_at lent st xs j]
def rof(ι:List Nat)(i:Nat):Nat:=(ι[i]?).getD 0
def Wt(ι:List Nat)(i:Nat):Bool:=ι.any fun j=>Nat.beq j i
def Fv(ι st:List Nat)(i:Nat):Bool:=st.any fun j=>Nat.beq (rof ι j) i
def Wu(ι:List Nat)(σ:List Ob):List Ob→Nat→List Ob
 | [],_=>σ
 |o::os,j=>Wu ι (σ.set (rof ι j) (o.ren (rof ι))) os (j+1)
theorem Ak(ι:List Nat):∀(os σ:List Ob) (j:Nat),(Wu ι σ os j).length=σ.length
 | [],σ,j=>rfl
 |o::os,σ,j=>by rw[Wu,Ak ι os];simp
theorem Lf(ι:List Nat)(i:Nat):∀(os σ:List Ob) (j:Nat),(∀k,k<os.length→rof ι (j+k)≠i)→(Wu ι σ os j)[i]?=σ[i]?
 | [],σ,j,_=>rfl
 |o::os,σ,j,h=>by
  rw[Wu,Lf ι i os _ (j+1) fun k hk=>by
   have:=h (k+1) (by simp;omega)
   rwa [show j+(k+1)=j+1+k by omega]at this]
  exact List.getElem?_set_ne (h 0 (by simp))
theorem E5(ι:List Nat):∀(os σ:List Ob) (j:Nat),(∀a b,a<os.length→b<os.length→rof ι (j+a)=rof ι (j+b)→a=b)→∀(k:Nat) o,os[k]?=some o→rof ι (j+k)<σ.length→(Wu ι σ os j)[rof ι (j+k)]?=some (o.ren (rof ι))
 | [],σ,j,_,k,o,h,_=>by simp at h
 |x::os,σ,j,hinj,k,o,h,hlt=>by
  rw[Wu]
  cases k with
  |zero=>
   simp at h;subst h
   rw[Lf ι _ os _ (j+1) fun k hk e=>by
    have:=hinj (k+1) 0 (by simp;omega) (by simp) (by rw[show j+(k+1)=j+1+k by omega];exact e)
    omega]
   rw[Nat.add_zero]at hlt ⊢
   exact List.getElem?_set_self hlt
  |succ k=>
   simp at h
   have:=E5 ι os (σ.set (rof ι j) (x.ren (rof ι))) (j+1) (fun a b ha hb e=>by
    have:=hinj (a+1) (b+1) (by simp;omega) (by simp;omega) (by rw[show j+(a+1)=j+1+a by omega,show j+(b+1)=j+1+b by omega];exact e)
    omega) k o h (by rw[show j+1+k=j+(k+1) by omega];simpa using hlt)
   rwa [show j+1+k=j+(k+1) by omega]at this
def LentAt(ι:List Nat)(σ:List Ob):List Ob→Nat→Prop
 | [],_=>True
 |o::os,j=>σ[rof ι j]?=some (o.ren (rof ι))∧LentAt ι σ os (j+1)
theorem LentAt.at_{ι:List Nat}{σ:List Ob}:∀{os:List Ob} {j:Nat},LentAt ι σ os j→∀(k:Nat) o,os[k]?=some o→σ[rof ι (j+k)]?=some (o.ren (rof ι))
 | [],j,_,k,o,h=>by simp at h
 |x::os,j,hl,k,o,h=>by
  simp only[LentAt]at hl
  cases k with
  |zero=>simp at h;subst h;exact hl.1
  |succ k=>
   simp at h
   have:=LentAt.at_ hl.2 k o h
   rwa [show j+1+k=j+(k+1) by omega]at this
def FreeR(ι st:List Nat):Nat→List Ob→Prop
 |_,[]=>True
 |i,o::os=>(Wt ι i=true∨W2 (Wt ι) (Fv ι st) o.cs=o.cs)∧FreeR ι st (i+1) os
theorem FreeR.at_{ι st:List Nat}:∀{os:List Ob} {i:Nat},FreeR ι st i os→∀(k:Nat) o,os[k]?=some o→Wt ι (i+k)=true∨W2 (Wt ι) (Fv ι st) o.cs=o.cs
 | [],i,_,k,o,h=>by simp at h
 |x::os,i,hl,k,o,h=>by
  simp only[FreeR]at hl
  cases k with
  |zero=>simp at h;subst h;exact hl.1
  |succ k=>
   simp at h
   have:=FreeR.at_ hl.2 k o h
   rwa [show i+1+k=i+(k+1) by omega]at this
structure Lent (ι st:List Nat) (σ σ0 σ1:List Ob):Prop where
 len:Nat.beq σ0.length ι.length=true
 len1:Nat.beq σ1.length ι.length=true
 lt:(ι.all fun i=>Nat.ble (i+1) σ.length)=true
 inj:ι.Nodup
 at_:LentAt ι σ σ0 0
 closed:FreeO σ0.length σ0
 stl:(st.all fun j=>Nat.ble (j+1) ι.length)=true
 free:FreeR ι st 0 σ
def unpin:AV→AV
 | .pin i off _=>.obj i off
 |v=>v
theorem Jk{m:Mem}{v:AV}{u:Value}(h:AV.rel m v u):AV.rel m (unpin v) u:=by
 cases v<;>simp only[unpin]<;>try exact h
 case pin i off g=>
  simp only[AV.rel]at h ⊢
  exact⟨h.1,g,h.2.1,h.2.2⟩
def Mz(d:Option Nat)(v:AV)(env:Env):Env:=match d with
 |some t=>(t,v)::env
 |none=>env
theorem lentB_iff{ι:List Nat}{i:Nat}:Wt ι i=true↔∃j,j<ι.length∧rof ι j=i:=by
 unfold Wt
 rw[List.any_eq_true]
 constructor
 ·rintro⟨x,hx,hb⟩
  obtain⟨j,hj,rfl⟩:=List.getElem_of_mem hx
  exact⟨j,hj,by simpa [rof,hj] using Nat.eq_of_beq_eq_true hb⟩
 ·rintro⟨j,hj,rfl⟩
  refine⟨ι[j],List.getElem_mem hj,?_⟩
  simp[rof,hj]
theorem rof_inj{ι:List Nat}(h:ι.Nodup){a b:Nat}(ha:a<ι.length)(hb:b<ι.length)(e:rof ι a=rof ι b):a=b:=by
 simp only[rof,Za6 ha,Za6 hb,Option.getD_some]at e
 exact(List.getElem_inj h).1 e
section
variable{P:Program}{C:Ctx}{ops:Array Oper}{rest:List Oper}{k:List Item}{R:Act→World→Prop}{env:Env}{σ:List Ob}{t:Nat}{ty:TypeId}{pos:String}{after:Array Edge}
theorem Dl{ι st:List Nat}{σ0 σ1:List Ob}{w w':World}{φ φ1:Nat→Option Nat}(hL:Lent ι st σ σ0 σ1)(hG:Good C ⟨w,φ,σ,C.ok⟩){ok0:Nat→Prop}(hok0:ok0=fun b=>C.ok b∧∀i,i<σ.length→Wt ι i=false→φ i≠some b)
  (hG1:Good ⟨w,ok0,mine (fun j=>φ (rof ι j)) σ0.length,0⟩ ⟨w',φ1,σ1,ok0⟩) (hst:∀i∈st,φ1 i=φ (rof ι i)) :
  ∃φ',Good C ⟨w',φ',Wu ι σ σ1 0,C.ok⟩∧(∀v u,AV.rel ⟨w,φ,σ,C.ok⟩ v u→AV.rel ⟨w',φ',Wu ι σ σ1 0,C.ok⟩ (v.rid (Wt ι) (Fv ι st)) u)∧(∀v u,AV.rel ⟨w',φ1,σ1,ok0⟩ v u→AV.rel ⟨w',φ',Wu ι σ σ1 0,C.ok⟩ (v.ren (rof ι)) u):=by
 subst hok0
 have hl0:σ0.length=ι.length:=Nat.eq_of_beq_eq_true hL.len
 have hl1:σ1.length=ι.length:=Nat.eq_of_beq_eq_true hL.len1
 have hlt:∀j,j<ι.length→rof ι j<σ.length:=fun j hj=>by
  have:=List.all_eq_true.1 hL.lt ι[j] (List.getElem_mem hj)
  have:=nbT this
  simp only[rof,Za6 hj,Option.getD_some]
  omega
 have hinj:∀a b,a<ι.length→b<ι.length→rof ι a=rof ι b→a=b:=fun a b ha hb e=>rof_inj hL.inj ha hb e
 let φ':Nat→Option Nat:=open Classical in fun i=>if h:∃j,j<ι.length∧rof ι j=i then φ1 h.choose else φ i
 have e1:∀j,j<ι.length→φ' (rof ι j)=φ1 j:=fun j hj=>by
  have hex:∃j',j'<ι.length∧rof ι j'=rof ι j:=⟨j,hj,rfl⟩
  show(if h:∃j',j'<ι.length∧rof ι j'=rof ι j then φ1 h.choose else φ (rof ι j))=_
  rw[dif_pos hex,hinj _ _ hex.choose_spec.1 hj hex.choose_spec.2]
 have e2:∀i,Wt ι i=false→φ' i=φ i:=fun i hi=>by
  have hex:¬∃j',j'<ι.length∧rof ι j'=i:=fun h=>by rw[lentB_iff.2 h]at hi;cases hi
  show(if h:∃j',j'<ι.length∧rof ι j'=i then φ1 h.choose else φ i)=_
  rw[dif_neg hex]
 have hlen':(Wu ι σ σ1 0).length=σ.length:=Ak ι σ1 σ 0
 have hat:∀(j:Nat) o,σ1[j]?=some o→(Wu ι σ σ1 0)[rof ι j]?=some (o.ren (rof ι)):=fun j o hj=>by
  have hjl:=(Za5.1 hj).1
  have:=E5 ι σ1 σ 0 (fun a b ha hb e=>hinj a b (by omega) (by omega) (by simpa using e)) j o hj (by rw[Nat.zero_add];exact hlt j (by omega))
  rwa [Nat.zero_add]at this
 have hoff:∀i,Wt ι i=false→(Wu ι σ σ1 0)[i]?=σ[i]?:=fun i hi=>Lf ι i σ1 σ 0 fun k hk e=>by
  rw[lentB_iff.2 ⟨0+k,by omega,e⟩]at hi;cases hi
 have hblk:∀b,b<w.heap.size→(∀j,j<ι.length→φ (rof ι j)≠some b)→w'.heap[b]?=w.heap[b]?:=fun b hb h=>hG1.frm.block b hb fun⟨i,hi,e⟩=>h i (by omega) e
 have hm1:∀j g,j<ι.length→φ1 j=some g→(∃j',j'<ι.length∧φ (rof ι j')=some g)∨w.heap.size≤g:=fun j g hj hg=>by
  rcases hG1.mine j g (by simp only;omega) hg with⟨i,hi,e⟩|h
  ·exact .inl ⟨i,by omega,e⟩
  ·exact .inr h
 have hwl:w.heap.size≤w'.heap.size:=hG1.frm.size
 have hGlt:∀i g,i<σ.length→φ i=some g→g<w.heap.size:=fun i g hi hg=>hG.lt hi hg
 -- a block that an object has now was one's before, or is new
 have hold:∀i g,i<σ.length→φ' i=some g→(∃i',i'<σ.length∧φ i'=some g∧(Wt ι i=false→i'=i)∧(Wt ι i=true→Wt ι i'=true))∨(w.heap.size≤g∧Wt ι i=true):=fun i g hi hg=>by
  cases hb:Wt ι i with
  |false=>
   rw[e2 i hb]at hg
   exact .inl ⟨i,hi,hg,fun _=>rfl,fun h=>by cases h⟩
  |true=>
   obtain⟨j,hj,rfl⟩:=lentB_iff.1 hb
   rw[e1 j hj]at hg
   rcases hm1 j g hj hg with⟨j',hj',h⟩|h
   ·exact .inl ⟨rof ι j',hlt j' hj',h,fun h=>by simp at h,fun _=>lentB_iff.2 ⟨j',hj',rfl⟩⟩
   ·exact .inr ⟨h,rfl⟩
 have hok2:∀b,b<w.heap.size→AV.Mem.ok ⟨w,φ,σ,C.ok⟩ b→AV.Mem.ok ⟨w',φ',Wu ι σ σ1 0,C.ok⟩ b:=fun b hb ho=>⟨ho.1,fun i hi e=>by
  simp only at hi e
  rw[hlen']at hi
  rcases hold i b hi e with⟨i',h1,h2,_⟩|⟨h,_⟩
  ·exact ho.2 i' h1 h2
  ·omega⟩
 have hkept:RV.Kept w (AV.Mem.ok ⟨w,φ,σ,C.ok⟩) w' (AV.Mem.ok ⟨w',φ',Wu ι σ σ1 0,C.ok⟩):=⟨hwl,fun b hb ho=>⟨hok2 b hb ho,hblk b hb fun j hj e=>ho.2 (rof ι j) (hlt j hj) e⟩⟩
 have hnb:∀i g,i<σ.length→Wt ι i=false→φ i=some g→w'.heap[g]?=w.heap[g]?:=fun i g hi hb hg=>hblk g (hGlt i g hi hg) fun j hj e=>by
  have:=hG.inj i (rof ι j) g hi (hlt j hj) hg e
  rw[this,lentB_iff.2 ⟨j,hj,rfl⟩]at hb
  cases hb
 have hrid:∀v u,AV.rel ⟨w,φ,σ,C.ok⟩ v u→AV.rel ⟨w',φ',Wu ι σ σ1 0,C.ok⟩ (v.rid (Wt ι) (Fv ι st)) u:=rel_rid (m:=⟨w,φ,σ,C.ok⟩) (m':=⟨w',φ',Wu ι σ σ1 0,C.ok⟩) hkept hlen' (fun i hi h=>by
  show φ' i=φ i
  rcases h with h|h
  ·exact e2 i h
  ·unfold Fv at h
   rw[List.any_eq_true]at h
   obtain⟨j,hj,hb⟩:=h
   have hjl:=nbT (List.all_eq_true.1 hL.stl j hj)
   have:=Nat.eq_of_beq_eq_true hb
   subst this
   rw[e1 j (by omega),hst j hj]) hoff hnb
 have hren:∀v u,AV.rel ⟨w',φ1,σ1,fun b=>C.ok b∧∀i,i<σ.length→Wt ι i=false→φ i≠some b⟩ v u→AV.rel ⟨w',φ',Wu ι σ σ1 0,C.ok⟩ (v.ren (rof ι)) u:=Pp (n:=ι.length) rfl (fun b ho=>⟨ho.1.1,fun i hi e=>by
  simp only at hi e
  rw[hlen']at hi
  cases hb:Wt ι i with
  |false=>rw[e2 i hb]at e;exact ho.1.2 i hi hb e
  |true=>
   obtain⟨j,hj,rfl⟩:=lentB_iff.1 hb
   rw[e1 j hj]at e
   exact ho.2 j (by simp only;omega) e⟩) (fun i hi=>e1 i hi) (fun i hi=>by simp only[hlen'];exact hlt i hi) hl1 (fun i o hi=>⟨Yx (rof ι) o.cs,hat i o hi,Qz _ _⟩)
 refine⟨φ',⟨rfl,fun i j g hi hj h1 h2=>?_,fun i o hi=>?_,fun i g hi hg=>?_,⟨hG1.frm.os.trans hG.frm.os,hG1.frm.tape.trans hG.frm.tape,hG1.frm.output.trans hG.frm.output,Nat.le_trans hG.frm.size hwl,fun b hb hm=>?_,hG.frm.new⟩⟩,hrid,hren⟩
 ·simp only[hlen']at hi hj h1 h2
  cases hbi:Wt ι i with
  |true=>
   obtain⟨a,ha,rfl⟩:=lentB_iff.1 hbi
   cases hbj:Wt ι j with
   |true=>
    obtain⟨b,hb,rfl⟩:=lentB_iff.1 hbj
    rw[e1 a ha]at h1
    rw[e1 b hb]at h2
    rw[hG1.inj a b g (by simp only;omega) (by simp only;omega) h1 h2]
   |false=>
    rw[e2 j hbj]at h2
    rcases hold _ g hi h1 with⟨i',k1,k2,_,k4⟩|⟨h,_⟩
    ·have:=hG.inj i' j g k1 hj k2 h2
     rw[this]at k4
     rw[k4 hbi]at hbj;cases hbj
    ·have:=hGlt j g hj h2;omega
  |false=>
   rw[e2 i hbi]at h1
   rcases hold _ g hj h2 with⟨j',k1,k2,k3,k4⟩|⟨h,_⟩
   ·have e:=hG.inj i j' g hi k1 h1 k2
    cases hbj:Wt ι j with
    |true=>rw[←e]at k4;rw[k4 hbj]at hbi;cases hbi
    |false=>rw[e,k3 hbj]
   ·have:=hGlt i g hi h1;omega
 ·show ObRel _ _ (φ' i)
  have hil:i<σ.length:=by have:=(Za5.1 hi).1;simp only[hlen']at this;exact this
  cases hb:Wt ι i with
  |true=>
   obtain⟨j,hj,rfl⟩:=lentB_iff.1 hb
   have hj1:j<σ1.length:=by omega
   have hx:=hat j _ (Za6 hj1)
   simp only at hi
   rw[hx]at hi;injection hi with hi;subst hi
   have h:=hG1.ob j _ (Za6 hj1)
   rw[e1 j hj]
   simp only at h
   cases hφ:φ1 j with
   |none=>
    rw[hφ]at h
    simp only[ObRel,Ob.ren]at h ⊢
    rw[h];rfl
   |some g=>
    rw[hφ]at h
    obtain⟨us,q1,q2,q3⟩:=h
    refine⟨us,q1,by simp only[Ob.ren,Qz];exact q2,fun m v hm=>?_⟩
    simp only[Ob.ren,Gs]at hm
    obtain⟨v0,hv0,rfl⟩:=Option.map_eq_some_iff.1 hm
    obtain⟨u,k1,k2,k3⟩:=q3 m v0 hv0
    exact⟨u,k1,k2,hren v0 u k3⟩
  |false=>
   simp only[hoff i hb]at hi
   have h:=hG.ob i o hi
   rw[e2 i hb]
   simp only at h
   cases hφ:φ i with
   |none=>rw[hφ]at h;exact h
   |some g=>
    rw[hφ]at h
    obtain⟨us,q1,q2,q3⟩:=h
    refine⟨us,(hnb i g hil hb hφ).trans q1,q2,fun m v hm=>?_⟩
    obtain⟨u,k1,k2,k3⟩:=q3 m v hm
    refine⟨u,k1,k2,?_⟩
    have hf:=hL.free.at_ i o hi
    rw[Nat.zero_add,hb]at hf
    rcases hf with hf|hf
    ·cases hf
    ·have:=rids_at (Wt ι) (Fv ι st) o.cs m
     rw[hf,hm]at this
     injection this with this
     rw[this]
     exact hrid v u k3
 ·simp only[hlen']at hi hg
  rcases hold i g hi hg with⟨i',k1,k2,_⟩|⟨h,_⟩
  ·exact hG.mine i' g k1 k2
  ·exact .inr (Nat.le_trans hG.frm.size h)
 ·refine(hblk b (Nat.lt_of_lt_of_le hb hG.frm.size) fun j hj e=>?_).trans (hG.frm.block b hb hm)
  rcases hG.mine (rof ι j) b (hlt j hj) e with h|h
  ·exact hm h
  ·omega
theorem Dm{ι st:List Nat}{σ0 σ1:List Ob}{w:World}{φ:Nat→Option Nat}(hL:Lent ι st σ σ0 σ1)(hG:Good C ⟨w,φ,σ,C.ok⟩){ok0:Nat→Prop}(hok0:ok0=fun b=>C.ok b∧∀i,i<σ.length→Wt ι i=false→φ i≠some b) :
  Good ⟨w,ok0,mine (fun j=>φ (rof ι j)) σ0.length,0⟩ ⟨w,fun j=>φ (rof ι j),σ0,ok0⟩∧∀v u,v.only (fun i=>i<σ0.length)→AV.rel ⟨w,φ,σ,C.ok⟩ (v.ren (rof ι)) u→AV.rel ⟨w,fun j=>φ (rof ι j),σ0,ok0⟩ v u:=by
 subst hok0
 have hl0:σ0.length=ι.length:=Nat.eq_of_beq_eq_true hL.len
 have hlt:∀j,j<ι.length→rof ι j<σ.length:=fun j hj=>by
  have:=List.all_eq_true.1 hL.lt ι[j] (List.getElem_mem hj)
  have:=nbT this
  simp only[rof,Za6 hj,Option.getD_some]
  omega
 have hat:∀(j:Nat) o,σ0[j]?=some o→σ[rof ι j]?=some (o.ren (rof ι)):=fun j o hj=>by
  have:=hL.at_.at_ j o hj
  rwa [Nat.zero_add]at this
 have hun:∀v u,v.only (fun i=>i<σ0.length)→AV.rel ⟨w,φ,σ,C.ok⟩ (v.ren (rof ι)) u→AV.rel ⟨w,fun j=>φ (rof ι j),σ0,fun b=>C.ok b∧∀i,i<σ.length→Wt ι i=false→φ i≠some b⟩ v u:=
  In (m:=⟨w,φ,σ,C.ok⟩) rfl (fun b ho=>⟨⟨ho.1,fun i hi _=>ho.2 i hi⟩,fun j hj=>ho.2 (rof ι j) (hlt j (by simp only at hj;omega))⟩) (fun i _=>rfl) rfl (fun i o hi ho=>by
   simp only at ho
   have:=hat i _ (Za6 hi)
   rw[this]at ho;injection ho with ho;subst ho
   exact⟨σ0[i].cs,Za6 hi,by simp only[Ob.ren,Qz]⟩)
 refine⟨⟨rfl,fun i j g hi hj h1 h2=>?_,fun j o hj=>?_,fun i g hi hg=>.inl ⟨i,hi,hg⟩,⟨rfl,rfl,rfl,Nat.le_refl _,fun _ _ _=>rfl,fun b hb=>⟨hG.frm.new b (Nat.le_trans hG.frm.size hb),fun i hi _ e=>by have:=hG.lt (m:=⟨w,φ,σ,C.ok⟩) hi e;simp only at this hb;omega⟩⟩⟩,hun⟩
 ·simp only at hi hj
  exact rof_inj hL.inj (by omega) (by omega) (hG.inj _ _ g (hlt i (by omega)) (hlt j (by omega)) h1 h2)
 ·simp only at hj
  have h:=hG.ob _ _ (hat j o hj)
  show ObRel _ _ (φ (rof ι j))
  simp only at h
  cases hφ:φ (rof ι j) with
  |none=>
   rw[hφ]at h
   simp only[ObRel,Ob.ren]at h ⊢
   have:=Qz (rof ι) o.cs
   rw[h]at this
   exact List.eq_nil_of_length_eq_zero (by simpa using this.symm)
  |some g=>
   rw[hφ]at h
   obtain⟨us,q1,q2,q3⟩:=h
   simp only[Ob.ren,Qz]at q2
   refine⟨us,q1,q2,fun m v hm=>?_⟩
   obtain⟨u,k1,k2,k3⟩:=q3 m (v.ren (rof ι)) (by simp only[Ob.ren,Gs,hm];rfl)
   exact⟨u,k1,k2,hun v u (Vm (hL.closed.at_ j o hj) m v hm) k3⟩
theorem Le{m:Mem}:∀(vs:List AV) (us:List Value),AV.rels m vs us→AV.rels m (vs.map unpin) us
 | [],us,h=>by simpa [AV.rels] using h
 |x::xs,us,h=>by
  simp only[List.map_cons,AV.rels]at h ⊢
  obtain⟨u,us',e,h1,h2⟩:=h
  exact⟨u,us',e,Jk h1,Le xs us' h2⟩
theorem Gz{f:FuncId}{fn:Func}{xs:Array Operand}{ats:Array TypeId}{σ0 σ1:List Ob}{st:List Nat}{args:List AV}{v:AV}{d:Option Nat}[hfn:FN P f fn](ι:List Nat)(hf:AM P f σ0 st args σ1 v)
  (ha:(xs.toList.map (ev env)).map unpin=Yx (rof ι) args) (hcl:AV.onlys (fun i=>i<σ0.length) args) (hL:Lent ι st σ σ0 σ1) (ht:∀t,d=some t→t<C.n)
  (hk:RunsL P C ops rest k R ⟨Mz d (v.ren (rof ι)) (Ly (Wt ι) (Fv ι st) env),Wu ι σ σ1 0⟩) :
  RunsL P C ops (⟨d,.call {callee:=.value (.func f),args:=xs,argTypes:=ats},ty,pos,after,none⟩::rest) k R ⟨env,σ⟩:=by
 refine⟨fun a w ⟨s1,s2,φ,hG,hH⟩=>?_⟩
 refine wpList_plain rfl fun K hK'=>?_
 have hr:=Le _ _ (X4 (a:=a) (m:=⟨w,φ,σ,C.ok⟩) xs.toList fun x hx=>Xy hH x)
 rw[ha]at hr
 obtain⟨hG0,hun⟩:=Dm hL hG rfl
 have key:∀(vs:List AV) (us:List Value),AV.onlys (fun i=>i<σ0.length) vs→AV.rels ⟨w,φ,σ,C.ok⟩ (Yx (rof ι) vs) us→AV.rels ⟨w,fun j=>φ (rof ι j),σ0,fun b=>C.ok b∧∀i,i<σ.length→Wt ι i=false→φ i≠some b⟩ vs us:=by
  intro vs
  induction vs with
  |nil=>intro us _ h;simpa [Yx,AV.rels] using h
  |cons x xs ih=>
   intro us ho h
   simp only[Yx,AV.rels,AV.onlys]at h ho ⊢
   obtain⟨u,us',e,h1,h2⟩:=h
   exact⟨u,us',e,hun x u ho.1 h1,ih us' ho.2 h2⟩
 unfold Oper.wp
 rw[execOp_call_go,Wq hfn]
 simp only[Oper.upon]
 refine(hf w _ _ _ hG0 (by simpa using key args _ hcl hr)).mono ?_
 rintro e w' ⟨u,φ1,rfl,hG1,hv,hst⟩
 obtain⟨φ',g1,g2,g3⟩:=Dl hL hG rfl hG1 hst
 cases d with
 |none=>exact hK' _ _ (hk.run _ _ ⟨s1,s2,φ',g1,fun s=>by rw[show look (⟨Mz none _ _,_⟩:St).env s=_ from Ve _ _ _ _];exact g2 _ _ (hH s)⟩)
 |some t=>exact hK' _ _ (hk.run _ _ ⟨s1,by simp[Act.put,s2],φ',g1,Holds.put (fun s=>by rw[Ve];exact g2 _ _ (hH s)) (by rw[s2];exact ht t rfl) (g3 _ _ hv)⟩)
end
def ltB(n i:Nat):Bool:=Nat.ble (i+1) n
def memB(st:List Nat)(i:Nat):Bool:=st.any fun j=>Nat.beq j i
def FreeP(n:Nat)(st:List Nat):List Ob→Prop
 | []=>True
 |o::os=>W2 (ltB n) (memB st) o.cs=o.cs∧FreeP n st os
theorem Qd{n i:Nat}(h:i<n):rof (List.range n) i=i:=by simp[rof,h]
theorem Mc(n:Nat):Wt (List.range n)=ltB n:=by
 funext i
 rw[Bool.eq_iff_iff,lentB_iff]
 unfold ltB
 rw[List.length_range]
 constructor
 ·rintro⟨j,hj,e⟩
  rw[Qd hj]at e
  subst e
  exact Nat.ble_eq_true_of_le hj
 ·intro h
  have:=nbT h
  exact⟨i,this,Qd this⟩
theorem Ew{n:Nat}{st:List Nat}(h:(st.all fun j=>Nat.ble (j+1) n)=true):Fv (List.range n) st=memB st:=by
 funext i
 unfold Fv memB
 rw[Bool.eq_iff_iff,List.any_eq_true,List.any_eq_true]
 constructor
 ·rintro⟨j,hj,e⟩
  have:=nbT (List.all_eq_true.1 h j hj)
  rw[Qd this]at e
  exact⟨j,hj,e⟩
 ·rintro⟨j,hj,e⟩
  have:=nbT (List.all_eq_true.1 h j hj)
  exact⟨j,hj,by rw[Qd this];exact e⟩
mutual
theorem ren_id{r:Nat→Nat}{n:Nat}(hr:∀i,i<n→r i=i):∀v:AV,v.only (fun i=>i<n)→v.ren r=v
 | .ro _,_ | .junk,_=>rfl
 | .obj i off,h=>by simp only[AV.only]at h;simp only[AV.ren,hr i h]
 | .pin i off g,h=>by simp only[AV.only]at h;simp only[AV.ren,hr i h]
 | .own i,h=>by simp only[AV.only]at h;simp only[AV.ren,hr i h]
 | .agg cs,h=>by simp only[AV.only]at h;simp only[AV.ren,Jo hr cs h]
 | .tup cs,h=>by simp only[AV.only]at h;simp only[AV.ren,Jo hr cs h]
 | .fn f a b,h=>by simp only[AV.only]at h;simp only[AV.ren,Jo hr a h.1,Jo hr b h.2]
theorem Jo{r:Nat→Nat}{n:Nat}(hr:∀i,i<n→r i=i):∀vs:List AV,AV.onlys (fun i=>i<n) vs→Yx r vs=vs
 | [],_=>rfl
 |x::xs,h=>by simp only[AV.onlys]at h;simp only[Yx,ren_id hr x h.1,Jo hr xs h.2]
end
theorem Sv{r:Nat→Nat}{n:Nat}(hr:∀i,i<n→r i=i){o:Ob}(h:AV.onlys (fun i=>i<n) o.cs):o.ren r=o:=by
 simp only[Ob.ren,Jo hr o.cs h]
theorem Oa{ι:List Nat}{σ:List Ob}:∀(os:List Ob) (j:Nat),(∀(k:Nat) o,os[k]?=some o→σ[rof ι (j+k)]?=some (o.ren (rof ι)))→LentAt ι σ os j
 | [],j,_=>trivial
 |o::os,j,h=>⟨by simpa using h 0 o rfl,Oa os (j+1) fun k o' hk=>by
   have:=h (k+1) o' (by simpa using hk)
   rwa [show j+(k+1)=j+1+k by omega]at this⟩
theorem Fa{ι st:List Nat}:∀(os:List Ob) (i:Nat),(∀(k:Nat) o,os[k]?=some o→Wt ι (i+k)=true∨W2 (Wt ι) (Fv ι st) o.cs=o.cs)→FreeR ι st i os
 | [],i,_=>trivial
 |o::os,i,h=>⟨by simpa using h 0 o rfl,Fa os (i+1) fun k o' hk=>by
   have:=h (k+1) o' (by simpa using hk)
   rwa [show i+(k+1)=i+1+k by omega]at this⟩
theorem FreeP.at_{n:Nat}{st:List Nat}:∀{os:List Ob},FreeP n st os→∀(k:Nat) o,os[k]?=some o→W2 (ltB n) (memB st) o.cs=o.cs
 | [],_,k,o,h=>by simp at h
 |x::os,hl,k,o,h=>by
  simp only[FreeP]at hl
  cases k with
  |zero=>simp at h;subst h;exact hl.1
  |succ k=>simp at h;exact FreeP.at_ hl.2 k o h
section
variable{P:Program}{C:Ctx}{ops:Array Oper}{rest:List Oper}{k:List Item}{R:Act→World→Prop}{env:Env}{σ:List Ob}{t:Nat}{ty:TypeId}{pos:String}{after:Array Edge}
theorem Ax{n:Nat}{σ0 σ1 more:List Ob}{st:List Nat}(hn0:Nat.beq σ0.length n=true)(hn1:Nat.beq σ1.length n=true)(h0:FreeO n σ0)(h1:FreeO n σ1)(hst:(st.all fun j=>Nat.ble (j+1) n)=true)(hfree:FreeP n st more) :
  Lent (List.range n) st (σ0++more) σ0 σ1∧Wu (List.range n) (σ0++more) σ1 0=σ1++more:=by
 have e0:σ0.length=n:=Nat.eq_of_beq_eq_true hn0
 have e1:σ1.length=n:=Nat.eq_of_beq_eq_true hn1
 have hr:∀i,i<n→rof (List.range n) i=i:=fun i hi=>Qd hi
 refine⟨⟨by rw[List.length_range];exact hn0,by rw[List.length_range];exact hn1,?_,List.nodup_range,Oa _ _ fun j o hj=>?_,by rw[e0];exact h0,by rw[List.length_range];exact hst,Fa _ _ fun j o hj=>?_⟩,?_⟩
 ·rw[List.all_eq_true]
  intro i hi
  rw[List.mem_range]at hi
  exact Nat.ble_eq_true_of_le (by rw[Za7];omega)
 ·have hjl:=(Za5.1 hj).1
  rw[Nat.zero_add,hr j (by omega),Zbc hjl,hj,Sv hr (h0.at_ j o hj)]
 ·rw[Nat.zero_add,Mc,Ew hst]
  rcases Nat.lt_or_ge j n with h|h
  ·exact .inl (Nat.ble_eq_true_of_le h)
  ·rw[Zbd (by omega)]at hj
   exact .inr (hfree.at_ _ o hj)
 ·refine List.ext_getElem? fun i=>?_
  rcases Nat.lt_or_ge i n with h|h
  ·have hx:σ1[i]?=some _:=Za6 (show i<σ1.length by omega)
   have:=E5 (List.range n) σ1 (σ0++more) 0 (fun a b ha hb e=>by
    rw[Nat.zero_add,Nat.zero_add,hr a (by omega),hr b (by omega)]at e;exact e) i _ hx (by rw[Nat.zero_add,hr i h,Za7];omega)
   rw[Nat.zero_add,hr i h,Sv hr (h1.at_ i _ hx)]at this
   rw[this,Zbc (by omega),hx]
  ·rw[Lf (List.range n) i σ1 (σ0++more) 0 fun k hk e=>by rw[Nat.zero_add,hr k (by omega)]at e;omega]
   rw[Zbd (by omega),Zbd (by omega),e0,e1]
theorem Yd{f:FuncId}{fn:Func}{xs:Array Operand}{ats:Array TypeId}{σ0 σ1 more:List Ob}{st:List Nat}{args:List AV}{v:AV}{d:Option Nat}[hfn:FN P f fn](n:Nat)(hf:AM P f σ0 st args σ1 v)
  (ha:(xs.toList.map (ev env)).map unpin=args) (hcl:AV.onlys (fun i=>i<n) args) (hv:v.only fun i=>i<n) (hσ:σ=σ0++more) (hn0:Nat.beq σ0.length n=true) (hn1:Nat.beq σ1.length n=true) (h0:FreeO n σ0) (h1:FreeO n σ1) (hst:(st.all fun j=>Nat.ble (j+1) n)=true) (hfree:FreeP n st more) (ht:∀t,d=some t→t<C.n)
  (hk:RunsL P C ops rest k R ⟨Mz d v (Ly (ltB n) (memB st) env),σ1++more⟩) :
  RunsL P C ops (⟨d,.call {callee:=.value (.func f),args:=xs,argTypes:=ats},ty,pos,after,none⟩::rest) k R ⟨env,σ⟩:=by
 subst hσ
 obtain⟨hL,hp⟩:=Ax hn0 hn1 h0 h1 hst hfree
 have hr:∀i,i<n→rof (List.range n) i=i:=fun i hi=>Qd hi
 have e0:σ0.length=n:=Nat.eq_of_beq_eq_true hn0
 refine Gz (List.range n) hf (by rw[ha,Jo hr args hcl]) (by rw[e0];exact hcl) hL ht ?_
 rw[hp,Mc,Ew hst,ren_id hr v hv]
 exact hk
theorem op_callMF{f:FuncId}{fn:Func}{x:Operand}{xs:Array Operand}{ats:Array TypeId}{σ0 σ1:List Ob}{st:List Nat}{args:List AV}{v:AV}{d:Option Nat}[hfn:FN P f fn](ι:List Nat)(hx:ev env x = .fn (.func f) [] [])(hf:AM P f σ0 st args σ1 v)
  (ha:(xs.toList.map (ev env)).map unpin=Yx (rof ι) args) (hcl:AV.onlys (fun i=>i<σ0.length) args) (hL:Lent ι st σ σ0 σ1) (ht:∀t,d=some t→t<C.n)
  (hk:RunsL P C ops rest k R ⟨Mz d (v.ren (rof ι)) (Ly (Wt ι) (Fv ι st) env),Wu ι σ σ1 0⟩) :
  RunsL P C ops (⟨d,.call {callee:=.value x,args:=xs,argTypes:=ats},ty,pos,after,none⟩::rest) k R ⟨env,σ⟩:=by
 refine⟨fun a w ⟨s1,s2,φ,hG,hH⟩=>?_⟩
 refine wpList_plain rfl fun K hK'=>?_
 have h0:=Xy hH x
 rw[hx]at h0
 simp only[AV.rel,AV.rels]at h0
 obtain⟨us,vs,e,hu,hv0⟩:=h0
 have hu':us=#[]:=by cases us;simp_all
 have hv':vs=#[]:=by cases vs;simp_all
 subst hu';subst hv'
 have hr:=Le _ _ (X4 (a:=a) (m:=⟨w,φ,σ,C.ok⟩) xs.toList fun x hx=>Xy hH x)
 rw[ha]at hr
 obtain⟨hG0,hun⟩:=Dm hL hG rfl
 have key:∀(vs:List AV) (us:List Value),AV.onlys (fun i=>i<σ0.length) vs→AV.rels ⟨w,φ,σ,C.ok⟩ (Yx (rof ι) vs) us→AV.rels ⟨w,fun j=>φ (rof ι j),σ0,fun b=>C.ok b∧∀i,i<σ.length→Wt ι i=false→φ i≠some b⟩ vs us:=by
  intro vs
  induction vs with
  |nil=>intro us _ h;simpa [Yx,AV.rels] using h
  |cons x xs ih=>
   intro us ho h
   simp only[Yx,AV.rels,AV.onlys]at h ho ⊢
   obtain⟨u,us',e,h1,h2⟩:=h
   exact⟨u,us',e,hun x u ho.1 h1,ih us' ho.2 h2⟩
 unfold Oper.wp execOp
 simp only[resolve,e,Deferred.ofValue,Sem.run_bind,Sem.run_pure,Result.andThen_ok,invoke]
 rw[Wq hfn]
 simp only[Oper.upon]
 refine(hf w _ _ _ hG0 (by simpa using key args _ hcl hr)).mono ?_
 rintro e w' ⟨u,φ1,rfl,hG1,hv,hst⟩
 obtain⟨φ',g1,g2,g3⟩:=Dl hL hG rfl hG1 hst
 cases d with
 |none=>exact hK' _ _ (hk.run _ _ ⟨s1,s2,φ',g1,fun s=>by rw[show look (⟨Mz none _ _,_⟩:St).env s=_ from Ve _ _ _ _];exact g2 _ _ (hH s)⟩)
 |some t=>exact hK' _ _ (hk.run _ _ ⟨s1,by simp[Act.put,s2],φ',g1,Holds.put (fun s=>by rw[Ve];exact g2 _ _ (hH s)) (by rw[s2];exact ht t rfl) (g3 _ _ hv)⟩)
theorem Z9{gd:Option (Nat×Bool)}{x:Operand}{i off g:Nat}(hx:ev env x = .pin i off g):Pur P C ⟨some t,.nilCheck x,ty,pos,after,gd⟩ env σ (.pin i off g):=
 Xm (fun a m hG hσ hH=>by
  have h:=hH x (by simp[Op.operands,Call.operands])
  rw[hx]at h
  have h':=h
  simp only[AV.rel]at h
  obtain⟨_,_,e⟩:=h
  exact⟨a.eval x,by simp[execOp,e],h'⟩)
theorem Ww{gd:Option (Nat×Bool)}{x:Operand}{i off:Nat}(hx:ev env x = .obj i off):Pur P C ⟨some t,.nilCheck x,ty,pos,after,gd⟩ env σ (.obj i off):=
 Xm (fun a m hG hσ hH=>by
  have h:=hH x (by simp[Op.operands,Call.operands])
  rw[hx]at h
  have h':=h
  simp only[AV.rel]at h
  obtain⟨_,g,_,e⟩:=h
  exact⟨a.eval x,by simp[execOp,e],h'⟩)
theorem Lends.pin{i off g:Nat}{o:Ob}{rs:List RV}(ho:σ[i]?=some o)(h:LendsL C σ (o.cs.drop off) rs):Lends C σ (.pin i off g) (.rp rs):=fun m u ok' hG hσ k1 k2 hu=>by
 refine Lends.obj ho h m u ok' hG hσ k1 k2 ?_
 exact Jk (v:=.pin i off g) hu
theorem Ez(i p:Nat){o:Ob}{e:TypeId}{sz:Nat}(hs:0<sz)(ho:σ[i]?=some o)(h:o.cs[p]?=some .nil){a:Act}{w:World}(hsim:Sim C ⟨env,σ⟩ a w):Sim C ⟨env,σ.set i ⟨o.t,o.sz,o.cs.set p (.own σ.length)⟩++[⟨e,sz,[]⟩]⟩ a w:=by
 obtain⟨h1,h2,φ,hG,hH⟩:=hsim
 have hil:=(Za5.1 ho).1
 obtain⟨g1,g2⟩:=Um (φ':=upd φ σ.length none) (new:=[⟨e,sz,[]⟩]) hG (Below.refl _ _) (fun i hi=>Xd (show i≠σ.length from Nat.ne_of_lt hi)) (fun j hj g hg=>by
   simp at hj;subst hj;simp[Xg]at hg) (fun i j g hi hj _ _=>by simp at hi hj;omega) (fun j o hj=>by
   cases j with
   |zero=>simp at hj;subst hj;simp[Xg,ObRel]
   |succ j=>simp at hj)
 -- the cell is that row
 have hlen:(σ.set i ⟨o.t,o.sz,o.cs.set p (.own σ.length)⟩++[(⟨e,sz,[]⟩:Ob)]).length=(σ++[(⟨e,sz,[]⟩:Ob)]).length:=by simp
 have hat:∀j,j≠i→(σ.set i ⟨o.t,o.sz,o.cs.set p (.own σ.length)⟩++[(⟨e,sz,[]⟩:Ob)])[j]?=(σ++[(⟨e,sz,[]⟩:Ob)])[j]?:=fun j hj=>by
  rcases Nat.lt_or_ge j σ.length with h|h
  ·rw[Zbc (by simpa using h),Zbc h,List.getElem?_set_ne (Ne.symm hj)]
  ·rw[Zbd (by simpa using h),Zbd h];simp
 have hati:(σ.set i ⟨o.t,o.sz,o.cs.set p (.own σ.length)⟩++[(⟨e,sz,[]⟩:Ob)])[i]?=some ⟨o.t,o.sz,o.cs.set p (.own σ.length)⟩:=by
  rw[Zbc (by simpa using hil),List.getElem?_set_self hil]
 have hati0:(σ++[(⟨e,sz,[]⟩:Ob)])[i]?=some o:=by rw[Zbc hil];exact ho
 have hK:Wn (fun _=>True) ⟨w,upd φ σ.length none,σ++[⟨e,sz,[]⟩],C.ok⟩ ⟨w,upd φ σ.length none,σ.set i ⟨o.t,o.sz,o.cs.set p (.own σ.length)⟩++[⟨e,sz,[]⟩],C.ok⟩:=by
  refine⟨⟨Nat.le_refl _,fun b _ hb=>⟨⟨hb.1,fun j hj=>hb.2 j (by rw[←hlen];exact hj)⟩,rfl⟩⟩,fun j _ hj=>⟨by rw[←hlen]at hj;exact hj,rfl⟩,fun j ob _ hj=>?_,fun j g us t _ _ _ hh=>⟨us,hh,rfl⟩⟩
  by_cases e:j=i
  ·subst e
   simp only at hj
   rw[hati0]at hj;injection hj with hj;subst hj
   exact⟨_,hati,by simp⟩
  ·exact⟨ob.cs,by simp only;rw[hat j e];exact hj,rfl⟩
 refine⟨h1,h2,upd φ σ.length none,⟨rfl,fun a b g ha hb=>g1.inj a b g (by rw[←hlen];exact ha) (by rw[←hlen];exact hb),fun j ob hj=>?_,fun j g hj=>g1.mine j g (by rw[←hlen];exact hj),g1.frm⟩,(hH.keeps g2).keeps hK⟩
 by_cases e':j=i
 ·subst e'
  simp only at hj
  rw[hati]at hj;injection hj with hj;subst hj
  have h0:=g1.ob j o hati0
  show ObRel _ _ (upd φ σ.length none j)
  simp only at h0
  cases hφ:upd φ σ.length none j with
  |none=>
   rw[hφ]at h0
   simp only[ObRel]at h0
   rw[h0]at h;simp at h
  |some g=>
   rw[hφ]at h0
   obtain⟨us,q1,q2,q3⟩:=h0
   refine⟨us,q1,by simpa using q2,fun m v hm=>?_⟩
   simp only[List.getElem?_set]at hm
   split at hm
   ·rename_i hpm
    subst hpm
    split at hm
    ·injection hm with hm;subst hm
     obtain⟨u,k1,k2,k3⟩:=q3 p _ h
     simp only[AV.rel,RV.rel]at k3
     subst k3
     refine⟨_,k1,rfl,?_⟩
     simp only[AV.rel]
     exact⟨⟨e,sz,[]⟩,0,by rw[Zbd (by simp)];simp,by simp,hs,.inl ⟨by first|rfl|trivial,by first|rfl|trivial,Xg⟩⟩
    ·cases hm
   ·obtain⟨u,k1,k2,k3⟩:=q3 m v hm
    exact⟨u,k1,k2,AV.rel_keeps hK _ _ (AV.only_true _) k3⟩
 ·simp only at hj
  rw[hat j e']at hj
  exact(g1.ob j ob hj).keeps hK fun _ _=>rfl
theorem Hu{l:List Oper}(i p:Nat){o:Ob}{e:TypeId}{sz:Nat}(hs:0<sz)(ho:σ[i]?=some o)(h:o.cs[p]?=some .nil)(hk:RunsL P C ops l k R ⟨env,σ.set i ⟨o.t,o.sz,o.cs.set p (.own σ.length)⟩++[⟨e,sz,[]⟩]⟩):RunsL P C ops l k R ⟨env,σ⟩:=
 ⟨fun a w hsim=>hk.run a w (Ez i p hs ho h hsim)⟩
theorem Z4(i p:Nat){o:Ob}{e:TypeId}{sz:Nat}(hs:0<sz)(ho:σ[i]?=some o)(h:o.cs[p]?=some .nil)(hk:Runs P C k R ⟨env,σ.set i ⟨o.t,o.sz,o.cs.set p (.own σ.length)⟩++[⟨e,sz,[]⟩]⟩):Runs P C k R ⟨env,σ⟩:=
 ⟨fun a w hsim=>hk.run a w (Ez i p hs ho h hsim)⟩
theorem Is{gd:Option (Nat×Bool)}{f:FuncId}{fn:Func}{xs:Array Operand}{ats:Array TypeId}{args:List RV}{e:TypeId}{sz:Nat}{vs:List Value}{els:List (List RV)}[hfn:FN P f fn](hf:AC P f args fun rr=>rr = .row e sz (vs.map .c))(hels:els.flatten=vs.map .c)(hl:∀x∈els,x.length=sz)(ha:LendsL C σ (xs.toList.map (ev env)) args) :
  Pur P C ⟨some t,.call {callee:=.value (.func f),args:=xs,argTypes:=ats},ty,pos,after,gd⟩ env σ (.ro (.seq sz els)):=by
 refine⟨fun a m hG hσ hH K Q hK=>?_⟩
 have hr:=LendsL.rels (ok':=fun _=>True) hG hσ (fun _ _=>trivial) (fun _ _ _ _=>trivial) ha _ (X4 (a:=a) (m:=m) xs.toList fun x hx=>hH x (by simp[Op.operands,Call.operands];exact .inr (by simpa using hx)))
 unfold Oper.wp
 rw[execOp_call_go,Wq hfn]
 simp only[Oper.upon]
 refine(hf m.w (fun _=>True) _ (fun _ _=>trivial) (by simpa using hr)).mono ?_
 rintro e' w' ⟨u,rr,bs,rfl,rfl,h1,_,h3,h4⟩
 refine hK u w' h4 ?_
 simp only[RR.rel]at h1
 obtain⟨n,xs',k1,k2,k3,k4,k5,rfl⟩:=h1
 have e2:=Hs (m:=⟨w',fun _=>none,[],fun b=>True∧b∉u.ownBlock.toList⟩) vs xs' (RV.rels_mono ⟨Nat.le_refl _,fun b _ hb=>⟨⟨hb,fun i hi=>by simp at hi⟩,rfl⟩⟩ _ _ k3)
 subst e2
 simp only[AV.rel]
 refine seals_rel (ok:=m.ok) (ok':=m.ok) (fun b hb=>hb) (.row e sz (xs'.map .c)) (.seq sz els) u u.ownBlock.toList (by simp only[Seals];exact⟨els,rfl,hels,hl⟩) (by simp only[RR.rel];exact⟨n,xs',k1,k2,N2 xs',k4,k5,trivial⟩) fun b hb=>Ma hG b (h3 b hb).1
end
abbrev w64(x:Int):Int:=IntKind.i64.wrap x
theorem Ep(x y:Int):w64 (w64 x+y)=w64 (x+y):=by simp only[w64,IntKind.wrap,IntKind.bits,IntKind.signed];simp;omega
theorem Wh{x:Int}(h : -9223372036854775808≤x∧x≤9223372036854775807):w64 x=x:=by simp only[w64,IntKind.wrap,IntKind.bits,IntKind.signed];simp;omega
section
variable{P:Program}{C:Ctx}{ops:Array Oper}{rest:List Oper}{k:List Item}{R:Act→World→Prop}{env:Env}{σ:List Ob}{t:Nat}{ty:TypeId}{pos:String}{after:Array Edge}
end
def Yp(ct:TypeId)(u:Value)(i h:Int):Ob:=⟨ct,0,[.ro (.c u),.int i,.int h]⟩
def Pd(ct:TypeId)(w:World)(g:Nat)(u:Value)(i h:Int):Prop:=
 ∃us:Array Value,w.heap[g]?=some (.cells us ct (0,0))∧us[0]?=some u∧us[1]?=some (.int .i64 i)∧us[2]?=some (.int .i64 h)
def X8(b:List UInt8)(i:Int):Prop:=0≤i∧i≤b.length
structure Bx (g:Nat) (w w':World):Prop where
 os:w'.os=w.os
 tape:w'.tape=w.tape
 output:w'.output=w.output
 size:w.heap.size≤w'.heap.size
 block:∀b,b<w.heap.size→b≠g→w'.heap[b]?=w.heap[b]?
def Drw(P:Program)(ct:TypeId)(f:FuncId)(b:List UInt8)(args:List RV)(Q:RR→Prop):Prop:=
 ∀(w:World) (ok:Nat→Prop) (g:Nat) (u:Value) (i h:Int) (us:List Value),(∀x,w.heap.size≤x→ok x)→Pd ct w g u i h →
  RV.rel w (fun x=>ok x∧x≠g) (Ya b) u→X8 b i→RV.rels w (fun x=>ok x∧x≠g) args us →
  Calls P f (.pointer (some ⟨g,0,none⟩)::us).toArray w fun e w'=>∃v rr bs i' h',e = .returned v∧Q rr∧RR.rel w' (fun x=>(ok x∧x≠g)∧x∉bs) rr v bs∧bs.Nodup ∧
   (∀x∈bs,w.heap.size≤x∧x<w'.heap.size)∧X8 b i'∧Pd ct w' g u i' h'∧Bx g w w'
theorem Drw.mono{P:Program}{ct:TypeId}{f:FuncId}{b:List UInt8}{args:List RV}{Q Q':RR→Prop}(h:Drw P ct f b args Q)(hq:∀rr,Q rr→Q' rr):Drw P ct f b args Q':=
 fun w ok g u i hh us h0 h1 h2 h3 h4=>(h w ok g u i hh us h0 h1 h2 h3 h4).mono fun _ _ ⟨v,rr,bs,i',h',e,q,r⟩=>⟨v,rr,bs,i',h',e,hq rr q,r⟩
def HU(C:Ctx)(b:List UInt8)(u:Value):Prop:=RV.rel C.w0 (fun x=>C.ok x∧¬C.mu x) (Ya b) u
theorem HU.now{C:Ctx}{b:List UInt8}{u:Value}(h:HU C b u){m:Mem}(hG:Good C m):RV.rel m.w (fun x=>C.ok x∧∀j,j<m.σ.length→m.φ j≠some x) (Ya b) u:=
 RV.rel_mono ⟨hG.frm.size,fun x hx ho=>⟨⟨ho.1,fun j hj e=>by
  rcases hG.mine j x hj e with k|k
  ·exact ho.2 k
  ·omega⟩,hG.frm.block x hx ho.2⟩⟩ _ _ h
theorem HU.ok{C:Ctx}{b:List UInt8}{u:Value}(h:HU C b u){m:Mem}(hG:Good C m):RV.rel m.w m.ok (Ya b) u:=
 RV.rel_mono ⟨Nat.le_refl _,fun x _ ho=>⟨⟨by rw[hG.ok0];exact ho.1,ho.2⟩,rfl⟩⟩ _ _ (h.now hG)
theorem HU.shape{C:Ctx}{b:List UInt8}{u:Value}(h:HU C b u):∃A n c,u = .slice A n c:=by
 simp only[HU,Ya,RV.rel]at h
 obtain⟨A,n,c,e,_⟩:=h
 exact⟨A,n,c,e⟩
section
variable{P:Program}{C:Ctx}{env:Env}{σ:List Ob}{o:Oper}{b:List UInt8}{u:Value}
theorem Vu(hu:HU C b u)(h:Pur P C o env σ (.ro (.c u))):Pur P C o env σ (.ro (Ya b)):=
 ⟨fun a m hG hσ hH K Q hK=>h.run a m hG hσ hH K Q fun x w' hb hv=>hK x w' hb (by
  simp only[AV.rel,RV.rel]at hv ⊢
  subst hv
  have hG':Good C {m with w:=w'}:=by
   have e:m=⟨m.w,m.φ,m.σ,C.ok⟩:=by rw[←hG.ok0]
   have:=(Y8 (C:=C) (w:=m.w) (φ:=m.φ) (σ:=m.σ) (by rw[←e];exact hG) hb).1
   rw[hG.ok0];exact this
  exact hu.ok hG')⟩
end
mutual
def cln:AV→Bool
 | .own i => !(Nat.beq i 0)
 | .agg cs=>Fj cs
 | .tup vs=>Fj vs
 | .fn _ x y=>Fj x&&Fj y
 |_=>true
def Fj:List AV→Bool
 | []=>true
 |x::xs=>cln x&&Fj xs
end
def clnE:Env→Bool
 | []=>true
 |(_,v)::e=>cln v&&clnE e
def Hn:List Ob→Bool
 | []=>true
 |o::os=>Fj o.cs&&Hn os
theorem clnE.look{env:Env}(h:clnE env=true)(t:Nat):cln (look env t)=true:=by
 induction env with
 |nil=>rfl
 |cons p e ih=>
  obtain⟨s,v⟩:=p
  simp only[clnE,Bool.and_eq_true]at h
  rw[Yy]
  split
  ·exact h.1
  ·exact ih h.2
theorem clns_at:∀{cs:List AV},Fj cs=true→∀(j:Nat) v,cs[j]?=some v→cln v=true
 | [],_,j,v,hj=>by simp at hj
 |x::xs,h,j,v,hj=>by
  simp only[Fj,Bool.and_eq_true]at h
  cases j with
  |zero=>simp at hj;subst hj;exact h.1
  |succ j=>exact clns_at h.2 j v (by simpa using hj)
theorem clnO_at:∀{os:List Ob},Hn os=true→∀(i:Nat) o,os[i]?=some o→Fj o.cs=true
 | [],_,i,o,hi=>by simp at hi
 |x::os,h,i,o,hi=>by
  simp only[Hn,Bool.and_eq_true]at h
  cases i with
  |zero=>simp at hi;subst hi;exact h.1
  |succ i=>exact clnO_at h.2 i o (by simpa using hi)
theorem Zt{o:Ob}{os:List Ob}(h1:Fj o.cs=true)(h2:Hn os=true):Hn (o::os)=true:=by simp only[Hn,h1,h2,Bool.and_self]
theorem Z0:∀rs:List RV,Fj (rs.map .ro)=true
 | []=>rfl
 |r::rs=>by simp only[List.map_cons,Fj,cln,Z0 rs,Bool.and_self]
section
variable{m m':Mem}
mutual
theorem rel_cln(hro:RV.Kept m.w m.ok m'.w m'.ok)(hlen:m.σ.length≤m'.σ.length)(hφ:∀i,i<m.σ.length→m'.φ i=m.φ i)(hσ:∀i,i≠0→i<m.σ.length→m'.σ[i]?=m.σ[i]?)(hb:∀i g,i≠0→i<m.σ.length→m.φ i=some g→m'.w.heap[g]?=m.w.heap[g]?) :
  ∀(v:AV) (u:Value),cln v=true→AV.rel m v u→AV.rel m' v u
 | .ro v,u,_,h=>by
  simp only[AV.rel]at h ⊢
  exact RV.rel_mono hro v u h
 | .junk,u,_,_=>by simp[AV.rel]
 | .obj i off,u,_,h=>by
  simp only[AV.rel]at h ⊢
  obtain⟨h1,g,h2,h3⟩:=h
  exact⟨by omega,g,(hφ i h1).trans h2,h3⟩
 | .pin i off g,u,_,h=>by
  simp only[AV.rel]at h ⊢
  obtain⟨h1,h2,h3⟩:=h
  exact⟨by omega,(hφ i h1).trans h2,h3⟩
 | .own i,u,hc,h=>by
  have hi0:i≠0:=by
   intro e;subst e;simp[cln]at hc
  simp only[AV.rel]at h ⊢
  obtain⟨ob,k,h1,h2,h3,h4⟩:=h
  have hi:=(Za5.1 h1).1
  refine⟨ob,k,(hσ i hi0 hi).trans h1,h2,h3,?_⟩
  rcases h4 with⟨q1,q2,q3⟩|⟨g,cap,us,q1,q2,q3,q4⟩
  ·exact .inl ⟨q1,q2,(hφ i hi).trans q3⟩
  ·exact .inr ⟨g,cap,us,(hφ i hi).trans q1,q2,(hb i g hi0 hi q1).trans q3,q4⟩
 | .agg cs,u,hc,h=>by
  simp only[AV.rel]at h ⊢
  obtain⟨us,e,h1⟩:=h
  exact⟨us,e,My hro hlen hφ hσ hb cs _ (by simpa only[cln] using hc) h1⟩
 | .tup cs,u,hc,h=>by
  simp only[AV.rel]at h ⊢
  obtain⟨us,e,h1⟩:=h
  exact⟨us,e,My hro hlen hφ hσ hb cs _ (by simpa only[cln] using hc) h1⟩
 | .fn f a b,u,hc,h=>by
  simp only[AV.rel]at h ⊢
  simp only[cln,Bool.and_eq_true]at hc
  obtain⟨us,vs,e,h1,h2⟩:=h
  exact⟨us,vs,e,My hro hlen hφ hσ hb a _ hc.1 h1,My hro hlen hφ hσ hb b _ hc.2 h2⟩
theorem My(hro:RV.Kept m.w m.ok m'.w m'.ok)(hlen:m.σ.length≤m'.σ.length)(hφ:∀i,i<m.σ.length→m'.φ i=m.φ i)(hσ:∀i,i≠0→i<m.σ.length→m'.σ[i]?=m.σ[i]?)(hb:∀i g,i≠0→i<m.σ.length→m.φ i=some g→m'.w.heap[g]?=m.w.heap[g]?) :
  ∀(vs:List AV) (us:List Value),Fj vs=true→AV.rels m vs us→AV.rels m' vs us
 | [],us,_,h=>by simpa [AV.rels] using h
 |x::xs,us,hc,h=>by
  simp only[AV.rels]at h ⊢
  simp only[Fj,Bool.and_eq_true]at hc
  obtain⟨u,us',e,h1,h2⟩:=h
  exact⟨u,us',e,rel_cln hro hlen hφ hσ hb x u hc.1 h1,My hro hlen hφ hσ hb xs us' hc.2 h2⟩
end
end
theorem Ou{C:Ctx}{ct:TypeId}{u:Value}{i h i' h':Int}{more new:List Ob}{w w':World}{φ φ':Nat→Option Nat}{g:Nat}(hG:Good C ⟨w,φ,Yp ct u i h::more,C.ok⟩)(hg:φ 0=some g)(hu:u.oneCell'=true)(hat:Pd ct w' g u i' h')(hb:Bx g w w')(hcl:Hn more=true)
  (hφ:∀j,j<more.length+1→φ' j=φ j) (hn:∀j,j<new.length→∀x,φ' (more.length+1+j)=some x→w.heap.size≤x) (hinj:∀a c x,a<new.length→c<new.length→φ' (more.length+1+a)=some x→φ' (more.length+1+c)=some x→a=c)
  (hob:∀(j:Nat) o,new[j]?=some o→ObRel ⟨w',φ',(Yp ct u i' h'::more)++new,C.ok⟩ o (φ' (more.length+1+j))) :
  Good C ⟨w',φ',(Yp ct u i' h'::more)++new,C.ok⟩∧∀v x,cln v=true→AV.rel ⟨w,φ,Yp ct u i h::more,C.ok⟩ v x→AV.rel ⟨w',φ',(Yp ct u i' h'::more)++new,C.ok⟩ v x:=by
 have hlt:∀j x,j<more.length+1→φ j=some x→x<w.heap.size:=fun j x hj hx=>hG.lt (m:=⟨w,φ,Yp ct u i h::more,C.ok⟩) (by simpa using hj) hx
 have hne:∀j x,j≠0→j<more.length+1→φ j=some x→x≠g:=fun j x h0 hj hx e=>h0 (hG.inj j 0 g (by simpa using hj) (by simp) (e▸hx) hg)
 have hro:RV.Kept w (AV.Mem.ok ⟨w,φ,Yp ct u i h::more,C.ok⟩) w' (AV.Mem.ok ⟨w',φ',(Yp ct u i' h'::more)++new,C.ok⟩):=⟨hb.size,fun x hx ho=>⟨⟨ho.1,fun j hj e=>by
  simp only[Za7,Za8]at hj
  rcases Nat.lt_or_ge j (more.length+1) with k|k
  ·exact ho.2 j (by simpa using k) ((hφ j k).symm.trans e)
  ·have:=hn (j-(more.length+1)) (by omega) x (by rwa [show more.length+1+(j-(more.length+1))=j by omega])
   omega⟩,hb.block x hx fun e=>ho.2 0 (by simp) (e▸hg)⟩⟩
 have key:∀v x,cln v=true→AV.rel ⟨w,φ,Yp ct u i h::more,C.ok⟩ v x→AV.rel ⟨w',φ',(Yp ct u i' h'::more)++new,C.ok⟩ v x:=
  rel_cln (m:=⟨w,φ,Yp ct u i h::more,C.ok⟩) (m':=⟨w',φ',(Yp ct u i' h'::more)++new,C.ok⟩) hro (by simp) (fun j hj=>hφ j (by simpa using hj)) (fun j h0 hj=>by
   cases j with
   |zero=>exact absurd rfl h0
   |succ j=>simp only[List.cons_append,List.getElem?_cons_succ];exact Zbc (by simpa using hj)) (fun j x h0 hj hx=>hb.block x (hlt j x (by simpa using hj) hx) (hne j x h0 (by simpa using hj) hx))
 refine⟨⟨rfl,fun a c x ha hc e1 e2=>?_,fun j o hj=>?_,fun j x hj hx=>?_,⟨hb.os.trans hG.frm.os,hb.tape.trans hG.frm.tape,hb.output.trans hG.frm.output,Nat.le_trans hG.frm.size hb.size,fun x hx hm=>?_,hG.frm.new⟩⟩,key⟩
 ·simp only[Za7,Za8]at ha hc
  rcases Nat.lt_or_ge a (more.length+1) with k1|k1<;>rcases Nat.lt_or_ge c (more.length+1) with k2|k2
  ·exact hG.inj a c x (by simpa using k1) (by simpa using k2) ((hφ a k1).symm.trans e1) ((hφ c k2).symm.trans e2)
  ·have a1:=hlt a x k1 ((hφ a k1).symm.trans e1)
   have a2:=hn (c-(more.length+1)) (by omega) x (by rwa [show more.length+1+(c-(more.length+1))=c by omega])
   omega
  ·have a1:=hlt c x k2 ((hφ c k2).symm.trans e2)
   have a2:=hn (a-(more.length+1)) (by omega) x (by rwa [show more.length+1+(a-(more.length+1))=a by omega])
   omega
  ·have:=hinj (a-(more.length+1)) (c-(more.length+1)) x (by omega) (by omega) (by rwa [show more.length+1+(a-(more.length+1))=a by omega]) (by rwa [show more.length+1+(c-(more.length+1))=c by omega])
   omega
 ·rcases Nat.lt_or_ge j (more.length+1) with k|k
  ·cases j with
   |zero=>
    simp only[List.cons_append,List.getElem?_cons_zero,Option.some.injEq]at hj
    subst hj
    show ObRel _ _ (φ' 0)
    rw[hφ 0 k,hg]
    obtain⟨us,q0,q1,q2,q3⟩:=hat
    refine⟨us,q0,?_,fun p v hp=>?_⟩
    ·have:=(Array.getElem?_eq_some_iff.1 q3).1
     simp[Yp];omega
    ·simp only[Yp]at hp
     match p,hp with
     |0,hp=>simp at hp;subst hp;exact⟨u,q1,hu,by simp[AV.rel,RV.rel]⟩
     |1,hp=>simp at hp;subst hp;exact⟨_,q2,rfl,by simp[AV.rel,RV.rel]⟩
     |2,hp=>simp at hp;subst hp;exact⟨_,q3,rfl,by simp[AV.rel,RV.rel]⟩
     |p+3,hp=>simp at hp
   |succ j=>
    have hj':more[j]?=some o:=by
     simp only[List.cons_append,List.getElem?_cons_succ]at hj
     rwa [Zbc (by omega)]at hj
    have h0:=hG.ob (j+1) o (by simpa using hj')
    show ObRel _ _ (φ' (j+1))
    rw[hφ (j+1) k]
    simp only at h0
    cases hx:φ (j+1) with
    |none=>rw[hx]at h0;exact h0
    |some x=>
     rw[hx]at h0
     obtain⟨us,q1,q2,q3⟩:=h0
     refine⟨us,(hb.block x (hlt _ x k hx) (hne _ x (by omega) k hx)).trans q1,q2,fun p v hp=>?_⟩
     obtain⟨y,e1,e2,e3⟩:=q3 p v hp
     exact⟨y,e1,e2,key v y (clns_at (clnO_at hcl j o hj') p v hp) e3⟩
  ·have hj':new[j-(more.length+1)]?=some o:=by
    rw[Zbd (by simpa using k)]at hj
    simpa using hj
   have:=hob _ o hj'
   rwa [show more.length+1+(j-(more.length+1))=j by omega]at this
 ·simp only[Za7,Za8]at hj
  rcases Nat.lt_or_ge j (more.length+1) with k|k
  ·exact hG.mine j x (by simpa using k) ((hφ j k).symm.trans hx)
  ·have:=hn (j-(more.length+1)) (by omega) x (by rwa [show more.length+1+(j-(more.length+1))=j by omega])
   exact .inr (Nat.le_trans hG.frm.size this)
 ·have hgm:=hG.mine 0 g (by simp) hg
  refine(hb.block x (Nat.lt_of_lt_of_le hx hG.frm.size) fun e=>?_).trans (hG.frm.block x hx hm)
  subst e
  rcases hgm with k|k
  ·exact hm k
  ·omega
mutual
def Mh:RR→Bool
 | .ro r=>flat r
 | .row _ _ cs=>cs.all flat
 | .agg rs=>A6 rs
 | .tup rs=>A6 rs
def A6:List RR→Bool
 | []=>true
 |x::xs=>Mh x&&A6 xs
end
section
variable{w:World}{ok ok':Nat→Prop}
theorem On:∀(rs:List RV) (us:List Value),rs.all flat=true→RV.rels w ok rs us→RV.rels w ok' rs us
 | [],us,_,h=>by simpa [RV.rels] using h
 |r::rs,us,hf,h=>by
  rw[List.all_cons,Bool.and_eq_true]at hf
  simp only[RV.rels]at h ⊢
  obtain⟨u,us',e,h1,h2⟩:=h
  refine⟨u,us',e,?_,On rs us' hf.2 h2⟩
  cases r<;>simp[flat]at hf
  simpa only[RV.rel] using h1
mutual
theorem Oo:∀(rr:RR) (u:Value) (bs:List Nat),Mh rr=true→rr.rel w ok u bs→rr.rel w ok' u bs
 | .ro r,u,bs,hf,h=>by
  simp only[RR.rel]at h ⊢
  refine⟨?_,h.2⟩
  cases r<;>simp[Mh,flat]at hf
  simpa only[RV.rel] using h.1
 | .row e sz cs,u,bs,hf,h=>by
  simp only[RR.rel]at h ⊢
  obtain⟨n,xs,h1,h2,h3,h4⟩:=h
  exact⟨n,xs,h1,h2,On _ _ (by simpa only[Mh] using hf) h3,h4⟩
 | .agg rs,u,bs,hf,h=>by
  simp only[RR.rel]at h ⊢
  obtain⟨us,e,h⟩:=h
  exact⟨us,e,Te rs _ _ (by simpa only[Mh] using hf) h⟩
 | .tup rs,u,bs,hf,h=>by
  simp only[RR.rel]at h ⊢
  obtain⟨us,e,h⟩:=h
  exact⟨us,e,Te rs _ _ (by simpa only[Mh] using hf) h⟩
theorem Te:∀(rs:List RR) (us:List Value) (bs:List Nat),A6 rs=true→RR.rels w ok rs us bs→RR.rels w ok' rs us bs
 | [],us,bs,_,h=>by simpa [RR.rels] using h
 |x::xs,us,bs,hf,h=>by
  simp only[A6,Bool.and_eq_true]at hf
  simp only[RR.rels]at h ⊢
  obtain⟨u,us',b,bs',e1,e2,h1,h2⟩:=h
  exact⟨u,us',b,bs',e1,e2,Oo x u b hf.1 h1,Te xs us' bs' hf.2 h2⟩
end
end
def LendsP(C:Ctx)(σ:List Ob)(v:AV)(r:RV):Prop:=∀(m:Mem) (u:Value) (ok':Nat→Prop),Good C m→m.σ=σ→(∀b,m.ok b→ok' b)→(∀(i g:Nat),0<i→i<σ.length→m.φ i=some g→ok' g)→AV.rel m v u→RV.rel m.w ok' r u
inductive LendsPL (C:Ctx) (σ:List Ob):List AV→List RV→Prop
 |nil:LendsPL C σ [] []
 |cons {v:AV} {r:RV} {vs:List AV} {rs:List RV}:LendsP C σ v r→LendsPL C σ vs rs→LendsPL C σ (v::vs) (r::rs)
section
variable{C:Ctx}{σ:List Ob}
theorem LendsP.ro{r:RV}:LendsP C σ (.ro r) r:=fun m u _ _ _ h1 _ hu=>RV.rel_mono ⟨Nat.le_refl _,fun b _ hb=>⟨h1 b hb,rfl⟩⟩ r u (by simpa only[AV.rel] using hu)
theorem LendsP.nil(sz:Nat):LendsP C σ (.ro .nil) (.seq sz []):=fun m u ok' _ _ h1 _ hu=>RV.rel_mono ⟨Nat.le_refl _,fun b _ hb=>⟨h1 b hb,rfl⟩⟩ _ u (Fits.nil sz m u hu)
theorem LendsPL.rels{m:Mem}{ok':Nat→Prop}(hG:Good C m)(hσ:m.σ=σ)(k1:∀b,m.ok b→ok' b)(k2:∀(i g:Nat),0<i→i<σ.length→m.φ i=some g→ok' g){vs:List AV}{rs:List RV}(h:LendsPL C σ vs rs):∀us,AV.rels m vs us→RV.rels m.w ok' rs us:=by
 induction h with
 |nil=>intro us hu;simpa [AV.rels,RV.rels] using hu
 |cons h1 _ ih=>
  intro us hu
  simp only[AV.rels]at hu
  obtain⟨u,us',rfl,k3,k4⟩:=hu
  simp only[RV.rels]
  exact⟨u,us',rfl,h1 m u ok' hG hσ k1 k2 k3,ih us' k4⟩
theorem LendsP.agg{vs:List AV}{rs:List RV}(h:LendsPL C σ vs rs):LendsP C σ (.agg vs) (.agg rs):=fun m u ok' hG hσ k1 k2 hu=>by
 simp only[AV.rel,RV.rel]at hu ⊢
 obtain⟨us,e,hr⟩:=hu
 exact⟨us,e,h.rels hG hσ k1 k2 _ hr⟩
theorem Z6:∀rs:List RV,LendsPL C σ (rs.map .ro) rs
 | []=>.nil
 |_::rs=>.cons .ro (Z6 rs)
theorem LendsP.own{i:Nat}{o:Ob}{els:List (List RV)}(hi:0<i)(ho:σ[i]?=some o)(h:o.cs=els.flatten.map .ro)(hl:∀x∈els,x.length=o.sz):LendsP C σ (.own i) (.seq o.sz els):=fun m u ok' hG hσ k1 k2 hu=>by
 have hrow:=Gp (cs:=els.flatten) (e:=o.t) (sz:=o.sz) hG (by rw[hσ,ho];cases o;simp_all) hu
 obtain⟨n,xs,h1,h2,h3,h4,h5,h6⟩:=hrow
 refine seals_rel (ok:=m.ok) k1 (.row o.t o.sz els.flatten) (.seq o.sz els) u u.ownBlock.toList (by simp only[Seals];exact⟨els,rfl,rfl,hl⟩) (by simp only[RR.rel];exact⟨n,xs,h1,h2,h3,h4,h5,trivial⟩) fun b hb=>?_
 rw[h6]at hb
 exact k2 i b hi (Za5.1 ho).1 (by simpa [Option.mem_toList] using hb)
end
def Hz(P:Program)(C:Ctx)(fn:Func)(ct:TypeId)(b:List UInt8)(g:Nat)(u:Value)(Q:RR→Prop)(a:Act)(w:World):Prop:=
 a.defers=[]∧∃v,(results fn a.tmps).run P w = .ok v w∧∃rr bs i' h',Q rr∧RR.rel w (fun x=>(C.ok x∧x≠g)∧x∉bs) rr v bs∧bs.Nodup∧(∀x∈bs,C.w0.heap.size≤x∧x<w.heap.size)∧X8 b i'∧Pd ct w g u i' h'∧Bx g C.w0 w
theorem Ys{P:Program}{ct:TypeId}{f:FuncId}{fn:Func}{c:Code}{b:List UInt8}{args:List RV}{Q:RR→Prop}(hf:P.funcs[f]?=some fn)(hb:fn.body=some c)(n:Nat)(hn:fn.ntmps=n)(hl:args.length+1≤n)
  (h:∀(C:Ctx) (g:Nat) (u:Value) (i hh:Int),C.n=n→(∀x,C.mu x→x=g)→HU C b u→X8 b i→Runs P C [.code c] (Hz P C fn ct b g u Q) ⟨(0,.pin 0 0 g)::Vb 1 args,[Yp ct u i hh]⟩):Drw P ct f b args Q:=by
 intro w ok g u i hh us h0 hat hu hi hus
 have hlen:=RV.rels_len args _ hus
 have hu1:u.oneCell'=true:=RV.rel_one (Ya b) u rfl hu
 obtain⟨cs,a0,a1,a2,a3⟩:=hat
 have hgl:g<w.heap.size:=(Array.getElem?_eq_some_iff.1 a0).1
 refine Wz hf hb ?_
 have hs:Sim ⟨w,ok,fun x=>x=g,n⟩ ⟨(0,.pin 0 0 g)::Vb 1 args,[Yp ct u i hh]⟩ {tmps:=(.pointer (some ⟨g,0,none⟩)::us).toArray++Array.replicate (fn.ntmps-(.pointer (some ⟨g,0,none⟩)::us).toArray.size) undef,defers:=[]} w:=by
  refine⟨rfl,by simp;omega,fun j=>if j=0 then some g else none,⟨rfl,fun p q x hp hq _ _=>by simp at hp hq;omega,fun p o hp=>?_,fun p x hp hx=>?_,⟨rfl,rfl,rfl,Nat.le_refl _,fun _ _ _=>rfl,h0⟩⟩,fun t=>?_⟩
  ·cases p with
   |succ p=>simp at hp
   |zero=>
    simp at hp;subst hp
    simp only[if_true]
    refine⟨cs,a0,?_,fun p v hp=>?_⟩
    ·have:=(Array.getElem?_eq_some_iff.1 a3).1
     simp[Yp];omega
    ·simp only[Yp]at hp
     match p,hp with
     |0,hp=>simp at hp;subst hp;exact⟨u,a1,hu1,by simp[AV.rel,RV.rel]⟩
     |1,hp=>simp at hp;subst hp;exact⟨_,a2,rfl,by simp[AV.rel,RV.rel]⟩
     |2,hp=>simp at hp;subst hp;exact⟨_,a3,rfl,by simp[AV.rel,RV.rel]⟩
     |p+3,hp=>simp at hp
  ·simp at hp;subst hp;simp at hx;exact .inl hx.symm
  ·rw[Yy]
   split
   ·rename_i e;subst e
    simp only[AV.rel]
    refine⟨by simp,rfl,?_⟩
    rw[Array.getD_eq_getD_getElem?,Array.getElem?_append_left (by simp)]
    simp
   ·rename_i e
    rw[Lb]
    by_cases h1:1≤t
    ·rw[if_pos h1]
     cases hr:args[t-1]? with
     |none=>simp[AV.rel]
     |some r=>
      obtain⟨x,e1,e2⟩:=RV.rels_at args _ hus (t-1) r hr
      have ht:t-1<us.length:=(Za5.1 e1).1
      simp only[AV.rel]
      have:((.pointer (some ⟨g,0,none⟩)::us).toArray++Array.replicate (fn.ntmps-(.pointer (some ⟨g,0,none⟩)::us).toArray.size) undef).getD t undef=x:=by
       rw[Array.getD_eq_getD_getElem?,Array.getElem?_append_left (by simp;omega)]
       obtain⟨t',rfl⟩:∃t',t=t'+1:=⟨t-1,by omega⟩
       simp at e1 ⊢
       simp[e1]
      rw[this]
      refine RV.rel_mono ⟨Nat.le_refl _,fun x _ hx=>⟨⟨hx.1,fun j hj he=>?_⟩,rfl⟩⟩ r x e2
      simp at hj;subst hj
      simp at he;exact hx.2 he.symm
    ·omega
 have hr:=(h ⟨w,ok,fun x=>x=g,n⟩ g u i hh rfl (fun _ h=>h) (RV.rel_mono ⟨Nat.le_refl _,fun x _ hx=>⟨hx,rfl⟩⟩ _ _ hu) hi).run _ w hs
 intro bb cc
 obtain⟨a',w',todo,⟨hd,v,hv,rr,bs,i',h',q1,q2,q3,q4,q5,q6,q7⟩,hst⟩:=hr bb cc
 exact⟨a',w',todo,⟨hd,v,hv,v,rr,bs,i',h',rfl,q1,q2,q3,q4,q5,q6,q7⟩,hst⟩
theorem Frm.bx{C:Ctx}{w:World}{g:Nat}(h:Frm C w)(hm:∀x,C.mu x→x=g):Bx g C.w0 w:=⟨h.os,h.tape,h.output,h.size,fun x hx hn=>h.block x hx fun k=>hn (hm x k)⟩
section
variable{P:Program}{C:Ctx}{fn:Func}{ct:TypeId}{b:List UInt8}{g:Nat}{u:Value}{Q:RR→Prop}{S:St}{i h:Int}{more:List Ob}
theorem cur_at{m:Mem}(hG:Good C m)(hσ:m.σ=Yp ct u i h::more)(hg:m.φ 0=some g):Pd ct m.w g u i h:=by
 have h0:=hG.ob 0 (Yp ct u i h) (by rw[hσ];rfl)
 rw[hg]at h0
 obtain⟨us,q1,q2,q3⟩:=h0
 obtain⟨x0,e0,_,r0⟩:=q3 0 (.ro (.c u)) rfl
 obtain⟨x1,e1,_,r1⟩:=q3 1 (.int i) rfl
 obtain⟨x2,e2,_,r2⟩:=q3 2 (.int h) rfl
 simp only[AV.rel,RV.rel]at r0 r1 r2
 subst r0;subst r1;subst r2
 exact⟨us,q1,e0,e1,e2⟩
theorem Fd(hm:∀x,C.mu x→x=g){a:Act}{w:World}{φ:Nat→Option Nat}(hd:a.defers=[])(hG:Good C ⟨w,φ,S.σ,C.ok⟩)(hσ:S.σ=Yp ct u i h::more)(hg:φ 0=some g)(hi:X8 b i){v:AV}{x:Value}(hx:(results fn a.tmps).run P w = .ok x w)(hv:AV.rel ⟨w,φ,S.σ,C.ok⟩ v x)
  (rr:RR) (is:List Nat) (hh:Kx S.σ rr v is) (hn:is.Nodup) (h0:0∉is) (hQ:Q rr):Hz P C fn ct b g u Q a w:=by
 have hne:∀y∈V1 φ is,y≠g:=fun y hy e=>by
  obtain⟨j,hj,e'⟩:=mem_blocks.1 hy
  have hjl:=Jw _ _ _ _ hh j hj
  have:=hG.inj j 0 g hjl (by simp only[hσ,Za8];omega) (e▸e') hg
  exact h0 (this▸hj)
 refine⟨hd,x,hx,rr,V1 φ is,i,h,hQ,?_,J2 hG is hn (Jw _ _ _ _ hh),fun y hy=>?_,hi,cur_at hG hσ hg,hG.frm.bx hm⟩
 ·have:=Hd hG rr _ _ is hh hv
  refine RR.rel_mono (fun y hy=>⟨⟨hy.1,fun e=>hy.2 0 (by simp only[hσ,Za8];omega) (e▸hg)⟩,fun hmm=>?_⟩) _ _ _ this
  obtain⟨j,hj,e⟩:=mem_blocks.1 hmm
  exact hy.2 j (Jw _ _ _ _ hh j hj) e
 ·obtain⟨j,hj,e⟩:=mem_blocks.1 hy
  have hjl:=Jw _ _ _ _ hh j hj
  refine⟨?_,hG.lt hjl e⟩
  rcases hG.mine j y hjl e with k|k
  ·exact absurd (hm y k) (hne y hy)
  ·exact k
theorem pin_at{t:Nat}{φ:Nat→Option Nat}{w:World}{a:Act}(hH:Holds ⟨w,φ,S.σ,C.ok⟩ S.env a)(ht:look S.env t = .pin 0 0 g):φ 0=some g:=by
 have:=hH t
 rw[ht]at this
 simp only[AV.rel]at this
 exact this.2.1
theorem A8{x:ResultVar}(hm:∀x,C.mu x→x=g)(hr:fn.results=#[x])(hσ:S.σ=Yp ct u i h::more)(ht:look S.env 0 = .pin 0 0 g)(hi:X8 b i)(v:AV)(hx:H3 P S x v)(rr:RR)(is:List Nat)(hh:Kx S.σ rr v is)(hn:is.Nodup)(h0:0∉is)(hQ:Q rr) :
  ∀a w,Sim C S a w→Hz P C fn ct b g u Q a w:=by
 intro a w ⟨h1,h2,φ,hG,hH⟩
 obtain⟨y,k1,k2⟩:=Ld (P:=P) hG hH x v hx
 exact Fd hm h1 hG hσ (pin_at hH ht) hi (by rw[W3,hr];simp[k1]) k2 rr is hh hn h0 hQ
theorem U4{t:Nat}{r:RV}(hm:∀x,C.mu x→x=g)(hr:fn.results=#[.tmp t])(hσ:S.σ=Yp ct u i h::more)(ht:look S.env 0 = .pin 0 0 g)(hi:X8 b i)(hx:look S.env t = .ro r)(hQ:Q (.ro r)):∀a w,Sim C S a w→Hz P C fn ct b g u Q a w:=
 A8 hm hr hσ ht hi _ rfl (.ro r) [] (by simp only[Kx];exact⟨hx,trivial⟩) List.nodup_nil (by simp) hQ
theorem Jy{t j sz:Nat}{e:TypeId}{rs:List RV}(hm:∀x,C.mu x→x=g)(hr:fn.results=#[.tmp t])(hσ:S.σ=Yp ct u i h::more)(ht:look S.env 0 = .pin 0 0 g)(hi:X8 b i)(hx:look S.env t = .own j)(hj:0<j)(ho:S.σ[j]?=some ⟨e,sz,rs.map .ro⟩)(hQ:Q (.row e sz rs)):∀a w,Sim C S a w→Hz P C fn ct b g u Q a w:=
 A8 hm hr hσ ht hi _ rfl (.row e sz rs) [j] (by simp only[Kx];exact⟨j,hx,ho,rfl⟩) (by simp) (by simp;omega) hQ
end
section
variable{P:Program}{C:Ctx}{ops:Array Oper}{rest:List Oper}{k:List Item}{R:Act→World→Prop}{env:Env}{σ:List Ob}{t:Nat}{ty:TypeId}{pos:String}{after:Array Edge}{ct:TypeId}{b:List UInt8}{u:Value}{i h:Int}{more:List Ob}
structure Drawn (C:Ctx) (ct:TypeId) (b:List UInt8) (u:Value) (m:Mem) (rr:RR) (v:Value) (w':World) (i' h':Int) (bs:List Nat) (g:Nat):Prop where
 g0:m.φ 0=some g
 res:RR.rel w' (fun x=>(C.ok x∧∀j,j<m.σ.length→m.φ j≠some x)∧x∉bs) rr v bs
 nodup:bs.Nodup
 fresh:∀x∈bs,m.w.heap.size≤x∧x<w'.heap.size
 ok:X8 b i'
 at_:Pd ct w' g u i' h'
 bx:Bx g m.w w'
theorem Ov{m:Mem}(hG:Good C m)(hσ:m.σ=Yp ct u i h::more):∃g,m.φ 0=some g:=by
 have h0:=hG.ob 0 (Yp ct u i h) (by rw[hσ];rfl)
 cases hg:m.φ 0 with
 |none=>rw[hg]at h0;simp[ObRel,Yp]at h0
 |some g=>exact⟨g,rfl⟩
theorem Fe{f:FuncId}{fn:Func}{x0:Operand}{xs:List Operand}{ats:Array TypeId}{args:List RV}{Q:RR→Prop}{d:Option Nat}{gd:Option (Nat×Bool)}[hfn:FN P f fn](hf:Drw P ct f b args Q)(hq:∀rr,Q rr→Mh rr=true)(hc:unpin (ev env x0) = .obj 0 0)(hu:HU C b u)(hi:X8 b i)
  {m:Mem} {a:Act} (hG:Good C m) (hσ:m.σ=Yp ct u i h::more) (ha:LendsPL C m.σ (xs.map (ev env)) args) (hH:∀x∈x0::xs,AV.rel m (ev env x) (a.eval x)) {K:Act→World→Prop} {Q':Exit→Act→World→Prop}
  (hK:∀rr v w' i' h' bs g,Q rr→Drawn C ct b u m rr v w' i' h' bs g→K (a.put d v) w'):(⟨d,.call {callee:=.value (.func f),args:=(x0::xs).toArray,argTypes:=ats},ty,pos,after,gd⟩:Oper).wp P a m.w K Q':=by
 obtain⟨g,hg⟩:=Ov hG hσ
 have hp:=Jk (hH x0 (by simp))
 rw[hc]at hp
 simp only[AV.rel]at hp
 obtain⟨_,g',hg',ep⟩:=hp
 rw[hg]at hg';injection hg' with hg';subst hg'
 have hne:∀j z,0<j→j<m.σ.length→m.φ j=some z→z≠g:=fun j z h0 hj hz e=>by
  have:=hG.inj j 0 g hj (by simp only[hσ,Za8];omega) (e▸hz) hg
  omega
 have hokm:∀j z,0<j→j<m.σ.length→m.φ j=some z→(m.w.heap.size≤z∨C.ok z∨C.mu z):=fun j z _ hj hz=>by
  rcases hG.mine j z hj hz with q|q
  ·exact .inr (.inr q)
  ·exact .inr (.inl (hG.frm.new z q))
 have hr:=ha.rels (ok':=fun z=>(C.ok z∨∃j,0<j∧j<m.σ.length∧m.φ j=some z)∧z≠g) hG rfl (fun z hz=>⟨.inl (by rw[←hG.ok0];exact hz.1),fun e=>hz.2 0 (by simp only[hσ,Za8];omega) (e▸hg)⟩) (fun j z h0 hj hz=>⟨.inr ⟨j,h0,hj,hz⟩,hne j z h0 hj hz⟩) _ (X4 (a:=a) (m:=m) xs fun x hx=>hH x (by simp[hx]))
 unfold Oper.wp
 rw[execOp_call_go,Wq hfn]
 simp only[Oper.upon]
 have e0:((x0::xs).toArray.map a.eval)=(.pointer (some ⟨g,0,none⟩)::xs.map a.eval).toArray:=by simp[ep]
 rw[e0]
 simp only[Array.empty_append,Array.append_empty]
 refine(hf m.w (fun z=>C.ok z∨∃j,0<j∧j<m.σ.length∧m.φ j=some z) g u i h _ (fun z hz=>.inl (hG.frm.new z (Nat.le_trans hG.frm.size hz))) (cur_at hG hσ hg) (RV.rel_mono ⟨Nat.le_refl _,fun z _ hz=>⟨⟨.inl hz.1,fun e=>hz.2 0 (by simp only[hσ,Za8];omega) (e▸hg)⟩,rfl⟩⟩ _ _ (hu.now hG)) hi hr).mono ?_
 rintro e w' ⟨v,rr,bs,i',h',rfl,hQ,q1,q2,q3,q4,q5,q6⟩
 exact hK rr v w' i' h' bs g hQ ⟨hg,Oo rr v bs (hq rr hQ) q1,q2,q3,q4,q5,q6⟩
theorem Hj{f:FuncId}{fn:Func}{x0:Operand}{xs:List Operand}{ats:Array TypeId}{args:List RV}{Q:RR→Prop}{d:Option Nat}{gd:Option (Nat×Bool)}[hfn:FN P f fn](hf:Drw P ct f b args Q)(hc:unpin (ev env x0) = .obj 0 0)(hu:HU C b u)(hi:X8 b i)
  {m:Mem} {a:Act} (hG:Good C m) (hσ:m.σ=Yp ct u i h::more) (ha:FitsL (xs.map (ev env)) args) (hH:∀x∈x0::xs,AV.rel m (ev env x) (a.eval x)) {K:Act→World→Prop} {Q':Exit→Act→World→Prop}
  (hK:∀rr v w' i' h' bs g,Q rr→Drawn C ct b u m rr v w' i' h' bs g→K (a.put d v) w'):(⟨d,.call {callee:=.value (.func f),args:=(x0::xs).toArray,argTypes:=ats},ty,pos,after,gd⟩:Oper).wp P a m.w K Q':=by
 obtain⟨g,hg⟩:=Ov hG hσ
 have hp:=Jk (hH x0 (by simp))
 rw[hc]at hp
 simp only[AV.rel]at hp
 obtain⟨_,g',hg',ep⟩:=hp
 rw[hg]at hg';injection hg' with hg';subst hg'
 have hl0:0<m.σ.length:=by simp only[hσ,Za8];omega
 have hr:=ha.rels (m:=m) _ (X4 (a:=a) (m:=m) xs fun x hx=>hH x (by simp[hx]))
 unfold Oper.wp
 rw[execOp_call_go,Wq hfn]
 simp only[Oper.upon]
 have e0:((x0::xs).toArray.map a.eval)=(.pointer (some ⟨g,0,none⟩)::xs.map a.eval).toArray:=by simp[ep]
 rw[e0]
 simp only[Array.empty_append,Array.append_empty]
 refine(hf m.w (fun z=>C.ok z∧∀j,0<j→j<m.σ.length→m.φ j≠some z) g u i h _ (fun z hz=>⟨hG.frm.new z (Nat.le_trans hG.frm.size hz),fun j _ hj e=>by have:=hG.lt hj e;omega⟩) (cur_at hG hσ hg) (RV.rel_mono ⟨Nat.le_refl _,fun z _ hz=>⟨⟨⟨hz.1,fun j _ hj=>hz.2 j hj⟩,fun e=>hz.2 0 hl0 (e▸hg)⟩,rfl⟩⟩ _ _ (hu.now hG)) hi
  (RV.rels_mono ⟨Nat.le_refl _,fun z _ hz=>⟨⟨⟨by rw[←hG.ok0];exact hz.1,fun j _ hj=>hz.2 j hj⟩,fun e=>hz.2 0 hl0 (e▸hg)⟩,rfl⟩⟩ _ _ hr)).mono ?_
 rintro e w' ⟨v,rr,bs,i',h',rfl,hQ,q1,q2,q3,q4,q5,q6⟩
 refine hK rr v w' i' h' bs g hQ ⟨hg,RR.rel_mono (fun z hz=>⟨⟨hz.1.1.1,fun j hj e=>?_⟩,hz.2⟩) _ _ _ q1,q2,q3,q4,q5,q6⟩
 by_cases h0:j=0
 ·subst h0;rw[hg]at e;injection e with e;exact hz.1.2 e.symm
 ·exact hz.1.1.2 j (by omega) hj e
theorem Drawn.simS{m:Mem}{rr:RR}{r:RV}{v:Value}{w':World}{i' h':Int}{bs:List Nat}{g:Nat}(hD:Drawn C ct b u m rr v w' i' h' bs g)(hG:Good C m)(hσ:m.σ=Yp ct u i h::more)(hu:u.oneCell'=true)(hcl:Hn more=true)(hs:Seals rr r) :
  Good C ⟨w',m.φ,Yp ct u i' h'::more,C.ok⟩∧(∀y x,cln y=true→AV.rel m y x→AV.rel ⟨w',m.φ,Yp ct u i' h'::more,C.ok⟩ y x)∧AV.rel ⟨w',m.φ,Yp ct u i' h'::more,C.ok⟩ (.ro r) v:=by
 obtain⟨w,φ,s,ok0⟩:=m
 have h0:=hG.ok0
 simp only at h0 hσ
 subst h0;subst hσ
 obtain⟨g1,g2⟩:=Ou (new:=[]) (φ':=φ) hG hD.g0 hu hD.at_ hD.bx hcl (fun _ _=>rfl) (fun j hj=>by simp at hj) (fun a c x ha=>by simp at ha) (fun j o hj=>by simp at hj)
 simp only[List.append_nil]at g1 g2
 refine⟨g1,g2,?_⟩
 simp only[AV.rel]
 refine seals_rel (ok:=fun x=>(C.ok x∧∀j,j<(Yp ct u i h::more).length→φ j≠some x)∧x∉bs) (fun x hx=>⟨hx.1.1,fun j hj=>hx.1.2 j (by simpa using hj)⟩) rr r v bs hs hD.res fun x hx=>⟨hG.frm.new x (Nat.le_trans hG.frm.size (hD.fresh x hx).1),fun j hj e=>?_⟩
 have:=hG.lt (by simpa using hj) e
 have:=(hD.fresh x hx).1
 simp only at *
 omega
theorem Drawn.simO{m:Mem}{rr:RR}{v:Value}{w':World}{i' h':Int}{bs:List Nat}{g:Nat}(hD:Drawn C ct b u m rr v w' i' h' bs g)(hG:Good C m)(hσ:m.σ=Yp ct u i h::more)(hu:u.oneCell'=true)(hcl:Hn more=true) :
  ∃φ',Good C ⟨w',φ',(Yp ct u i' h'::more)++obs rr,C.ok⟩∧(∀y x,cln y=true→AV.rel m y x→AV.rel ⟨w',φ',(Yp ct u i' h'::more)++obs rr,C.ok⟩ y x)∧AV.rel ⟨w',φ',(Yp ct u i' h'::more)++obs rr,C.ok⟩ (Bu (more.length+1) rr) v:=by
 obtain⟨w,φ,s,ok0⟩:=m
 have h0:=hG.ok0
 simp only at h0 hσ
 subst h0;subst hσ
 obtain⟨ps,p1,p2,p3⟩:=Ef rr v bs hD.res
 subst p2
 let φ':Nat→Option Nat:=fun i=>if i<more.length+1 then φ i else(ps[i-(more.length+1)]?).getD none
 have e1:∀i,i<more.length+1→φ' i=φ i:=fun i hi=>if_pos hi
 have e2:∀j,φ' (more.length+1+j)=(ps[j]?).getD none:=fun j=>by show(if more.length+1+j<more.length+1 then _ else _)=_;rw[if_neg (by omega)];simp
 have e3:∀(j g:Nat),φ' (more.length+1+j)=some g→ps[j]?=some (some g):=fun j g hg=>by
  rw[e2]at hg
  cases hp:ps[j]? with
  |none=>simp[hp]at hg
  |some p=>simp[hp]at hg;rw[hg]
 have hnew:∀(j g:Nat),φ' (more.length+1+j)=some g→g∈ps.flatMap Option.toList:=fun j g hg=>List.mem_flatMap.2 ⟨some g,Zba (e3 j g hg),by simp⟩
 have hLie:Lies ⟨w',φ',(Yp ct u i' h'::more)++obs rr,C.ok⟩ (more.length+1) ps (obs rr):=⟨fun j p hj=>by show φ' (more.length+1+j)=p;rw[e2,hj];rfl,fun j o hj=>by show((Yp ct u i' h'::more)++obs rr)[more.length+1+j]?=_;rw[Zbd (by simp),show more.length+1+j-(Yp ct u i' h'::more).length=j by simp];exact hj⟩
 have hok:∀x,((C.ok x∧∀j,j<(Yp ct u i h::more).length→φ j≠some x)∧x∉ps.flatMap Option.toList)→AV.Mem.ok ⟨w',φ',(Yp ct u i' h'::more)++obs rr,C.ok⟩ x:=fun x hx=>⟨hx.1.1,fun j hj he=>by
  simp only at he
  rcases Nat.lt_or_ge j (more.length+1) with hlt|hge
  ·exact hx.1.2 j (by simpa using hlt) ((e1 j hlt).symm.trans he)
  ·exact hx.2 (hnew (j-(more.length+1)) x (by rwa [show more.length+1+(j-(more.length+1))=j by omega]))⟩
 obtain⟨q1,q2⟩:=p3 ⟨w',φ',(Yp ct u i' h'::more)++obs rr,C.ok⟩ (more.length+1) rfl hok hLie
 obtain⟨g1,g2⟩:=Ou (new:=obs rr) (φ':=φ') hG hD.g0 hu hD.at_ hD.bx hcl e1 (fun j hj x hx=>(hD.fresh x (hnew j x hx)).1) (fun a c x ha hc ea ec=>L1 hD.nodup a c x (e3 a x ea) (e3 c x ec)) q2
 exact⟨φ',g1,g2,q1⟩
theorem HU.one(hu:HU C b u):u.oneCell'=true:=RV.rel_one (Ya b) u rfl hu
theorem Pm{S S':St}{φ:Nat→Option Nat}{w w':World}{a:Act}{t:Nat}{y:AV}{v:Value}{φ':Nat→Option Nat}(s1:a.defers=[])(s2:a.tmps.size=C.n)(hH:Holds ⟨w,φ,S.σ,C.ok⟩ S.env a)(hG':Good C ⟨w',φ',S'.σ,C.ok⟩)(he:S'.env=(t,y)::S.env)(hcl:clnE S.env=true)
  (hk:∀y x,cln y=true→AV.rel ⟨w,φ,S.σ,C.ok⟩ y x→AV.rel ⟨w',φ',S'.σ,C.ok⟩ y x) (ht:t<C.n) (hv:AV.rel ⟨w',φ',S'.σ,C.ok⟩ y v):Sim C S' (a.put (some t) v) w':=
 ⟨s1,by simp[Act.put,s2],φ',hG',by rw[he];exact Holds.put (fun s=>hk _ _ (clnE.look hcl s) (hH s)) (by rw[s2];exact ht) hv⟩
theorem Gy{f:FuncId}{fn:Func}{x0:Operand}{xs:List Operand}{ats:Array TypeId}{args:List RV}{Q:RR→Prop}{Q':RV→Prop}[hfn:FN P f fn](hf:Drw P ct f b args Q)(hq:∀rr,Q rr→Mh rr=true∧∃r,Seals rr r∧Q' r)(hc:unpin (ev env x0) = .obj 0 0)(hu:HU C b u)(hi:X8 b i)(hσ:σ=Yp ct u i h::more)(ha:LendsPL C σ (xs.map (ev env)) args)
  (hce:clnE env=true) (hcl:Hn more=true) (ht:t<C.n) (hk:∀i' h' r,X8 b i'→Q' r→RunsL P C ops rest k R ⟨(t,.ro r)::env,Yp ct u i' h'::more⟩) :
  RunsL P C ops (⟨some t,.call {callee:=.value (.func f),args:=(x0::xs).toArray,argTypes:=ats},ty,pos,after,none⟩::rest) k R ⟨env,σ⟩:=by
 refine⟨fun a w ⟨s1,s2,φ,hG,hH⟩=>?_⟩
 refine wpList_plain rfl fun K hK'=>?_
 refine Fe hf (fun rr h=>(hq rr h).1) hc hu hi (m:=⟨w,φ,σ,C.ok⟩) hG hσ ha (fun x _=>Xy hH x) fun rr v w' i' h' bs g hQ hD=>?_
 obtain⟨_,r,hs,hr⟩:=hq rr hQ
 obtain⟨g1,g2,g3⟩:=hD.simS hG hσ hu.one hcl hs
 exact hK' _ _ ((hk i' h' r hD.ok hr).run _ _ (Pm (S:=⟨env,σ⟩) s1 s2 hH g1 rfl hce g2 ht g3))
theorem Sr{f:FuncId}{fn:Func}{x0:Operand}{xs:List Operand}{ats:Array TypeId}{args:List RV}{Q:RR→Prop}{Q':RV→Prop}[hfn:FN P f fn](hf:Drw P ct f b args Q)(hq:∀rr,Q rr→∃r,Seals rr r∧Q' r)(hc:unpin (ev env x0) = .obj 0 0)(hu:HU C b u)(hi:X8 b i)(hσ:σ=Yp ct u i h::more)(ha:xs.map (ev env)=args.map .ro)
  (hce:clnE env=true) (hcl:Hn more=true) (ht:t<C.n) (hk:∀i' h' r,X8 b i'→Q' r→RunsL P C ops rest k R ⟨(t,.ro r)::env,Yp ct u i' h'::more⟩) :
  RunsL P C ops (⟨some t,.call {callee:=.value (.func f),args:=(x0::xs).toArray,argTypes:=ats},ty,pos,after,none⟩::rest) k R ⟨env,σ⟩:=by
 refine⟨fun a w ⟨s1,s2,φ,hG,hH⟩=>?_⟩
 refine wpList_plain rfl fun K hK'=>?_
 refine Hj hf hc hu hi (m:=⟨w,φ,σ,C.ok⟩) hG hσ (ha▸Un args) (fun x _=>Xy hH x) fun rr v w' i' h' bs g hQ hD=>?_
 obtain⟨r,hs,hr⟩:=hq rr hQ
 obtain⟨g1,g2,g3⟩:=hD.simS hG hσ hu.one hcl hs
 exact hK' _ _ ((hk i' h' r hD.ok hr).run _ _ (Pm (S:=⟨env,σ⟩) s1 s2 hH g1 rfl hce g2 ht g3))
theorem K1{f:FuncId}{fn:Func}{x0:Operand}{xs:List Operand}{ats:Array TypeId}{args:List RV}{Q:RR→Prop}[hfn:FN P f fn](hf:Drw P ct f b args Q)(hc:unpin (ev env x0) = .obj 0 0)(hu:HU C b u)(hi:X8 b i)(hσ:σ=Yp ct u i h::more)(ha:xs.map (ev env)=args.map .ro)
  (hce:clnE env=true) (hcl:Hn more=true) (ht:t<C.n) (hk:∀i' h' rr,X8 b i'→Q rr→RunsL P C ops rest k R ⟨(t,Bu (more.length+1) rr)::env,(Yp ct u i' h'::more)++obs rr⟩) :
  RunsL P C ops (⟨some t,.call {callee:=.value (.func f),args:=(x0::xs).toArray,argTypes:=ats},ty,pos,after,none⟩::rest) k R ⟨env,σ⟩:=by
 refine⟨fun a w ⟨s1,s2,φ,hG,hH⟩=>?_⟩
 refine wpList_plain rfl fun K hK'=>?_
 refine Hj hf hc hu hi (m:=⟨w,φ,σ,C.ok⟩) hG hσ (ha▸Un args) (fun x _=>Xy hH x) fun rr v w' i' h' bs g hQ hD=>?_
 obtain⟨φ',g1,g2,g3⟩:=hD.simO hG hσ hu.one hcl
 exact hK' _ _ ((hk i' h' rr hD.ok hQ).run _ _ (Pm (S:=⟨env,σ⟩) s1 s2 hH g1 rfl hce g2 ht g3))
end
section
variable{C:Ctx}{w:World}{φ:Nat→Option Nat}{σ:List Ob}{q:Nat}{e:TypeId}{cs:List AV}{us:Array Value}
mutual
theorem Gt(hq:σ[q]?=some ⟨e,0,[]⟩)(hφ:φ q=none):∀(v:AV) (u:Value),AV.rel ⟨w,φ,σ,C.ok⟩ v u→AV.rel ⟨w.alloc (.cells us e),upd φ q (some w.heap.size),σ.set q ⟨e,0,cs⟩,C.ok⟩ v u
 | .ro r,u,h=>by
  simp only[AV.rel]at h ⊢
  refine RV.rel_mono ⟨(Qt w _).size,fun b hlt hok=>⟨⟨hok.1,fun i hi he=>?_⟩,(Qt w _).block b hlt⟩⟩ r u h
  by_cases hiq:i=q
  ·subst hiq;simp only[Xg,Option.some.injEq]at he;omega
  ·simp only[Xd hiq]at he;exact hok.2 i (by simpa using hi) he
 | .junk,u,_=>by simp[AV.rel]
 | .obj i off,u,h=>by
  simp only[AV.rel]at h ⊢
  obtain⟨h1,g,h2,h3⟩:=h
  have hiq:i≠q:=by rintro rfl;rw[hφ]at h2;cases h2
  exact⟨by simpa using h1,g,(Xd hiq).trans h2,h3⟩
 | .pin i off g,u,h=>by
  simp only[AV.rel]at h ⊢
  obtain⟨h1,h2,h3⟩:=h
  have hiq:i≠q:=by rintro rfl;rw[hφ]at h2;cases h2
  exact⟨by simpa using h1,(Xd hiq).trans h2,h3⟩
 | .own i,u,h=>by
  simp only[AV.rel]at h ⊢
  obtain⟨ob,n,h1,h2,h3,h4⟩:=h
  have hiq:i≠q:=by rintro rfl;rw[hq]at h1;injection h1 with h1;subst h1;exact absurd h3 (Nat.lt_irrefl 0)
  refine⟨ob,n,by rw[List.getElem?_set_ne (Ne.symm hiq)];exact h1,h2,h3,?_⟩
  rcases h4 with⟨e1,e2,e3⟩|⟨g,cap,vs,hg,e1,hh,c1⟩
  ·exact .inl ⟨e1,e2,(Xd hiq).trans e3⟩
  ·exact .inr ⟨g,cap,vs,(Xd hiq).trans hg,e1,((Qt w _).block g (Array.getElem?_eq_some_iff.1 hh).1).trans hh,c1⟩
 | .agg vs,u,h=>by
  simp only[AV.rel]at h ⊢
  obtain⟨us',e1,h1⟩:=h
  exact⟨us',e1,Jp hq hφ vs _ h1⟩
 | .tup vs,u,h=>by
  simp only[AV.rel]at h ⊢
  obtain⟨us',e1,h1⟩:=h
  exact⟨us',e1,Jp hq hφ vs _ h1⟩
 | .fn f a b,u,h=>by
  simp only[AV.rel]at h ⊢
  obtain⟨us',vs',e1,h1,h2⟩:=h
  exact⟨us',vs',e1,Jp hq hφ a _ h1,Jp hq hφ b _ h2⟩
theorem Jp(hq:σ[q]?=some ⟨e,0,[]⟩)(hφ:φ q=none):∀(vs:List AV) (us':List Value),AV.rels ⟨w,φ,σ,C.ok⟩ vs us'→AV.rels ⟨w.alloc (.cells us e),upd φ q (some w.heap.size),σ.set q ⟨e,0,cs⟩,C.ok⟩ vs us'
 | [],us',h=>by simpa [AV.rels] using h
 |x::xs,us',h=>by
  simp only[AV.rels]at h ⊢
  obtain⟨u,us'',e1,h1,h2⟩:=h
  exact⟨u,us'',e1,Gt hq hφ x u h1,Jp hq hφ xs us'' h2⟩
end
theorem good_fill(hG:Good C ⟨w,φ,σ,C.ok⟩)(hq:σ[q]?=some ⟨e,0,[]⟩)(hφ:φ q=none)(zs:List Value)(h1:∀x∈zs,x.oneCell'=true) :
  Good C ⟨w.alloc (.cells zs.toArray e),upd φ q (some w.heap.size),σ.set q ⟨e,0,zs.map fun v=>.ro (.c v)⟩,C.ok⟩:=by
 have hql:q<σ.length:=(Za5.1 hq).1
 have hb:=Qt w (.cells zs.toArray e)
 refine⟨rfl,fun i j g hi hj e1 e2=>?_,fun i o hi=>?_,fun i g hi hg=>?_,hG.frm.below hb⟩
 ·simp only[List.length_set]at hi hj
  by_cases hiq:i=q<;>by_cases hjq:j=q
  ·omega
  ·subst hiq;simp only[Xg,Option.some.injEq]at e1;simp only[Xd hjq]at e2
   have:=hG.lt hj e2;simp only at this;omega
  ·subst hjq;simp only[Xg,Option.some.injEq]at e2;simp only[Xd hiq]at e1
   have:=hG.lt hi e1;simp only at this;omega
  ·simp only[Xd hiq]at e1;simp only[Xd hjq]at e2
   exact hG.inj i j g hi hj e1 e2
 ·by_cases hiq:i=q
  ·subst hiq
   simp only[List.getElem?_set_self hql,Option.some.injEq]at hi
   subst hi
   simp only[Xg,ObRel]
   refine⟨zs.toArray,heap_alloc_new w _,by simp,fun j v hj=>?_⟩
   rw[List.getElem?_map,Option.map_eq_some_iff]at hj
   obtain⟨x,hx,rfl⟩:=hj
   exact⟨x,by simpa using hx,h1 x (Zba hx),by simp[AV.rel,RV.rel]⟩
  ·simp only[List.getElem?_set_ne (Ne.symm hiq)]at hi
   have h:=hG.ob i o hi
   simp only[Xd hiq]
   simp only at h
   cases hg:φ i with
   |none=>rw[hg]at h;exact h
   |some g=>
    rw[hg]at h
    obtain⟨vs,q1,q2,q3⟩:=h
    refine⟨vs,(hb.block g (Array.getElem?_eq_some_iff.1 q1).1).trans q1,q2,fun j v hj=>?_⟩
    obtain⟨x,k1,k2,k3⟩:=q3 j v hj
    exact⟨x,k1,k2,Gt hq hφ v x k3⟩
 ·simp only[List.length_set]at hi
  by_cases hiq:i=q
  ·subst hiq;simp only[Xg,Option.some.injEq]at hg;subst hg;exact .inr hG.frm.size
  ·simp only[Xd hiq]at hg;exact hG.mine i g hi hg
end
abbrev Res:=List (Nat×TypeId×List Value)
def Il(listed:Array Bool)(r:Nat×TypeId×List Value):Ob:=⟨r.2.1,0,if listed.getD r.1 false=true then r.2.2.map (fun v=>.ro (.c v)) else[]⟩
def res(rs:Res)(listed:Array Bool):List Ob:=rs.map (Il listed)
def full(rs:Res):List Ob:=rs.map fun r=>⟨r.2.1,0,r.2.2.map fun v=>.ro (.c v)⟩
def YF(P:Program)(C:Ctx)(ops:Array Oper)(σ:List Ob)(rs:Res)(i:Nat)(o:Oper)(v:AV)(E:EE):Prop:=
 ((∀r∈rs,r.1≠i)∧((Kr ops E o.guard=some true∧∀more,PurF P C o E (σ++more) v)∨(Kr ops E o.guard=some false∧v = .ro (.c undef)))) ∨
 (∃p e zs,rs[p]?=some (i,e,zs)∧o.op = .alloc e∧o.guard=none∧o.dst.isSome=true∧TZ P e zs∧v = .obj (σ.length+p) 0)
section
variable{P:Program}{C:Ctx}{ops:Array Oper}{σ:List Ob}{md:Region.Mode}{rs:Res}
theorem YF.put{i:Nat}{oi oj:Oper}{v u:AV}{E:EE}(hy:YF P C ops σ rs i oi v E)(h3:∀d,oj.dst=some d→d∉oi.looksAt ops):YF P C ops σ rs i oi v (Vx E oj.dst u):=by
 unfold YF at *
 rw[Lp h3]
 rcases hy with⟨h0,⟨hw,hv⟩|hy⟩|hy
 ·exact .inl ⟨h0,.inl ⟨hw,fun more=>(hv more).congr fun x hx=>Tg fun t ht=>Vf (h3 t ht) x hx⟩⟩
 ·exact .inl ⟨h0,.inr hy⟩
 ·exact .inr hy
theorem YF.unput{i:Nat}{oi:Oper}{d:Option Nat}{v u:AV}{E:EE}(hy:YF P C ops σ rs i oi v (Vx E d u))(h3:∀t,d=some t→t∉oi.looksAt ops):YF P C ops σ rs i oi v E:=by
 unfold YF at *
 rw[Lp h3]at hy
 rcases hy with⟨h0,⟨hw,hv⟩|hy⟩|hy
 ·exact .inl ⟨h0,.inl ⟨hw,fun more=>(hv more).congr fun x hx=>(Tg fun t ht=>Vf (h3 t ht) x hx).symm⟩⟩
 ·exact .inl ⟨h0,.inr hy⟩
 ·exact .inr hy
def aOpR(P:Program)(C:Ctx)(ops:Array Oper)(σ:List Ob)(rs:Res)(i:Nat)(K:EE→Prop)(E:EE):Prop:=∃o v,ops[i]?=some o∧YF P C ops σ rs i o v E∧K (Vx E o.dst v)
theorem Bf{i:Nat}{E:EE}{K K':EE→Prop}(h:∀E,K E→K' E)(hh:aOpR P C ops σ rs i K E):aOpR P C ops σ rs i K' E:=by
 obtain⟨o,v,h1,h2,h3⟩:=hh
 exact⟨o,v,h1,h2,h _ h3⟩
theorem Ht{i j:Nat}{oi oj:Oper}{v:AV}(hj:ops[j]?=some oj)(hap:oi.apart ops oj=true){K:EE→Prop}{E:EE}(hy:YF P C ops σ rs i oi v E)(h:aOpR P C ops σ rs j K (Vx E oi.dst v)) :
  aOpR P C ops σ rs j (fun E'=>YF P C ops σ rs i oi v E'∧K (Vx E' oi.dst v)) E:=by
 obtain⟨h1,h2,h3⟩:=Oper.apart_spec hap
 obtain⟨o,u,k1,k2,k3⟩:=h
 rw[hj]at k1;injection k1 with k1;subst k1
 refine⟨oj,u,hj,k2.unput h1,hy.put h3,?_⟩
 rw[←M0 h2];exact k3
def H6(P:Program)(C:Ctx)(md:Region.Mode)(ops:Array Oper)(σ:List Ob)(rs:Res)(n:Nat)(L:Array Bool→EE→Prop):Nat→Array Bool→EE→Prop
 |0,listed,E=>L listed E
 |f+1,listed,E=>Region.ready md ops listed≠[]∧∀i∈Region.ready md ops listed,i<n∧aOpR P C ops σ rs i (H6 P C md ops σ rs n L f (listed.setIfInBounds i true)) E
def sinkP(md:Region.Mode)(ops:Array Oper)(pre:List Nat)(n:Nat):Bool:=
 (List.range n).all fun i=>pre.contains i || (List.range (n+1)).any fun j=>decide (i<j)&&Region.waitsFor md ops j i
theorem Es{n:Nat}{pre:List Nat}{listed:Array Bool}(hs:sinkP md ops pre n=true)(hc:Region.chainB md ops n=true)(hn:n<ops.size)(inv:HeadInv md ops n listed)(hp:∀i∈pre,listed.getD i true=true) :
  ∀(d i:Nat),n-i=d→i<n→listed.getD i true=false→∀t,n≤t→t∉Region.ready md ops listed:=by
 intro d
 induction d using Nat.strongRecOn with
 |_ d ih=>
  intro i hd hi hun t ht hr
  obtain⟨_,ot,hot,hall⟩:=mem_ready.1 hr
  have htlt:t<ops.size:=(Array.getElem?_eq_some_iff.1 hot).1
  by_cases htn:t=n
  ·subst htn
   have h1:=List.all_eq_true.1 hs i (List.mem_range.2 hi)
   rw[Bool.or_eq_true]at h1
   rcases h1 with h1|h1
   ·have:=hp i (by simpa using h1)
    rw[hun]at this;cases this
   obtain⟨j,hj,hj2⟩:=List.any_eq_true.1 h1
   simp only[Bool.and_eq_true,decide_eq_true_eq]at hj2
   obtain⟨oj,hoj,e,he,hb,hon⟩:=Region.waitsFor_spec hj2.2
   have hjle:j≤t:=by have:=List.mem_range.1 hj;omega
   by_cases hjt:j=t
   ·subst hjt
    have:oj=ot:=Option.some.inj (hoj.symm.trans hot)
    subst this
    have h2:=hall e he hb
    rw[hon,getD_both hun]at h2
    cases h2
   ·cases hl:listed.getD j false with
    |true=>
     have h2:=inv.closed j oj hoj hl e he hb
     rw[hon,getD_both hun]at h2
     cases h2
    |false=>
     have hjs:j<listed.size:=by rw[inv.size];omega
     exact ih (t-j) (by omega) j rfl (by omega) (getD_in hjs hl) t (Nat.le_refl _) hr
  ·have h1:=List.all_eq_true.1 hc t (List.mem_range.2 htlt)
   simp only[Bool.or_eq_true,decide_eq_true_eq]at h1
   rcases h1 with h1|h1
   ·omega
   ·obtain⟨o',ho',e,he,hb,hon⟩:=Region.waitsFor_spec h1
    have:o'=ot:=Option.some.inj (ho'.symm.trans hot)
    subst this
    have h2:=hall e he hb
    rw[hon,getD_both (inv.tail (t-1) (by omega) (by omega))]at h2
    cases h2
theorem Na{listed:Array Bool}{i j:Nat}(h:listed.getD i true=true):(listed.setIfInBounds j true).getD i true=true:=by
 by_cases e:j=i
 ·subst e
  simp only[Array.getD_eq_getD_getElem?,Array.getElem?_setIfInBounds,if_true]
  split<;>rfl
 ·rw[getD_set_ne true e];exact h
theorem H5{n i:Nat}{pre:List Nat}{oi:Oper}{v:AV}{L:Array Bool→EE→Prop}(hi:ops[i]?=some oi)
  (hs:sinkP md ops pre n=true) (hc:Region.chainB md ops n=true) (hn:n<ops.size) (hin:i<n)
  (hdone:∀listed E,L listed E→∀j∈Region.ready md ops listed,n≤j) :
  ∀(f:Nat) (listed:Array Bool) (E:EE),HeadInv md ops n listed→(∀i∈pre,listed.getD i true=true) →
   (∀j oj,ops[j]?=some oj→j≠i→listed.getD j true=false→(∀e∈oj.after,Region.binds md e=true→e.on≠i)→oi.apart ops oj=true) →
   i∈Region.ready md ops listed→YF P C ops σ rs i oi v E →
   H6 P C md ops σ rs n L f (listed.setIfInBounds i true) (Vx E oi.dst v)→H6 P C md ops σ rs n L (f+1) listed E:=by
 intro f
 induction f with
 |zero=>
  intro listed E inv hp _ hr hy H
  have hun:=(mem_ready.1 hr).1
  refine⟨fun h=>(by rw[h]at hr;cases hr),fun j hj=>?_⟩
  have hjn:j<n:=by
   rcases Nat.lt_or_ge j n with h|h
   ·exact h
   ·exact absurd hj (Es hs hc hn inv hp _ i rfl hin hun j h)
  refine⟨hjn,?_⟩
  by_cases hji:j=i
  ·subst hji;exact⟨oi,v,hi,hy,H⟩
  ·have:=hdone _ _ H j (ready_mono hj hji)
   omega
 |succ f ih=>
  intro listed E inv hp hfree hr hy H
  have hun:=(mem_ready.1 hr).1
  refine⟨fun h=>(by rw[h]at hr;cases hr),fun j hj=>?_⟩
  have hjn:j<n:=by
   rcases Nat.lt_or_ge j n with h|h
   ·exact h
   ·exact absurd hj (Es hs hc hn inv hp _ i rfl hin hun j h)
  refine⟨hjn,?_⟩
  by_cases hji:j=i
  ·subst hji;exact⟨oi,v,hi,hy,H⟩
  ·have h1:=(H.2 j (ready_mono hj hji)).2
   obtain⟨hjun,oj,hoj,hall⟩:=mem_ready.1 hj
   have hnot:∀e∈oj.after,Region.binds md e=true→e.on≠i:=fun e he hb heq=>by
    have h1:=hall e he hb
    rw[heq,getD_both hun]at h1
    cases h1
   have h2:=Ht hoj (hfree j oj hoj hji hjun hnot) hy h1
   have hfree':∀k ok,ops[k]?=some ok→k≠i→(listed.setIfInBounds j true).getD k true=false →
     (∀e∈ok.after,Region.binds md e=true→e.on≠i)→oi.apart ops ok=true:=fun k ok hk hki hun hno=>by
    refine hfree k ok hk hki ?_ hno
    by_cases hjk:j=k
    ·subst hjk;exact hjun
    ·rw[getD_set_ne true hjk]at hun;exact hun
   refine Bf (fun a' h3=>ih (listed.setIfInBounds j true) a' (inv.set hj hjn) (fun i hi=>Na (hp i hi)) hfree' (ready_mono hr (Ne.symm hji)) h3.1 ?_) h2
   rw[Array.setIfInBounds_comm _ _ hji]
   exact h3.2
def R8(P:Program)(C:Ctx)(ops:Array Oper)(σ:List Ob)(rs:Res)(Q:EE→Prop):List (Nat×Oper)→EE→Prop
 | [],E=>Q E
 |(i,o)::rest,E=>∃v,YF P C ops σ rs i o v E∧R8 P C ops σ rs Q rest (Vx E o.dst v)
def Jd(md:Region.Mode)(ops:Array Oper)(g n:Nat):List Nat→Array Bool→Bool
 | [],listed=>Region.seqB md ops g n listed&&(List.range n).all fun j=>listed.getD j false
 |k::is,listed=>(Region.ready md ops listed).contains k&&Region.free md ops listed k&&decide (k<n)&&Jd md ops g n is (listed.setIfInBounds k true)
theorem B0{n g:Nat}{pre:List Nat}{Lq:EE→Prop}(hs:sinkP md ops pre n=true)(hc:Region.chainB md ops n=true)(hn:n<ops.size) :
  ∀(l:List (Nat×Oper)) (listed:Array Bool) (E:EE),(∀p∈l,ops[p.1]?=some p.2)→HeadInv md ops n listed→(∀i∈pre,listed.getD i true=true) →
  Jd md ops g n (l.map (·.1)) listed=true→R8 P C ops σ rs Lq l E →
  H6 P C md ops σ rs n (fun listed' E'=>Region.seqB md ops g n listed'=true∧(∀j,j<n→listed'.getD j false=true)∧Lq E') l.length listed E
 | [],listed,E,_,_,_,hB,h=>by
  simp only[List.map_nil,Jd,Bool.and_eq_true]at hB
  exact⟨hB.1,fun j hj=>List.all_eq_true.1 hB.2 j (List.mem_range.2 hj),h⟩
 |(k,o)::l,listed,E,hl,inv,hp,hB,h=>by
  have h0:ops[k]?=some o:=hl (k,o) (by simp)
  simp only[List.map_cons,Jd,Bool.and_eq_true,decide_eq_true_eq]at hB
  obtain⟨⟨⟨hr,hf⟩,hkn⟩,hB'⟩:=hB
  have hr':k∈Region.ready md ops listed:=by simpa using hr
  obtain⟨v,hy,hK⟩:=h
  exact H5 h0 hs hc hn hkn (fun listed' E' hL=>seqB_ready hL.1) l.length listed E inv hp (Region.free_spec h0 hf) hr' hy
   (B0 hs hc hn l _ _ (fun p hp=>hl p (by simp[hp])) (inv.set hr' hkn) (fun i hi=>Na (hp i hi)) hB' hK)
end
structure SimR (C:Ctx) (σ:List Ob) (rs:Res) (listed:Array Bool) (E:EE) (a:Act) (w:World):Prop where
 defers:a.defers=[]
 size:a.tmps.size=C.n
 mem:∃φ,Good C ⟨w,φ,σ++res rs listed,C.ok⟩∧(∀p r,rs[p]?=some r→listed.getD r.1 false=false→φ (σ.length+p)=none)∧∀t,AV.rel ⟨w,φ,σ++res rs listed,C.ok⟩ (E t) (a.tmps.getD t undef)
theorem Lc{rs:Res}{listed:Array Bool}{i:Nat}(h:∀r∈rs,r.1≠i):res rs (listed.setIfInBounds i true)=res rs listed:=by
 unfold res
 refine List.map_congr_left fun r hr=>?_
 unfold Il
 rw[getD_set_ne false (Ne.symm (h r hr))]
theorem res_set{rs:Res}{listed:Array Bool}{i p:Nat}{e:TypeId}{zs:List Value}(hnd:(rs.map (·.1)).Nodup)(hp:rs[p]?=some (i,e,zs))(hi:i<listed.size) :
  res rs (listed.setIfInBounds i true)=(res rs listed).set p ⟨e,0,zs.map fun v=>.ro (.c v)⟩:=by
 apply List.ext_getElem?
 intro j
 rw[List.getElem?_set]
 unfold res
 rw[List.getElem?_map]
 by_cases e:p=j
 ·subst e
  have hlt:p<rs.length:=(Za5.1 hp).1
  rw[hp]
  simp[Il,hlt,hi]
 ·rw[if_neg e,List.getElem?_map]
  cases hj:rs[j]? with
  |none=>rfl
  |some r=>
   simp only[Option.map_some,Option.some.injEq]
   have hne:r.1≠i:=by
    intro he
    have h1:(rs.map (·.1))[p]?=some i:=by simp[hp]
    have h2:(rs.map (·.1))[j]?=some i:=by simp[hj,he]
    have hpl:=(Za5.1 h1).1
    exact e ((List.getElem?_inj hpl hnd).1 (h1.trans h2.symm))
   unfold Il
   rw[getD_set_ne false (Ne.symm hne)]
section
variable{P:Program}{C:Ctx}{ops:Array Oper}{σ:List Ob}{md:Region.Mode}{rs:Res}{listed:Array Bool}{E:EE}{a:Act}{w:World}
theorem Jx{m:Mem}{a:Act}{E:EE}(hE:∀t,AV.rel m (E t) (a.tmps.getD t undef))(x:Operand):AV.rel m (evE E x) (a.eval x):=by
 have:=Xy (env:=[]) (m:=m) (a:=a) (fun t=>by simp[look,AV.rel]) x
 cases x with
 |tmp t=>exact hE t
 |const c=>cases c<;>simpa [ev,evE] using this
 |func f=>simpa [ev,evE] using this
 |global g=>simp[evE,AV.rel]
theorem SimR.op{Q:Exit→Act→World→Prop}{i:Nat}{o:Oper}{v:AV}{K:Act→World→Prop}(hnd:(rs.map (·.1)).Nodup)(hs:SimR C σ rs listed E a w)(hi:listed.getD i true=false)(ho:ops[i]?=some o)(hd:∀t,o.dst=some t→t<C.n)
  (hy:YF P C ops σ rs i o v E) (hK:∀a' w',SimR C σ rs (listed.setIfInBounds i true) (Vx E o.dst v) a' w'→K a' w'):wpOp P ops Q i K a w:=by
 obtain⟨s1,s2,φ,hG,hφ,hE⟩:=hs
 obtain⟨dst,op,ty,pos,after,g⟩:=o
 have putR:∀{φ':Nat→Option Nat} {σ':List Ob} {w':World} {u:Value},(∀t,AV.rel ⟨w',φ',σ',C.ok⟩ (E t) (a.tmps.getD t undef))→AV.rel ⟨w',φ',σ',C.ok⟩ v u→∀t,AV.rel ⟨w',φ',σ',C.ok⟩ (Vx E dst v t) ((a.put dst u).tmps.getD t undef):=by
  intro φ' σ' w' u h1 h2 t
  cases dst with
  |none=>exact h1 t
  |some s=>
   rw[Wb a s t u (by rw[s2];exact hd s rfl)]
   simp only[Vx]
   split
   ·exact h2
   ·exact h1 t
 have szR:∀u,(a.put dst u).tmps.size=C.n:=fun u=>by cases dst<;>simp[Act.put,s2]
 have dfR:∀u,(a.put dst u).defers=[]:=fun u=>by cases dst<;>exact s1
 unfold wpOp
 simp only[ho]
 rcases hy with⟨h0,⟨hg,hv⟩|⟨hg,rfl⟩⟩|⟨p,e,zs,hp,hop,hgd,hds,hz,rfl⟩
 ·rw[if_pos (Eh hg a _ hE)]
  refine .inl (hv (res rs listed) a ⟨w,φ,σ++res rs listed,C.ok⟩ hG rfl (fun x _=>Jx hE x) _ _ fun u w' hb hu=>hK _ _ ?_)
  obtain⟨g1,g2⟩:=Y8 hG hb
  refine⟨dfR u,szR u,φ,?_,fun p r hp hl=>hφ p r hp ?_,?_⟩
  ·rw[Lc h0];exact g1
  ·rwa [getD_set_ne false (Ne.symm (h0 r (Zba hp)))]at hl
  ·rw[Lc h0];exact putR (fun t=>AV.rel_keeps g2 _ _ (AV.only_true _) (hE t)) hu
 ·rw[He hg a _ hE,if_neg (by simp)]
  refine hK _ _ ⟨dfR _,szR _,φ,?_,fun p r hp hl=>hφ p r hp ?_,?_⟩
  ·rw[Lc h0];exact hG
  ·rwa [getD_set_ne false (Ne.symm (h0 r (Zba hp)))]at hl
  ·rw[Lc h0];exact putR hE (by simp[AV.rel,RV.rel])
 ·simp only at hop hgd hds
  subst hop;subst hgd
  have his:i<listed.size:=by
   rcases Nat.lt_or_ge i listed.size with h|h
   ·exact h
   ·simp[Array.getElem?_eq_none h]at hi
  have hlf:listed.getD i false=false:=getD_both hi
  rw[if_pos (by simp[Region.wanted])]
  refine .inl ?_
  obtain⟨inf,z,h1,h2,h3,h4⟩:=hz.h
  unfold Oper.wp
  have hrun:(execOp a.eval ⟨dst,.alloc e,ty,pos,after,none⟩).run P w = .ok (.value (.pointer (some ⟨w.heap.size,0,none⟩))) (w.alloc (.cells zs.toArray e)):=by
   simp[execOp,Instr.alloc,zeroValue,typeInfo,h1,h2,newVar,newRow,newObj,h3];rfl
  rw[hrun]
  simp only[Oper.upon]
  have hpl:p<rs.length:=(Za5.1 hp).1
  have hlf':¬listed.getD i false=true:=by rw[hlf];simp
  have hq:(σ++res rs listed)[σ.length+p]?=some ⟨e,0,[]⟩:=by
   rw[Zbd (by omega),show σ.length+p-σ.length=p by omega]
   unfold res
   rw[List.getElem?_map,hp]
   simp only[Option.map_some,Il]
   rw[if_neg hlf']
  have hφq:=hφ p _ hp hlf
  refine hK _ _ ⟨dfR _,szR _,upd φ (σ.length+p) (some w.heap.size),?_,fun p' r hp' hl=>?_,?_⟩
  ·have:=good_fill hG hq hφq zs h4
   rwa [List.set_append_right _ _ (by omega),show σ.length+p-σ.length=p by omega,←res_set hnd hp his]at this
  ·by_cases hpp:p'=p
   ·subst hpp
    rw[hp]at hp';injection hp' with hp';subst hp'
    simp[his]at hl
   ·have hri:r.1≠i:=fun he=>by rw[he]at hl;simp[his]at hl
    rw[getD_set_ne false (Ne.symm hri)]at hl
    rw[Xd (by omega)]
    exact hφ p' r hp' hl
  ·have hall:∀t,AV.rel ⟨w.alloc (.cells zs.toArray e),upd φ (σ.length+p) (some w.heap.size),(σ++res rs listed).set (σ.length+p) ⟨e,0,zs.map fun v=>.ro (.c v)⟩,C.ok⟩ (E t) (a.tmps.getD t undef):=fun t=>Gt hq hφq _ _ (hE t)
   rw[List.set_append_right _ _ (by omega),show σ.length+p-σ.length=p by omega,←res_set hnd hp his]at hall
   refine putR hall ?_
   simp only[AV.rel]
   exact⟨by simp[res];omega,w.heap.size,Xg,rfl⟩
theorem By{n g:Nat}{L:Array Bool→EE→Prop}{Q':Exit→Act→World→Prop}(hnd:(rs.map (·.1)).Nodup)(hd:∀(i:Nat) o t,ops[i]?=some o→o.dst=some t→t<C.n)
  (hL:∀listed E a w,L listed E→SimR C σ rs listed E a w→wpAny P md ops Q' g listed a w) :
  ∀(f:Nat) (listed:Array Bool) (E:EE) (a:Act) (w:World),SimR C σ rs listed E a w→H6 P C md ops σ rs n L f listed E→wpAny P md ops Q' (f+g) listed a w
 |0,listed,E,a,w,hs,h=>by rw[Nat.zero_add];exact hL _ _ _ _ h hs
 |f+1,listed,E,a,w,hs,h=>by
  rw[show f+1+g=(f+g)+1 by omega]
  refine⟨fun h0=>absurd h0 h.1,fun i hi=>?_⟩
  obtain⟨o,v,ho,hy,hK⟩:=(h.2 i hi).2
  exact SimR.op hnd hs (mem_ready.1 hi).1 ho (fun t ht=>hd i o t ho ht) hy fun a' w' hs'=>By hnd hd hL f _ _ a' w' hs' hK
end
section
variable{P:Program}{md:Region.Mode}{ops:Array Oper}{Q':Exit→Act→World→Prop}
def Dv(o:Oper):Bool:=match o with
 |⟨some _,.move _,_,_,_,none⟩=>true
 |_=>false
def Wg(o:Oper)(a:Act):Value:=match o.op with
 | .move x=>a.eval x
 |_=>undef
theorem run_move{o:Oper}(h:Dv o=true)(a:Act)(w:World):Region.wanted o (yielded ops a.tmps)=true∧(execOp a.eval o).run P w = .ok (.value (Wg o a)) w:=by
 obtain⟨dst,op,ty,pos,after,g⟩:=o
 unfold Dv at h
 split at h
 ·rename_i he;injection he with e1 e2 e3 e4 e5 e6;subst e1;subst e2;subst e6
  exact⟨by simp[Region.wanted],by simp[execOp,Wg]⟩
 ·cases h
theorem Dh{oi oj:Oper}(hm:Dv oi=true)(a:Act)(u:Value)(h3:∀d,oj.dst=some d→d∉oi.looksAt ops):Wg oi (a.put oj.dst u)=Wg oi a:=by
 obtain⟨dst,op,ty,pos,after,g⟩:=oi
 unfold Dv at hm
 split at hm
 ·rename_i x _ _ _ he;injection he with e1 e2 e3 e4 e5 e6;subst e1;subst e2;subst e6
  simp only[Wg]
  refine Act.eval_put fun d hd hxd=>h3 d hd ?_
  subst hxd
  exact List.mem_append_left _ (List.mem_filterMap.2 ⟨.tmp d,by simp[Op.operands],rfl⟩)
 ·cases hm
theorem wpOp_move{F:Act→World→Prop}{j:Nat}{oi oj:Oper}(hj:ops[j]?=some oj)(hm:Dv oi=true)(hap:oi.apart ops oj=true)(hsj:∀cs b,oj.op ≠ .select cs b){K K':Act→World→Prop}{a:Act}{w:World}
  (h:wpOp P ops (nrm F) j K' (a.put oi.dst (Wg oi a)) w) (hK:∀a' w',Wg oi a'=Wg oi a→K' (a'.put oi.dst (Wg oi a)) w'→K a' w'):wpOp P ops (nrm F) j K a w:=by
 obtain⟨h1,h2,h3⟩:=Oper.apart_spec hap
 unfold wpOp at *
 simp only[hj]at *
 rw[wanted_put oj a oi.dst _ h1]at h
 have key:∀u w',K' ((a.put oi.dst (Wg oi a)).put oj.dst u) w'→K (a.put oj.dst u) w':=fun u w' hk=>hK _ _ (Dh hm a u h3) (by rwa [←Act.put_comm a (Wg oi a) u h2])
 split
 ·rename_i hw
  simp only[hw,if_true]at h
  refine h.imp (fun h=>?_) (fun h=>⟨?_,h.2⟩)
  ·unfold Oper.wp at *
   rw[execOp_put oj hsj a oi.dst _ h1]at h
   generalize (execOp a.eval oj).run P w=r at *
   cases r with
   |ok n w'=>
    cases n with
    |value u=>exact key u w' h
    |skip=>exact key undef w' h
    |enter f args=>exact Calls.mono h (fun e w'' he=>by cases e<;>first|exact key _ w'' he|exact he|exact he.elim)
    |row r args=>exact Rows.mono h fun v w'' he=>key v w'' he
    |defer d=>
     simp only[Oper.upon]at h ⊢
     have e:({a.put oi.dst (Wg oi a) with defers:=d::(a.put oi.dst (Wg oi a)).defers}:Act).put oj.dst undef=(({a with defers:=d::a.defers}:Act).put oj.dst undef).put oi.dst (Wg oi a):=by
      have:=Act.put_comm ({a with defers:=d::a.defers}:Act) (Wg oi a) undef h2
      rw[←this]
      cases oi.dst<;>rfl
     rw[e]at h
     refine hK _ _ ?_ h
     have:=Dh (ops:=ops) (oj:=oj) hm ({a with defers:=d::a.defers}:Act) undef h3
     rw[this]
     cases hop:oi.op<;>simp[Wg,hop]
     rfl
    |_=>exact h
   |halt x w'=>cases x<;>exact h
  ·have:=h.1
   unfold Oper.asks at this ⊢
   rwa [execOp_put oj hsj a oi.dst _ h1]at this
 ·rename_i hw
  simp only[hw]at h
  exact key undef w h
theorem Fu{F:Act→World→Prop}{i:Nat}{oi:Oper}(hi:ops[i]?=some oi)(hm:Dv oi=true)(hsel:∀(j:Nat) (o:Oper) cs b,ops[j]?=some o→o.op ≠ .select cs b) :
  ∀(fuel:Nat) (listed:Array Bool) (a:Act) (w:World),
   (∀j oj,ops[j]?=some oj→j≠i→listed.getD j true=false→(∀e∈oj.after,Region.binds md e=true→e.on≠i)→oi.apart ops oj=true) →
   i∈Region.ready md ops listed →
   wpAny P md ops (nrm F) fuel (listed.setIfInBounds i true) (a.put oi.dst (Wg oi a)) w→wpAny P md ops (nrm F) (fuel+1) listed a w:=by
 have own:∀{K:Act→World→Prop} {a:Act} {w:World},K (a.put oi.dst (Wg oi a)) w→wpOp P ops (nrm F) i K a w:=by
  intro K a w h
  obtain⟨e1,e2⟩:=run_move (P:=P) (ops:=ops) hm a w
  unfold wpOp
  simp only[hi]
  rw[if_pos e1]
  refine .inl ?_
  unfold Oper.wp
  rw[e2]
  exact h
 intro fuel
 induction fuel with
 |zero=>
  intro listed a w _ hr H
  refine⟨fun h=>(by rw[h]at hr;cases hr),fun j hj=>?_⟩
  by_cases hji:j=i
  ·subst hji;exact own H
  ·have:=ready_mono hj hji
   rw[H.1]at this
   cases this
 |succ fuel ih=>
  intro listed a w hfree hr H
  refine⟨fun h=>(by rw[h]at hr;cases hr),fun j hj=>?_⟩
  by_cases hji:j=i
  ·subst hji;exact own H
  ·have h1:=H.2 j (ready_mono hj hji)
   obtain⟨hjun,oj,hoj,hall⟩:=mem_ready.1 hj
   have hnot:∀e∈oj.after,Region.binds md e=true→e.on≠i:=fun e he hb heq=>by
    have h1:=hall e he hb
    have h0:=(mem_ready.1 hr).1
    rw[heq,getD_both h0]at h1
    cases h1
   have hfree':∀k ok,ops[k]?=some ok→k≠i→(listed.setIfInBounds j true).getD k true=false →
     (∀e∈ok.after,Region.binds md e=true→e.on≠i)→oi.apart ops ok=true:=fun k ok hk hki hun hno=>by
    refine hfree k ok hk hki ?_ hno
    by_cases hjk:j=k
    ·subst hjk;exact hjun
    ·rw[getD_set_ne true hjk]at hun;exact hun
   refine wpOp_move hoj hm (hfree j oj hoj hji hjun hnot) (fun cs b=>hsel j oj cs b hoj) h1 fun a' w' he h3=>ih (listed.setIfInBounds j true) a' w' hfree' (ready_mono hr (Ne.symm hji)) ?_
   rw[he,Array.setIfInBounds_comm _ _ hji]
   exact h3
end
def pick(l:List Oper):List Nat→List (Nat×Oper)
 | []=>[]
 |i::is=>match l[i]? with
  |some o=>(i,o)::pick l is
  |none=>pick l is
theorem Q1{l:List Oper}:∀{is:List Nat} {p:Nat×Oper},p∈pick l is→l[p.1]?=some p.2
 | [],p,h=>by simp[pick]at h
 |i::is,p,h=>by
  unfold pick at h
  split at h
  ·rename_i o ho
   rcases List.mem_cons.1 h with rfl|h
   ·exact ho
   ·exact Q1 h
  ·exact Q1 h
def mvE(E:EE)(o:Oper):AV:=match o.op with
 | .move x=>evE E x
 |_=>.junk
def preE:EE→List (Nat×Oper)→EE
 |E,[]=>E
 |E,(_,o)::l=>preE (Vx E o.dst (mvE E o)) l
inductive Moved:Env→List (Nat×Oper)→Env→Prop
 |nil {env:Env}:Moved env [] env
 |cons {env env':Env} {l:List (Nat×Oper)} {i t:Nat} {x:Operand} {v:AV} {ty:TypeId} {pos:String} {after:Array Edge} {g:Option (Nat×Bool)}:ev env x=v→Moved ((t,v)::env) l env'→Moved env ((i,⟨some t,.move x,ty,pos,after,g⟩)::l) env'
theorem Moved.eq{env env':Env}{l:List (Nat×Oper)}(h:Moved env l env'):preE (look env) l=look env':=by
 induction h with
 |nil=>rfl
 |cons hx _ ih=>
  rw[←ih]
  simp only[preE,mvE,←ev_evE,hx,←Vo]
def Tn(md:Region.Mode)(ops:Array Oper)(n:Nat):List (Nat×Oper)→Array Bool→Option (Array Bool)
 | [],listed=>some listed
 |(k,o)::is,listed=>if(Region.ready md ops listed).contains k&&Region.free md ops listed k&&decide (k<n)&&Dv o then Tn md ops n is (listed.setIfInBounds k true) else none
def drawTB(l:List Oper)(pre head:List Nat)(n:Nat):Bool:=
 Region.noSelect l.toArray&&decide (n<l.length)&&sinkP .any l.toArray pre n&&Region.chainB .any l.toArray n&&decide ((pick l pre).length+(pick l head).length=n)&&decide ((pick l pre).map (·.1)=pre) &&
 match Tn .any l.toArray n (pick l pre) (Array.replicate l.length false) with
 |some listed=>pre.all (fun i=>listed.getD i true)&&Jd .any l.toArray (l.length-n) n ((pick l head).map (·.1)) listed
 |none=>false
section
variable{P:Program}{C:Ctx}{k:List Item}{R:Act→World→Prop}{env:Env}{σ:List Ob}
theorem H4{F:Act→World→Prop}{ops:Array Oper}{n:Nat}(hsel:Region.noSelect ops=true)(hd:∀(i:Nat) o t,ops[i]?=some o→o.dst=some t→t<C.n){w:World}{φ:Nat→Option Nat}(hG:Good C ⟨w,φ,σ,C.ok⟩) :
  ∀(pre:List (Nat×Oper)) (listed listed':Array Bool) (E:EE) (a:Act) (f:Nat),(∀p∈pre,ops[p.1]?=some p.2)→Tn .any ops n pre listed=some listed'→HeadInv .any ops n listed →
  a.defers=[]→a.tmps.size=C.n→(∀t,AV.rel ⟨w,φ,σ,C.ok⟩ (E t) (a.tmps.getD t undef)) →
  (HeadInv .any ops n listed'→∀a',a'.defers=[]→a'.tmps.size=C.n→(∀t,AV.rel ⟨w,φ,σ,C.ok⟩ (preE E pre t) (a'.tmps.getD t undef))→wpAny P .any ops (nrm F) f listed' a' w) →
  wpAny P .any ops (nrm F) (pre.length+f) listed a w
 | [],listed,listed',E,a,f,_,hp,inv,s1,s2,hE,h=>by
  simp only[Tn,Option.some.injEq]at hp;subst hp
  rw[Za9,Nat.zero_add]
  exact h inv a s1 s2 hE
 |(i,o)::pre,listed,listed',E,a,f,hl,hp,inv,s1,s2,hE,h=>by
  unfold Tn at hp
  split at hp
  ·rename_i hc
   simp only[Bool.and_eq_true,decide_eq_true_eq]at hc
   obtain⟨⟨⟨hr,hf⟩,hin⟩,hm⟩:=hc
   have h0:ops[i]?=some o:=hl (i,o) (by simp)
   have hr':i∈Region.ready .any ops listed:=by simpa using hr
   rw[show((i,o)::pre).length+f=(pre.length+f)+1 by simp;omega]
   refine Fu h0 hm (Region.noSelect_spec hsel) _ listed a w (Region.free_spec h0 hf) hr' ?_
   have hmv:AV.rel ⟨w,φ,σ,C.ok⟩ (mvE E o) (Wg o a):=by
    unfold mvE Wg
    cases o.op<;>simp only<;>first|exact Jx hE _|simp[AV.rel]
   refine H4 hsel hd hG pre _ listed' (Vx E o.dst (mvE E o)) _ f (fun p hp=>hl p (by simp[hp])) hp (inv.set hr' hin) ?_ ?_ ?_ h
   ·cases o.dst<;>exact s1
   ·cases o.dst<;>simp[Act.put,s2]
   ·intro t
    cases hdst:o.dst with
    |none=>exact hE t
    |some s=>
     rw[Wb a s t _ (by rw[s2];exact hd i o s h0 hdst)]
     simp only[Vx]
     split
     ·exact hmv
     ·exact hE t
  ·cases hp
structure RunsT (P:Program) (C:Ctx) (ops:Array Oper) (rs:Res) (tail:List Oper) (l:List (Nat×Oper)) (k:List Item) (R:Act→World→Prop) (S:St):Prop where
 run:R8 P C ops S.σ rs (fun E=>∃env',E=look env'∧RunsL P C ops tail k R ⟨env',S.σ++full rs⟩) l (look S.env)
theorem Sf{rs:Res}{m:Nat}:∀(j:Nat) o,(res rs (Array.replicate m false))[j]?=some o→o.cs=[]:=by
 intro j o h
 unfold res at h
 rw[List.getElem?_map,Option.map_eq_some_iff]at h
 obtain⟨r,_,rfl⟩:=h
 unfold Il
 rw[getD_replicate_false]
 rfl
theorem Sg{rs:Res}{listed:Array Bool}(h:∀r∈rs,listed.getD r.1 false=true):res rs listed=full rs:=by
 unfold res full
 refine List.map_congr_left fun r hr=>?_
 unfold Il
 rw[if_pos (h r hr)]
theorem res_blank{rs:Res}{l l':Array Bool}(h:∀r∈rs,l.getD r.1 false=l'.getD r.1 false):res rs l=res rs l':=by
 unfold res
 refine List.map_congr_left fun r hr=>?_
 unfold Il
 rw[h r hr]
theorem Am{ops:Array Oper}{n:Nat}{i:Nat}:∀(pre:List (Nat×Oper)) (listed listed':Array Bool),Tn .any ops n pre listed=some listed'→(∀p∈pre,p.1≠i)→listed'.getD i false=listed.getD i false
 | [],listed,listed',h,_=>by simp only[Tn,Option.some.injEq]at h;rw[h]
 |(k,o)::pre,listed,listed',h,hp=>by
  unfold Tn at h
  split at h
  ·rw[Am pre _ listed' h fun p hq=>hp p (by simp[hq]),getD_set_ne false (hp (k,o) (by simp))]
  ·cases h
theorem Za1{id:Nat}{l:List Oper}{cn:Nat}{env':Env}(pre head:List Nat)(n:Nat)(rs:Res)(hf:P.follows .mixedOrders=true)(hn:C.n=cn)(hB:drawTB l pre head n=true)(hd:Th cn l=true)
  (hpre:Moved env (pick l pre) env') (hnd:(rs.map (·.1)).Nodup) (hrs:∀r∈rs,r.1<n) (hrp:∀r∈rs,∀p∈pre,p≠r.1)
  (h:RunsT P C l.toArray rs (l.drop n) (pick l head) k R ⟨env',σ⟩):Runs P C (.code (.region id l.toArray true)::k) R ⟨env,σ⟩:=by
 refine⟨fun a w hs=>Vv (wp_region_any hf ?_)⟩
 unfold drawTB at hB
 simp only[Bool.and_eq_true,decide_eq_true_eq]at hB
 obtain⟨⟨⟨⟨⟨⟨hsel,hnl⟩,hsk⟩,hch⟩,hlen⟩,hpm⟩,hx⟩:=hB
 split at hx
 ·rename_i listed hli
  simp only[Bool.and_eq_true]at hx
  obtain⟨hpa,hlex⟩:=hx
  obtain⟨s1,s2,φ,hG,hE⟩:=hs
  have hb:Below w.heap.size w {w with drawn:=w.drawn+1}:=⟨rfl,rfl,rfl,Nat.le_refl _,fun _ _=>rfl⟩
  obtain⟨g1,g2⟩:=Y8 hG hb
  -- the places that are kept for what is allocated
  let φ0:Nat→Option Nat:=fun i=>if i<σ.length then φ i else none
  have hφ0:∀j,φ0 (σ.length+j)=none:=fun j=>if_neg (by omega)
  obtain⟨G1,G2⟩:=Um (φ':=φ0) (new:=res rs (Array.replicate l.length false)) g1 (Below.refl _ _) (fun i hi=>if_pos hi) (fun j hj g hg=>by rw[hφ0]at hg;cases hg) (fun i j g hi hj e1 e2=>by rw[hφ0]at e1;cases e1) (fun j o hj=>by rw[hφ0];exact Sf j o hj)
  have hE1:∀t,AV.rel ⟨{w with drawn:=w.drawn+1},φ0,σ++res rs (Array.replicate l.length false),C.ok⟩ (look env t) (a.tmps.getD t undef):=fun t=>AV.rel_keeps G2 _ _ (AV.only_true _) (AV.rel_keeps g2 _ _ (AV.only_true _) (hE t))
  have hdd:∀(i:Nat) o t,l.toArray[i]?=some o→o.dst=some t→t<C.n:=fun i o t hi ht=>by rw[hn];exact Ng hd i o t (by simpa using hi) ht
  have inv0:HeadInv .any l.toArray n (Array.replicate l.length false):=
   ⟨by simp,fun j oj _ hl=>(by rw[getD_replicate_false]at hl;cases hl),fun t _ ht=>getD_in (by simpa using ht) (getD_replicate_false _ _)⟩
  have hmemP:∀p∈pick l pre,l.toArray[p.1]?=some p.2:=fun p hp=>by simpa using Q1 hp
  have hmemH:∀p∈pick l head,l.toArray[p.1]?=some p.2:=fun p hp=>by simpa using Q1 hp
  have hsz:l.toArray.size=(pick l pre).length+((pick l head).length+(l.length-n)):=by simp;omega
  refine(show ∀m,m=l.toArray.size→wpAny P .any l.toArray (nrm (Fin P k R)) m (Array.replicate l.toArray.size false) a {w with drawn:=w.drawn+1} from ?_) _ rfl
  intro m hm
  obtain rfl:=hm.trans hsz
  refine H4 (σ:=σ++res rs (Array.replicate l.length false)) hsel hdd G1 (pick l pre) (Array.replicate l.toArray.size false) listed (look env) a _ hmemP (by simpa using hli) (by simpa using inv0) s1 s2 hE1 fun inv a' t1 t2 hE'=>?_
  have hE2:preE (look env) (pick l pre)=look env':=hpre.eq
  rw[hE2]at hE'
  have hprel:∀i∈pre,listed.getD i true=true:=fun i hi=>List.all_eq_true.1 hpa i hi
  have hoff:∀r∈rs,listed.getD r.1 false=(Array.replicate l.length false).getD r.1 false:=fun r hr=>Am _ _ _ hli fun p hp=>by
   refine hrp r hr p.1 ?_
   rw[←hpm];exact List.mem_map_of_mem hp
  have hres:res rs (Array.replicate l.length false)=res rs listed:=res_blank fun r hr=>(hoff r hr).symm
  rw[hres]at hE' G1
  have H:=B0 (P:=P) (C:=C) (σ:=σ) (md:=.any) (ops:=l.toArray) (g:=l.length-n) hsk hch (by simpa using hnl) (pick l head) listed (look env') hmemH inv hprel hlex h.run
  refine By hnd hdd (fun listed' E' a'' w'' hL hS=>?_) _ listed (look env') a' _ ⟨t1,t2,φ0,G1,fun p r _ _=>hφ0 p,hE'⟩ H
  obtain⟨hsq,hall,env'',rfl,hR⟩:=hL
  have hfl:=Sg (rs:=rs) (listed:=listed') fun r hr=>hall r.1 (hrs r hr)
  obtain⟨u1,u2,φ',G',_,hE''⟩:=hS
  rw[hfl]at G' hE''
  have:=wpAny_of_seq (md:=.any) (Q':=nrm (Fin P k R)) (l.drop n) n listed' a'' w'' (fun j=>by simp[List.getElem?_drop]) (by rw[List.length_drop];exact hsq) (hR.run a'' w'' ⟨u1,u2,φ',G',hE''⟩)
  rwa [List.length_drop]at this
 ·cases hx
variable{ops:Array Oper}{rs:Res}{tail:List Oper}{rest:List (Nat×Oper)}{i t:Nat}{o:Oper}
theorem Y3{id:Nat}{l:List Oper}{k':List Item}{cn:Nat}{env':Env}(m:Nat)(pre head:List Nat)(n:Nat)(rs:Res)(hf:P.follows .mixedOrders=true)(hn:C.n=cn)(hc:Proofs.YtnecoghfhcimeaaGreat.ctls m k = .code (.region id l.toArray true)::k')(hB:drawTB l pre head n=true)(hd:Th cn l=true)
  (hpre:Moved env (pick l pre) env') (hnd:(rs.map (·.1)).Nodup) (hrs:∀r∈rs,r.1<n) (hrp:∀r∈rs,∀p∈pre,p≠r.1)
  (h:RunsT P C l.toArray rs (l.drop n) (pick l head) k' R ⟨env',σ⟩):Runs P C k R ⟨env,σ⟩:=Zbf m hc (Za1 pre head n rs hf hn hB hd hpre hnd hrs hrp h)
theorem RunsT.nil(h:RunsL P C ops tail k R ⟨env,σ++full rs⟩):RunsT P C ops rs tail [] k R ⟨env,σ⟩:=⟨⟨env,rfl,h⟩⟩
theorem RunsT.pur{v:AV}(h:∀more,Pur P C o env (σ++more) v)(hi:∀r∈rs,r.1≠i)(hg:gsay ops env o.guard=some true)(hd:o.dst=some t)(hk:RunsT P C ops rs tail rest k R ⟨(t,v)::env,σ⟩):RunsT P C ops rs tail ((i,o)::rest) k R ⟨env,σ⟩:=by
 refine⟨v,.inl ⟨hi,.inl ⟨hg,fun more=>(h more).toF⟩⟩,?_⟩
 rw[hd,show(⟨env,σ⟩:St).env=env from rfl,←Vo]
 exact hk.run
theorem RunsT.alloc{p:Nat}{e:TypeId}{zs:List Value}{ty:TypeId}{pos:String}{after:Array Edge}(hr:rs[p]?=some (i,e,zs))(hz:TZ P e zs)(hk:RunsT P C ops rs tail rest k R ⟨(t,.obj (σ.length+p) 0)::env,σ⟩) :
  RunsT P C ops rs tail ((i,⟨some t,.alloc e,ty,pos,after,none⟩)::rest) k R ⟨env,σ⟩:=by
 refine⟨.obj (σ.length+p) 0,.inr ⟨p,e,zs,hr,rfl,rfl,rfl,hz,rfl⟩,?_⟩
 rw[show(⟨env,σ⟩:St).env=env from rfl,←Vo]
 exact hk.run
theorem RunsT.off(hi:∀r∈rs,r.1≠i)(hg:gsay ops env o.guard=some false)(hd:o.dst=some t)(hk:RunsT P C ops rs tail rest k R ⟨(t,.ro (.c undef))::env,σ⟩):RunsT P C ops rs tail ((i,o)::rest) k R ⟨env,σ⟩:=by
 refine⟨.ro (.c undef),.inl ⟨hi,.inr ⟨hg,rfl⟩⟩,?_⟩
 rw[hd,show(⟨env,σ⟩:St).env=env from rfl,←Vo]
 exact hk.run
theorem RunsT.step{T:Tab}(hT:TabOk P T){v:AV}(hd:o.dst=some t)(hg:gsay ops env o.guard=some true)(h:∀more,aop T env (σ++more) o.op=some v)(hi:∀r∈rs,r.1≠i)(hk:RunsT P C ops rs tail rest k R ⟨(t,v)::env,σ⟩):RunsT P C ops rs tail ((i,o)::rest) k R ⟨env,σ⟩:=by
 obtain⟨dst,op,ty,pos,after,g⟩:=o
 simp only at hd;subst hd
 exact RunsT.pur (fun more=>Yw hT (h more)) hi hg rfl hk
end
def Kp{α:Type}(s:Sem α):Prop:=∀(P:Program) (w:World) (x:α) (w':World),s.run P w = .ok x w'→w'=w
theorem Kp.pure{α:Type}(a:α):Kp (Pure.pure a:Sem α):=fun P w x w' h=>by
 rw[Sem.run_pure]at h;injection h with _ h;exact h.symm
theorem Ym{α β:Type}{s:Sem α}{f:α→Sem β}(h:Kp s)(hf:∀a,Kp (f a)):Kp (s >>= f):=fun P w x w' e=>by
 rw[Sem.run_bind]at e
 cases hs:s.run P w with
 |ok a w1=>
  rw[hs]at e
  simp only[Result.andThen_ok]at e
  have h1:=h P w a w1 hs
  subst h1
  exact hf a P w1 x w' e
 |halt q w1=>rw[hs]at e;cases e
theorem Xt{α:Type}(s:String):Kp (stuck s:Sem α):=fun P w x w' h=>by cases h
theorem Hy{α:Type}(s:Unsupported):Kp (unsupported s:Sem α):=fun P w x w' h=>by cases h
theorem Lv:Kp program:=fun P w x w' h=>by rw[run_program]at h;injection h with _ h;exact h.symm
theorem Kp.load(a:Addr)(m:Mode):Kp (load a m):=fun P w x w' h=>by
 unfold Go.load Sem.run at h
 split at h
 ·injection h with _ h;exact h.symm
 ·split at h
  ·injection h with _ h;exact h.symm
  ·cases h
theorem Bj(t:TypeId):Kp (typeInfo t):=Ym Lv fun p=>by
 split
 ·exact Kp.pure _
 ·exact Xt _
theorem Kp.underlying(t:TypeId):Kp (underlying t):=Ym Lv fun p=>by
 split
 ·exact Kp.pure _
 ·exact Xt _
theorem Kw(t:TypeId):Kp (sizeOf t):=Ym (Bj t) fun _=>Kp.pure _
theorem Ft(t:TypeId):Kp (isAgg t):=Ym (Kp.underlying t) fun _=>by
 split<;>exact Kp.pure _
theorem Kp.sureAddr(x:Value):Kp (Instr.sureAddr x):=by
 unfold Instr.sureAddr
 split
 ·exact Kp.pure _
 ·exact Xt _
theorem Tw(a:Addr):∀(n i:Nat) (acc:Array Value),Kp (loadCellsFrom a i n acc)
 |0,i,acc=>Kp.pure _
 |n+1,i,acc=>Ym (Kp.load _ _) fun v=>Tw a n (i+1) _
theorem Kp.loadAt(t:TypeId)(x:Value):Kp (Instr.loadAt t x):=Ym (Kp.sureAddr x) fun a=>Ym (Ft t) fun b=>by
 split
 ·exact Ym (Kw t) fun n=>Ym (Tw a n 0 _) fun _=>Kp.pure _
 ·exact Kp.load _ _
def No{α:Type}(s:Sem α):Prop:=∀(P:Program) (w:World) (x:α) (w':World),s.run P w ≠ .ok x w'
theorem No.kp{α:Type}{s:Sem α}(h:No s):Kp s:=fun P w x w' e=>absurd e (h P w x w')
theorem Hx{α β:Type}{s:Sem α}{f:α→Sem β}(hf:∀a,No (f a)):No (s >>= f):=fun P w x w' e=>by
 rw[Sem.run_bind]at e
 cases hs:s.run P w with
 |ok a w1=>
  rw[hs]at e
  simp only[Result.andThen_ok]at e
  exact hf a P w1 x w' e
 |halt q w1=>rw[hs]at e;cases e
theorem No.nil{α:Type}:No (runtimePanic .nilDeref:Sem α):=Hx fun p P w x w' h=>by cases h
theorem No.bounds{α:Type}(k:IntKind)(x y:Int)(c:BoundsCode):No (boundsPanic k x y c:Sem α):=by
 have key:∀b,No (runtimePanic (.bounds (IntKind.i64.wrap x) y b c):Sem α):=fun b=>by
  unfold runtimePanic
  refine Hx fun p=>?_
  intro P w x w' h
  simp only[goPanic,Sem.run_halt]at h
  cases h
 unfold boundsPanic
 dsimp only
 split
 ·exact Hx fun b=>key _
 ·exact Hx fun b=>key _
theorem Kp.asIntOf(v:Value):Kp (asIntOf v):=by
 unfold Go.asIntOf
 split
 ·exact Kp.pure _
 ·exact Hy _
 ·exact Xt _
theorem Kp.bound(x:Value)(y:Nat)(c:BoundsCode):Kp (Instr.sliceBound x y c):=Ym (Kp.asIntOf x) fun⟨k,i⟩=>by
 simp only
 split
 ·exact Kp.pure _
 ·exact(No.bounds _ _ _ _).kp
theorem Kp.bounds(b:Bool)(l c:Nat)(lo hi mx:Option Value):Kp (Instr.sliceBounds b l c lo hi mx):=by
 unfold Instr.sliceBounds
 dsimp only
 have k3:∀(m h:Nat),Kp (match lo with|some v=>(do let l ←Instr.sliceBound v h (if mx.isSome=true then BoundsCode.slice3C else BoundsCode.sliceB);Pure.pure (l,h,m):Sem (Nat×Nat×Nat))|none=>(do let l ←Pure.pure 0;Pure.pure (l,h,m))):=fun m h=>by
  split
  ·exact Ym (Kp.bound _ _ _) fun _=>Kp.pure _
  ·exact Ym (Kp.pure _) fun _=>Kp.pure _
 split
 ·refine Ym (Kp.bound _ _ _) fun m=>?_
  split
  ·exact Ym (Kp.bound _ _ _) fun h=>k3 _ _
  ·exact Ym (Kp.bound _ _ _) fun h=>k3 _ _
  ·exact Ym (Kp.pure _) fun h=>k3 _ _
  ·exact Ym (Xt _) fun h=>k3 _ _
 ·refine Ym (Kp.pure _) fun m=>?_
  split
  ·exact Ym (Kp.bound _ _ _) fun h=>k3 _ _
  ·exact Ym (Kp.bound _ _ _) fun h=>k3 _ _
  ·exact Ym (Kp.pure _) fun h=>k3 _ _
  ·exact Ym (Xt _) fun h=>k3 _ _
theorem Kp.asAddr(x:Value):Kp (asAddr x):=by
 unfold Go.asAddr
 split
 ·exact Kp.pure _
 ·exact No.nil.kp
 ·exact Xt _
theorem Kp.slice(t:TypeId)(x:Value)(lo hi mx:Option Value):Kp (Instr.slice t x lo hi mx):=by
 unfold Instr.slice
 refine Ym (Kp.underlying t) fun u=>?_
 split
 ·split
  ·exact Ym (Xt _) fun _=>Ym (Kp.bounds _ _ _ _ _ _) fun⟨_,_,_⟩=>Kp.pure _
  ·exact Ym (Kp.bounds _ _ _ _ _ _) fun⟨_,_,_⟩=>Kp.pure _
 ·exact Ym (Kp.bounds _ _ _ _ _ _) fun⟨_,_,_⟩=>Ym (Kw _) fun _=>Kp.pure _
 ·refine Ym (Kp.asAddr _) fun a=>Ym (Kp.underlying _) fun d=>?_
  split
  ·exact Ym (Kp.bounds _ _ _ _ _ _) fun⟨_,_,_⟩=>Ym (Kw _) fun _=>Kp.pure _
  ·exact Xt _
 ·exact Xt _
theorem Kp.sliceAt(t:TypeId)(x:Value)(lo hi mx:Option Value):Kp (Instr.sliceAt t x lo hi mx):=by
 unfold Instr.sliceAt
 refine Ym (Kp.underlying t) fun u=>?_
 split
 ·exact Ym (Kp.sureAddr _) fun a=>Ym (Kp.bounds _ _ _ _ _ _) fun⟨_,_,_⟩=>Ym (Kw _) fun _=>Kp.pure _
 ·exact Kp.slice _ _ _ _ _
theorem Bl(r:Nat):Kp (shape r):=fun P w x w' h=>by
 simp only[shape,Sem.run]at h
 injection h with _ h;exact h.symm
theorem Kp.getObj(r:Nat):Kp (getObj r):=fun P w x w' h=>by
 unfold Go.getObj Sem.run at h
 split at h
 ·cases h
 ·simp only[Sem.run]at h;injection h with _ h;exact h.symm
 ·cases h
theorem Kp.noView(a:Addr):Kp (noView a):=by
 unfold Go.noView viewAt
 refine Ym (Ym (Bl _) fun sh=>?_) fun o=>?_
 ·split
  ·exact Kp.pure _
  ·refine Ym (Kp.getObj _) fun o=>?_
   split<;>exact Kp.pure _
 ·split
  ·exact Hy _
  ·exact Kp.pure _
theorem Kp.byteOf(a:Addr):Kp (byteOf a):=by
 unfold Go.byteOf
 dsimp only
 split
 ·exact Kp.pure _
 ·refine Ym Lv fun p=>Ym (Kp.noView a) fun _=>Ym (Bl _) fun sh=>?_
  split
  ·split
   ·exact Kp.pure _
   ·split
    ·exact Kp.pure _
    ·exact Xt _
  ·exact Xt _
theorem Kp.place(a:Addr)(f:Field):Kp (fieldPlace a f):=by
 unfold fieldPlace
 refine Ym (Kw _) fun n=>?_
 split
 ·exact Ym (Kp.byteOf _) fun _=>Ym (Kp.byteOf _) fun _=>Kp.pure _
 ·exact Kp.pure _
theorem Kp.fieldAt(s:TypeId)(x:Value)(f:Nat):Kp (Instr.fieldAt s x f):=by
 unfold Instr.fieldAt
 refine Ym (Kp.underlying s) fun u=>?_
 split
 ·split
  ·exact Ym (Kp.sureAddr x) fun a=>Ym (Kp.place a _) fun _=>Kp.pure _
  ·exact Xt _
 ·exact Xt _
theorem Kp.part(t:TypeId)(cs:Array Value)(off:Nat):Kp (part t cs off):=by
 unfold Go.part
 refine Ym (Ft t) fun b=>?_
 split
 ·exact Ym (Kw _) fun _=>Kp.pure _
 ·split
  ·exact Kp.pure _
  ·exact Xt _
theorem Kp.followBlind:∀(l:List FieldStep) (t:TypeId) (x:Option Value),Kp (Go.followBlind l t x)
 | [],t,x=>Kp.pure _
 |s::rest,t,x=>by
  unfold Go.followBlind
  refine Ym (Kp.underlying _) fun u=>?_
  split
  ·split
   ·split
    ·exact Kp.pure _
    ·exact Kp.followBlind rest _ _
    ·exact Xt _
    ·exact Kp.pure _
    ·exact Ym (Kp.part _ _ _) fun _=>Kp.followBlind rest _ _
    ·exact Xt _
    ·exact Kp.followBlind rest _ _
   ·exact Xt _
  ·exact Xt _
theorem Kp.nilAhead:∀(n:Nat) (t:TypeId) (v:Value) (name:String),Kp (Go.nilAhead n t v name)
 |0,_,_,_=>Kp.pure _
 |n+1,t,v,name=>by
  unfold Go.nilAhead
  refine Ym (Bj _) fun ti=>?_
  split
  ·refine Ym (Kp.followBlind _ _ _) fun e=>?_
   split
   ·exact Kp.pure _
   ·split
    ·exact Kp.nilAhead n _ _ _
    ·exact Kp.pure _
    ·exact Xt _
    ·exact Kp.pure _
    ·exact Kp.pure _
    ·refine Ym (Kp.underlying _) fun u=>?_
     split<;>exact Kp.pure _
  ·exact Xt _
def Eu(o:Oper):Bool:=match o.op with
 | .move _ | .assign _ | .load _ _ | .fieldAddr _ _ _ | .slice _ _ _ _ _ | .nilCheck _=>true
 |_=>false
structure KpV (s:Sem Next):Prop where
 keep:Kp s
 val:∀(P:Program) (w:World) (x:Next) (w':World),s.run P w = .ok x w'→∃v,x = .value v
theorem En{α:Type}{s:Sem α}{f:α→Sem Next}(h:Kp s)(hf:∀a,KpV (f a)):KpV (s >>= f):=⟨Ym h fun a=>(hf a).keep,fun P w x w' e=>by
 rw[Sem.run_bind]at e
 cases hs:s.run P w with
 |ok a w1=>rw[hs]at e;simp only[Result.andThen_ok]at e;exact(hf a).val P w1 x w' e
 |halt q w1=>rw[hs]at e;cases e⟩
theorem KpV.pure(v:Value):KpV (Pure.pure (.value v):Sem Next):=⟨Kp.pure _,fun P w x w' e=>by rw[Sem.run_pure]at e;injection e with e;exact⟨v,e.symm⟩⟩
theorem KpV.of{s:Sem Value}(h:Kp s):KpV (do Pure.pure (.value (←s)):Sem Next):=En h fun v=>KpV.pure v
theorem Pb{s:Sem Next}(h:No s):KpV s:=⟨h.kp,fun P w x w' e=>absurd e (h P w x w')⟩
theorem KpV.unsup(u:Unsupported):KpV (unsupported u:Sem Next):=Pb fun P w x w' h=>by cases h
theorem B6{o:Oper}(h:Eu o=true)(ev:Operand→Value):KpV (execOp ev o):=by
 obtain⟨dst,op,ty,pos,after,g⟩:=o
 unfold Eu at h
 cases op<;>simp only[Bool.false_eq_true]at h
 case move x=>exact KpV.pure _
 case assign x=>exact KpV.pure _
 case load t x=>exact KpV.of (Kp.loadAt _ _)
 case fieldAddr s x f=>exact KpV.of (Kp.fieldAt _ _ _)
 case slice t x lo hi mx=>exact KpV.of (Kp.sliceAt _ _ _ _ _)
 case nilCheck x=>
  unfold execOp
  dsimp only
  split
  ·exact Pb No.nil
  ·exact Pb No.nil
  ·exact Pb No.nil
  ·split
   ·exact Pb No.nil
   ·refine En Lv fun p=>En (Kp.nilAhead _ _ _ _) fun b=>?_
    split
    ·exact En (Hy _) fun _=>KpV.pure _
    ·exact KpV.pure _
   ·exact KpV.pure _
  ·exact KpV.pure _
section
variable{P:Program}{C:Ctx}{k:List Item}{R:Act→World→Prop}{env:Env}{σ:List Ob}
theorem Ms{ops:Array Oper}{F:Act→World→Prop}{w:World}{tail:List Oper}:∀(head:List Oper) (a:Act),(head.all fun o=>Eu o&&o.guard.isNone)=true →
  wpList P ops (nrm F) (head++tail) a w→wpStill P ops w (fun a'=>wpList P ops (nrm F) tail a' w) head a
 | [],a,_,h=>h
 |o::head,a,hs,h=>by
  simp only[List.all_cons,Bool.and_eq_true]at hs
  obtain⟨⟨hs1,hg⟩,hs2⟩:=hs
  have hw:Region.wanted o (yielded ops a.tmps)=true:=by
   have:o.guard=none:=by simpa using hg
   simp[Region.wanted,this]
  have hk:=B6 hs1 a.eval
  have hno:¬LetsOut (nrm F):=fun⟨_,_,h⟩=>h
  rw[List.cons_append]at h
  unfold wpList at h
  unfold wpStill
  rw[if_pos hw]at h ⊢
  have h:=h.resolve_right fun h=>hno h.2
  unfold Oper.wp at h
  unfold Oper.still
  cases hr:(execOp a.eval o).run P w with
  |ok x w'=>
   obtain⟨v,rfl⟩:=hk.val P w x w' hr
   have:=hk.keep P w _ w' hr
   subst this
   rw[hr]at h
   simp only[Oper.upon]at h
   simp only[Oper.stillUpon]
   exact⟨trivial,Ms head _ hs2 h⟩
  |halt q w'=>
   rw[hr]at h
   cases q<;>first|exact h.elim|exact h
theorem O8{id:Nat}{l:List Oper}{k':List Item}(m n:Nat)(hf:P.follows .mixedOrders=true)(hc:Proofs.YtnecoghfhcimeaaGreat.ctls m k = .code (.region id l.toArray true)::k')(hB:Region.lexTailB .any l.toArray n=true)
  (hs:((l.take n).all fun o=>Eu o&&o.guard.isNone)=true) (h:RunsL P C l.toArray l k' R ⟨env,σ⟩):Runs P C k R ⟨env,σ⟩:=
 Zbf m hc ⟨fun a w hs'=>Vv (wp_region_still_tail n hf hB (Ms _ _ hs (by
  rw[List.take_append_drop]
  obtain⟨s1,s2,φ,hG,hE⟩:=hs'
  have hb:Below w.heap.size w {w with drawn:=w.drawn+1}:=⟨rfl,rfl,rfl,Nat.le_refl _,fun _ _=>rfl⟩
  obtain⟨g1,g2⟩:=Y8 hG hb
  exact h.run a _ ⟨s1,s2,φ,g1,hE.keeps g2⟩)))⟩
end
end Go.Proofs.YtnecoghfhcimeaaGreat
