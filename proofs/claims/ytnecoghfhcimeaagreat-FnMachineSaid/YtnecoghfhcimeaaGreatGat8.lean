/- Gathered texts. -/
import Derived.Test.YtnecoghfhcimeaaGreatGat0
import Derived.Test.YtnecoghfhcimeaaGreatGat1
import Derived.Test.YtnecoghfhcimeaaGreatGat2
import Derived.Test.YtnecoghfhcimeaaGreatGat3
import Derived.Test.YtnecoghfhcimeaaGreatGat4
import Derived.Test.YtnecoghfhcimeaaGreatGat5
import Derived.Test.YtnecoghfhcimeaaGreatGat6
import Derived.Test.YtnecoghfhcimeaaGreatGat7
/- A machine in the code of a drawn description does what a reader does: rules that begin with an integer, and whole files. Plain laws. -/
namespace Go.Proofs.YtnecoghfhcimeaaGreat
set_option linter.unusedSimpArgs false
set_option linter.unusedVariables false
set_option linter.unusedSectionVars false
open Go.RowKit
section
variable{d:Des}(hD:DrawD d)
include hD
theorem Dw{n j i:Nat}{z:Int}(hz:0≤z∧z<j)(hj:j<d.length){x0:Rul}(hx0:d[z.toNat]?=some x0)(hk0:x0.kind=1)(IH:∀z:Nat,z<j→Us d (n+1) z){m:Mch}{l:List UInt8}(hy:(blk d j)[i]?=some (Y4 (cdE d j) z))(hR:Rest m)(hat:m.pc=(stA d j:Int)+(i:Int))(hB:¬Bad (fin (cdF d) m l)) :
  SmR d m l (rdI (ru d z).size.toNat l) ((stA d j:Int)+((i+1:Nat):Int)) m.stack fun g k=>g=rdN (ru d z).little (l.take k)∧0≤g∧g<16777216:=by
 obtain⟨q,rfl,hI,hc⟩:=Ln hD IH hz
 rw[hc]at hy
 rw[Int.toNat_natCast]at hx0
 obtain⟨k',_,_,hr,hk',_,_⟩:=hD.kinds hx0
 have hs:=hr.hsize.1 (by omega)
 have hru:ru d (q:Int)=x0:=Qx hx0
 have h:=Ru hD hI ⟨hj,hy,hat,hR.st⟩ hR rfl rfl hB
 have e:rdF d (n+1) (q:Int) l=rdI x0.size.toNat l:=by rw[V4 d n _ l x0 hru,if_pos (.inl hk0)]
 rw[hru]at h ⊢
 rw[e]at h
 refine⟨fun k hk=>?_,h.2⟩
 obtain⟨hl,g,lf,hq,hf⟩:=h.1 k hk
 have hg:=hq hk0
 have hk3:k≤3:=by
  unfold rdI at hk
  split at hk
  ·simp at hk
  ·simp at hk;omega
 refine⟨hl,g,lf,⟨hg,?_,?_⟩,hf⟩
 ·rw[hg];exact Kg _ _
 ·have h1:=Sl x0.little (l.take k)
  have h2:(256:Int) ^ (l.take k).length≤16777216:=by
   rcases(show(l.take k).length=0∨(l.take k).length=1∨(l.take k).length=2∨(l.take k).length=3 by rw[List.length_take];omega) with e|e|e|e<;>rw[e]<;>decide
  rw[hg]
  omega
theorem sized_sm{n j:Nat}{x:Rul}(hx:d[j]?=some x)(hk:x.kind=4){z:Int}(hkk:x.kids=[z]){x0:Rul}(hx0:d[z.toNat]?=some x0)(hk0:x0.kind=1)(IH:∀z:Nat,z<j→Us d (n+1) z):Us d (n+1+1) j:=by
 intro m l S a hR hat hS hB
 have hj:=(Za5.1 hx).1
 have hkid:=hD.kid hx z (by rw[hkk];simp)
 have hL:blk d j=[Y4 (cdE d j) z,⟨4,0,0⟩,⟨10,0,0⟩]:=by
  rw[Wr hD hx];unfold Xh Y7
  rw[if_neg (by omega),if_neg (by omega),if_neg (by omega),if_pos hk,hkk];rfl
 rw[V4 d (n+1) _ l x (Qx hx),if_neg (by omega),if_neg (by omega),if_neg (by omega),if_neg (by omega),if_neg (by omega),if_neg (by omega),Qx hx,hkk,List.headD_cons]
 simp only[if_pos hk]
 have hy1:(blk d j)[1]?=some ⟨4,0,0⟩:=by rw[hL];rfl
 have hy2:(blk d j)[2]?=some ⟨10,0,0⟩:=by rw[hL];rfl
 have h1:=Dw hD hkid hj hx0 hk0 IH (i:=0) (m:=m) (l:=l) (by rw[hL];rfl) hR (by rw[hat];simp) hB
 refine Em hD hR hj hy2 rfl hB (fun _ _ e=>by omega) (q:=fun _ _=>True) ?_
 rw[←hS]
 refine h1.then_ fun k g lf hk hl hq hf=>?_
 obtain⟨hg,hg0,hg1⟩:=hq
 have hB1:=hB
 rw[hf]at hB1
 have hgo:=mgo hD (m:=M5 (Vj m (l.take k)) ((stA d j:Int)+((0+1:Nat):Int)) m.stack g lf) (b:=j) (i:=1) ⟨hj,hy1,rfl,hR.st⟩ hR.started hB1
 have e1:∀M:Mch,Yq M ⟨4,0,0⟩=X7 M M.register:=fun M=>by simp[Yq]
 rw[e1,show(M5 (Vj m (l.take k)) ((stA d j:Int)+((0+1:Nat):Int)) m.stack g lf).register=g from rfl]at hgo
 rw[←hg]
 unfold X7 at hgo
 unfold rdI
 by_cases h0:g=0
 ·subst h0
  rw[if_pos rfl]at hgo
  rw[if_neg (by simp)]
  refine⟨fun k' hk'=>?_,fun c hc=>by simp at hc⟩
  simp at hk';subst hk'
  refine⟨Nat.zero_le _,0,lf,trivial,?_⟩
  rw[hgo]
  have hw:=Pos.small hD (m:=(M5 (Vj m (l.take k)) ((stA d j:Int)+((0+1:Nat):Int)) (m.stack) (0) (lf))) (b:=j) (i:=1) ⟨hj,hy1,rfl,hR.st⟩
  unfold K2
  rw[hw,List.take_zero,Eb]
  rfl
 ·rw[if_neg h0]at hgo
  obtain⟨N,hN⟩:∃N:Nat,g=((N+1:Nat):Int):=⟨g.toNat-1,by omega⟩
  have hN':g.toNat=N+1:=by omega
  rw[hN']
  have hsk:=Pk hD (b:=j) (i:=1) (y:=⟨4,0,0⟩) (.inr rfl) N {M5 (Vj m (l.take k)) ((stA d j:Int)+((0+1:Nat):Int)) m.stack g g with started:=true} (l.drop k) ⟨hj,hy1,rfl,hR.st⟩ rfl hR.escaped hN (by omega)
  by_cases h:(l.drop k).length<N+1
  ·rw[if_pos h]
   exact⟨fun k hk=>by simp at hk,fun c hc=>by simp at hc;subst hc;rw[hgo];exact hsk.1 h⟩
  ·rw[if_neg h]
   refine⟨fun k' hk'=>?_,fun c hc=>by simp at hc⟩
   simp at hk';subst hk'
   refine⟨by omega,g,0,trivial,?_⟩
   refine hgo.trans ((hsk.2 (by omega)).trans ?_)
   rw[N9 (m:=M5 (Vj m (l.take k)) ((stA d j:Int)+((0+1:Nat):Int)) m.stack g lf) hR.started]
   rfl
theorem loop_sm{n j q:Nat}(hj:j<d.length)(hI:Us d n q)(h3:(blk d j)[3]?=some ⟨7,(stA d j:Int)+6,0⟩)(h4:(blk d j)[4]?=some ⟨9,(stA d q:Int),0⟩)(h5:(blk d j)[5]?=some ⟨8,(stA d j:Int)+3,0⟩){S:List Int}:∀(c:Nat) (m:Mch) (l:List UInt8),c≤1000→Rest m→m.pc=(stA d j:Int)+((3:Nat):Int)→m.stack=S++[(c:Int)]→¬Bad (fin (cdF d) m l) →
  SmR d m l (rdS (rdF d n) (List.replicate c (q:Int)) l) ((stA d j:Int)+((6:Nat):Int)) S fun _ _=>True
 |c,m,l,hc,hR,hat,hS,hB=>by
  have hP:Pos d m j 3 ⟨7,(stA d j:Int)+6,0⟩:=⟨hj,h3,hat,hR.st⟩
  have hg:=mgo hD hP hR.started hB
  have hlen:m.stack.length-1=S.length:=by rw[hS];simp
  have htop:H1 m=(c:Int):=by unfold H1;rw[hlen,hS];simp
  have hdrop:m.stack.take (m.stack.length-1)=S:=by rw[hlen,hS,List.take_left]
  have hne:¬m.stack.length=0:=by rw[hS];simp
  have e1:Yq m ⟨7,(stA d j:Int)+6,0⟩=Js m ((stA d j:Int)+6):=by simp[Yq]
  rw[e1]at hg
  unfold Js at hg
  rw[if_neg hne,htop]at hg
  cases c with
  |zero=>
   rw[if_pos (by rfl)]at hg
   refine⟨fun k hk=>?_,fun c hc=>by simp[rdS]at hc⟩
   simp[rdS]at hk;subst hk
   refine⟨Nat.zero_le _,m.register,m.left,trivial,?_⟩
   rw[hg]
   unfold Jt
   rw[hdrop,List.take_zero,Eb,List.drop_zero]
   rfl
  |succ c=>
   rw[if_neg (by omega)]at hg
   have hw:=hP.small hD
   have hset:m.stack.set (m.stack.length-1) (w64 (((c+1:Nat):Int)-1))=S++[(c:Int)]:=by
    rw[hlen,hS,show w64 (((c+1:Nat):Int)-1)=(c:Int) by rw[Wh (by omega)];omega]
    simp
   rw[hset,hw]at hg
   rw[List.replicate_succ,rdS]
   refine Gc hg ?_ fun u g lf=>rfl
   have hB1:=hB
   rw[hg]at hB1
   refine(Ru hD hI (m:={m with stack:=S++[(c:Int)],pc:=(stA d j:Int)+((3+1:Nat):Int)}) ⟨hj,h4,rfl,hR.st⟩ ⟨hR.st,hR.started,hR.escaped⟩ rfl rfl hB1).then_ fun k g lf hk hl _ hf=>?_
   have hB2:=hB1
   rw[hf]at hB2
   have hg2:=mgo hD (m:=M5 (Vj {m with stack:=S++[(c:Int)],pc:=(stA d j:Int)+((3+1:Nat):Int)} (l.take k)) ((stA d j:Int)+((4+1:Nat):Int)) (S++[(c:Int)]) g lf) (b:=j) (i:=5) ⟨hj,h5,rfl,hR.st⟩ hR.started hB2
   have e2:∀M:Mch,Yq M ⟨8,(stA d j:Int)+3,0⟩={M with pc:=(stA d j:Int)+3}:=fun M=>by simp[Yq]
   rw[e2]at hg2
   refine Gc hg2 (loop_sm hj hI h3 h4 h5 c _ (l.drop k) (by omega) ⟨hR.st,hR.started,hR.escaped⟩ rfl rfl (by rw[←hg2];exact hB2)) fun u g lf=>rfl
omit hD in
theorem itL_same{x:Rul}{n:Int}{z:Int}(h:∀i,Xb x n i=z)(c:Nat):itL x n c=List.replicate c z:=
 List.eq_replicate_iff.2 ⟨G8 x n c,fun w hw=>by
  obtain⟨i,hi⟩:=List.getElem?_of_mem hw
  rw[(S4 hi).2,h]⟩
theorem array_sm{n j:Nat}{x:Rul}(hx:d[j]?=some x)(hk:x.kind=5){z z':Int}(hkk:x.kids=[z,z']){x0:Rul}(hx0:d[z.toNat]?=some x0)(hk0:x0.kind=1)(IH:∀z:Nat,z<j→Us d (n+1) z):Us d (n+1+1) j:=by
 intro m l S a hR hat hS hB
 have hj:=(Za5.1 hx).1
 have hkid:=hD.kid hx z (by rw[hkk];simp)
 have hkid':=hD.kid hx z' (by rw[hkk];simp)
 have hsb:=s_bd hD hj
 obtain⟨q,hzq,hI,hc⟩:=Ln hD IH hkid'
 have w1:w64 ((stA d j:Int)+6)=(stA d j:Int)+6:=Wh (by omega)
 have w2:w64 ((stA d j:Int)+3)=(stA d j:Int)+3:=Wh (by omega)
 have hL:blk d j=[Y4 (cdE d j) z,⟨5,40,0⟩,⟨6,0,0⟩,⟨7,(stA d j:Int)+6,0⟩,⟨9,(stA d q:Int),0⟩,⟨8,(stA d j:Int)+3,0⟩,⟨10,0,0⟩]:=by
  rw[Wr hD hx];unfold Xh Y7
  rw[if_neg (by omega),if_neg (by omega),if_neg (by omega),if_neg (by omega),if_pos hk,hkk,w1,w2,List.headD_cons,show([z,z'][1]?).getD 0=z' from rfl,hc];rfl
 rw[V4 d (n+1) _ l x (Qx hx),if_neg (by omega),if_neg (by omega),if_neg (by omega),if_neg (by omega),if_neg (by omega),if_neg (by omega),Qx hx,hkk,List.headD_cons]
 simp only[if_pos hk,if_neg (show ¬x.kind=4 by omega)]
 have hy1:(blk d j)[1]?=some ⟨5,40,0⟩:=by rw[hL];rfl
 have hy2:(blk d j)[2]?=some ⟨6,0,0⟩:=by rw[hL];rfl
 have hy6:(blk d j)[6]?=some ⟨10,0,0⟩:=by rw[hL];rfl
 have h1:=Dw hD hkid hj hx0 hk0 IH (i:=0) (m:=m) (l:=l) (by rw[hL];rfl) hR (by rw[hat];simp) hB
 refine Em hD hR hj hy6 rfl hB (fun _ _ e=>by omega) (q:=fun _ _=>True) ?_
 rw[←hS]
 refine h1.then_ fun k g lf hk' hl hq hf=>?_
 obtain⟨hg,hg0,hg1⟩:=hq
 have hB1:=hB
 rw[hf]at hB1
 have hP1:Pos d (M5 (Vj m (l.take k)) ((stA d j:Int)+((0+1:Nat):Int)) (m.stack) (g) (lf)) j 1 ⟨5,40,0⟩:=⟨hj,hy1,rfl,hR.st⟩
 have hgo:=mgo hD hP1 hR.started hB1
 have e1:∀M:Mch,Yq M ⟨5,40,0⟩=if 40<M.register then X6 M 6 else K2 M:=fun M=>by simp[Yq]
 rw[e1,show(M5 (Vj m (l.take k)) ((stA d j:Int)+((0+1:Nat):Int)) m.stack g lf).register=g from rfl]at hgo
 rw[←hg]
 by_cases h40:40<g
 ·rw[if_pos h40]at hgo ⊢
  refine⟨fun k hk=>by simp at hk,fun e he=>?_⟩
  simp at he;subst he
  rw[hgo,Vq rfl];rfl
 ·rw[if_neg h40]at hgo ⊢
  unfold K2 at hgo
  rw[hP1.small hD]at hgo
  have hB2:=hB1
  rw[hgo]at hB2
  have hgo2:=mgo hD (m:={M5 (Vj m (l.take k)) ((stA d j:Int)+((0+1:Nat):Int)) m.stack g lf with pc:=(stA d j:Int)+((1+1:Nat):Int)}) (b:=j) (i:=2) ⟨hj,hy2,rfl,hR.st⟩ hR.started hB2
  have e2:∀M:Mch,Yq M ⟨6,0,0⟩=Q9 M M.register (w64 (M.pc+1)):=fun M=>by simp[Yq]
  rw[e2]at hgo2
  unfold Q9 at hgo2
  by_cases h60:60≤m.stack.length
  ·rw[if_pos (by exact h60)]at hgo2
   exact absurd (by rw[hgo2.trans (Vq (by rfl) _)];exact⟨rfl,rfl⟩) hB2
  ·rw[if_neg (by exact h60)]at hgo2
   obtain⟨C,hC⟩:∃C:Nat,g=(C:Int):=⟨g.toNat,by omega⟩
   have hCt:g.toNat=C:=by omega
   have hit:∀i,Xb x 0 i=z':=fun i=>by unfold Xb;rw[if_pos hk,hkk];rfl
   rw[hCt,itL_same hit,hzq]
   have hw:w64 ((stA d j:Int)+((1+1:Nat):Int)+1)=(stA d j:Int)+((3:Nat):Int):=by rw[Wh (by omega)];omega
   refine Gc (hgo.trans hgo2) (loop_sm hD hj hI (by rw[hL];rfl) (by rw[hL];rfl) (by rw[hL];rfl) (S:=m.stack) C _ (l.drop k) (by omega) ⟨hR.st,hR.started,hR.escaped⟩ hw (by rw[hC];rfl) (by rw[←hgo2];exact hB2)) fun u g lf=>rfl
theorem Bb(kids en:List Int):∀(T q:Nat),q<T→(Xk kids en T)[2*q]?=some (Y4 en ((kids[q+1]?).getD 0))∧(q+1<T→(Xk kids en T)[2*q+1]?=some ⟨10,0,0⟩)
 |0,q,h=>by omega
 |T+1,q,h=>by
  have hs:Xk kids en (T+1)=Xk kids en T++((if T=0 then[] else[⟨10,0,0⟩])++[Y4 en ((kids[T+1]?).getD 0)]):=by
   unfold Xk
   rw[List.range_succ,List.flatMap_append,List.flatMap_singleton]
  have hlen:=Q7 kids en
  rw[hs]
  by_cases e:q=T
  ·subst e
   refine⟨?_,fun h=>by omega⟩
   cases q with
   |zero=>rfl
   |succ q=>
    rw[Zbd (by rw[hlen];omega),hlen,if_neg (by omega),show 2*(q+1)-(2*q+1)=1 by omega]
    rfl
  ·obtain⟨i1,i2⟩:=Bb kids en T q (by omega)
   have h1:=(Za5.1 i1).1
   refine⟨by rw[Zbc h1];exact i1,fun h'=>?_⟩
   by_cases e2:q+1<T
   ·have i3:=i2 e2
    rw[Zbc (Za5.1 i3).1];exact i3
   ·obtain rfl:T=q+1:=by omega
    rw[Zbd (by rw[hlen];exact Nat.le_refl _),hlen,if_neg (by omega),Nat.sub_self]
    rfl
theorem tags_go{j T:Nat}(hj:j<d.length)(hT:T≤10):∀(ts:List Int) (i:Nat) (m:Mch) (l:List UInt8),(∀(k:Nat) t,ts[k]?=some t→(blk d j)[i+1+k]?=some ⟨11,t,(stA d j:Int)+(T:Int)+2+2*((i+k:Nat):Int)⟩)→(blk d j)[i+1+ts.length]?=some ⟨12,3,0⟩→Rest m→m.pc=(stA d j:Int)+((i+1:Nat):Int)→¬Bad (fin (cdF d) m l) →
  (W7 ts m.register<ts.length→fin (cdF d) m l=fin (cdF d) {m with pc:=(stA d j:Int)+(T:Int)+2+2*((i+W7 ts m.register:Nat):Int)} l)∧(¬W7 ts m.register<ts.length→I6 (fin (cdF d) m l)=3)
 | [],i,m,l,_,he,hR,hat,hB=>by
  refine⟨fun h=>by simp at h,fun _=>?_⟩
  rw[mgo hD (b:=j) (i:=i+1) ⟨hj,he,hat,hR.st⟩ hR.started hB,show Yq m ⟨12,3,0⟩=X6 m 3 by simp[Yq],Vq rfl]
  rfl
 |t::ts,i,m,l,hy,he,hR,hat,hB=>by
  have hP:Pos d m j (i+1) ⟨11,t,(stA d j:Int)+(T:Int)+2+2*((i+0:Nat):Int)⟩:=⟨hj,hy 0 t rfl,hat,hR.st⟩
  have hg:=mgo hD hP hR.started hB
  have e1:Yq m ⟨11,t,(stA d j:Int)+(T:Int)+2+2*((i+0:Nat):Int)⟩=if m.register=t then {m with pc:=(stA d j:Int)+(T:Int)+2+2*((i+0:Nat):Int)} else K2 m:=by simp[Yq]
  rw[e1]at hg
  rw[W7]
  by_cases h:t=m.register
  ·rw[if_pos h]
   rw[if_pos h.symm]at hg
   exact⟨fun _=>hg,fun h=>absurd (by simp) h⟩
  ·rw[if_neg h]
   rw[if_neg (fun e=>h e.symm)]at hg
   unfold K2 at hg
   rw[hP.small hD]at hg
   have ih:=tags_go hj hT ts (i+1) {m with pc:=(stA d j:Int)+((i+1+1:Nat):Int)} l (fun k t hk=>by
    have:=hy (k+1) t (by simpa using hk)
    rwa [show i+1+(k+1)=i+1+1+k by omega,show i+(k+1)=i+1+k by omega]at this) (by rw[Za8]at he;rwa [show i+1+(ts.length+1)=i+1+1+ts.length by omega]at he) ⟨hR.st,hR.started,hR.escaped⟩ rfl (by rw[←hg];exact hB)
   simp only[Za8]
   refine⟨fun h'=>?_,fun h'=>by rw[hg];exact ih.2 (fun h2=>h' (by have h3:W7 ts m.register<ts.length:=h2;omega))⟩
   rw[hg,ih.1 (show W7 ts m.register<ts.length by omega)]
   congr 2
   simp only
   omega
theorem choice_sm{n j:Nat}{x:Rul}(hx:d[j]?=some x)(hk:x.kind=7){z:Int}{kl:List Int}(hkk:x.kids=z::kl)(hkl:kl.length=x.tags.length)(hT:1≤x.tags.length∧x.tags.length≤3){x0:Rul}(hx0:d[z.toNat]?=some x0)(hk0:x0.kind=1)(IH:∀z:Nat,z<j→Us d (n+1) z):Us d (n+1+1) j:=by
 intro m l S a hR hat hS hB
 have hj:=(Za5.1 hx).1
 have hkd:=hD.kid hx
 have hkid:=hkd z (by rw[hkk];simp)
 have hsb:=s_bd hD hj
 have hL:blk d j=(Y4 (cdE d j) z::(V0 x.tags ((stA d j:Int)+(x.tags.length:Int)+2) x.tags.length++⟨12,3,0⟩::Xk x.kids (cdE d j) x.tags.length))++[⟨10,0,0⟩]:=by
  rw[Wr hD hx];unfold Xh Y7
  rw[if_neg (by omega),if_neg (by omega),if_neg (by omega),if_neg (by omega),if_neg (by omega),if_neg (by omega),if_pos hk,show x.kids.headD 0=z by rw[hkk];rfl]
 obtain⟨T,hTT⟩:∃T:Nat,x.tags.length=T+1:=⟨x.tags.length-1,by omega⟩
 have hcl:(Xk x.kids (cdE d j) x.tags.length).length=2*T+1:=by rw[hTT,Q7]
 have htl:(V0 x.tags ((stA d j:Int)+(x.tags.length:Int)+2) x.tags.length).length=x.tags.length:=Vg _ _ _
 have hA:∀i,i<x.tags.length→(blk d j)[0+1+i]?=(V0 x.tags ((stA d j:Int)+(x.tags.length:Int)+2) x.tags.length)[i]?:=fun i hi=>by
  rw[hL,Zbc (by simp only[Za8,Za7,htl,hcl];omega),show 0+1+i=i+1 by omega,List.getElem?_cons_succ,Zbc (by omega)]
 have hF:(blk d j)[0+1+x.tags.length]?=some ⟨12,3,0⟩:=by
  rw[hL,Zbc (by simp only[Za8,Za7,htl,hcl];omega),show 0+1+x.tags.length=x.tags.length+1 by omega,List.getElem?_cons_succ,Zbd (by omega),htl,Nat.sub_self]
  rfl
 have hC:∀i,i<2*T+1→(blk d j)[x.tags.length+2+i]?=(Xk x.kids (cdE d j) x.tags.length)[i]?:=fun i hi=>by
  rw[hL,Zbc (by simp only[Za8,Za7,htl,hcl];omega),show x.tags.length+2+i=x.tags.length+1+i+1 by omega,List.getElem?_cons_succ,Zbd (by omega),htl,show x.tags.length+1+i-x.tags.length=i+1 by omega,List.getElem?_cons_succ]
 have hE:(blk d j)[x.tags.length+2+(2*T+1)]?=some ⟨10,0,0⟩:=by
  have:(Y4 (cdE d j) z::(V0 x.tags ((stA d j:Int)+(x.tags.length:Int)+2) x.tags.length++⟨12,3,0⟩::Xk x.kids (cdE d j) x.tags.length)).length=x.tags.length+2+(2*T+1):=by simp only[Za8,Za7,htl,hcl];omega
  rw[hL,Zbd (by omega),this,Nat.sub_self];rfl
 rw[V4 d (n+1) _ l x (Qx hx),if_neg (by omega),if_neg (by omega),if_neg (by omega),if_neg (by omega),if_neg (by omega),if_neg (by omega),Qx hx,show x.kids.headD 0=z by rw[hkk];rfl]
 simp only[if_neg (show ¬x.kind=4 by omega),if_neg (show ¬x.kind=5 by omega)]
 have h1:=Dw hD hkid hj hx0 hk0 IH (i:=0) (m:=m) (l:=l) (by rw[hL];rfl) hR (by rw[hat];simp) hB
 -- the integer, then the rest
 have key:∀k g lf,k≤l.length→g=rdN (ru d z).little (l.take k)→fin (cdF d) m l=fin (cdF d) (M5 (Vj m (l.take k)) ((stA d j:Int)+((0+1:Nat):Int)) (m.stack) (g) (lf)) (l.drop k) →
   SmR d (M5 (Vj m (l.take k)) ((stA d j:Int)+((0+1:Nat):Int)) (m.stack) (g) (lf)) (l.drop k) (if W7 x.tags g<x.tags.length then rdS (rdF d (n+1)) (itL x g 1) (l.drop k) else .error 3) a S fun _ _=>True:=fun k g lf hl hg hf=>by
  have hB1:=hB
  rw[hf]at hB1
  have ht:=tags_go hD hj (T:=x.tags.length) (by omega) x.tags 0 (M5 (Vj m (l.take k)) ((stA d j:Int)+((0+1:Nat):Int)) (m.stack) (g) (lf)) (l.drop k) (fun i t hi=>by
   have hil:=(Za5.1 hi).1
   rw[hA i hil]
   unfold V0
   rw[List.getElem?_map,List.getElem?_range hil,Option.map_some,hi,Wh (by omega),Nat.zero_add]
   rfl) hF ⟨hR.st,hR.started,hR.escaped⟩ rfl hB1
  by_cases hlt:W7 x.tags g<x.tags.length
  ·rw[if_pos hlt]
   have hf2:=ht.1 hlt
   obtain⟨Q,hQ⟩:∃Q,Q=W7 x.tags g:=⟨_,rfl⟩
   have hQl:Q<x.tags.length:=by rw[hQ];exact hlt
   obtain⟨w,hw⟩:∃w,x.kids[Q+1]?=some w:=⟨_,Za6 (by rw[hkk,Za8];omega)⟩
   obtain⟨q,hzq,hI,hc⟩:=Ln hD IH (hkd w (Zba hw))
   have hit:Xb x g 0=w:=by unfold Xb;rw[if_neg (by omega),if_neg (by omega),if_pos hk,←hQ,hw];rfl
   rw[Re hD,hit]
   obtain⟨c1,c2⟩:=Bb hD x.kids (cdE d j) x.tags.length Q hQl
   rw[hw,Option.getD_some,hc]at c1
   have hy:(blk d j)[x.tags.length+2+2*Q]?=some ⟨9,(stA d q:Int),0⟩:=by rw[hC _ (by omega)];exact c1
   have hyr:(blk d j)[x.tags.length+2+2*Q+1]?=some ⟨10,0,0⟩:=by
    by_cases e:Q+1<x.tags.length
    ·rw[show x.tags.length+2+2*Q+1=x.tags.length+2+(2*Q+1) by omega,hC _ (by omega)];exact c2 e
    ·rw[show x.tags.length+2+2*Q+1=x.tags.length+2+(2*T+1) by omega];exact hE
   rw[show W7 x.tags (M5 (Vj m (l.take k)) ((stA d j:Int)+((0+1:Nat):Int)) m.stack g lf).register=Q from hQ.symm]at hf2
   rw[show(stA d j:Int)+(x.tags.length:Int)+2+2*((0+Q:Nat):Int)=(stA d j:Int)+((x.tags.length+2+2*Q:Nat):Int) by omega]at hf2
   have hB2:=hB1
   rw[hf2]at hB2
   refine Gc hf2 ?_ fun u g lf=>rfl
   refine Em hD (m:=(M5 (Vj m (l.take k)) ((stA d j:Int)+((x.tags.length+2+2*Q:Nat):Int)) (m.stack) (g) (lf))) ⟨hR.st,hR.started,hR.escaped⟩ hj hyr rfl hB2 (fun _ _=>trivial) (q:=fun _ _=>True) ?_
   rw[←hS]
   exact one_sm hD hzq hI (b:=j) (y:=⟨9,(stA d q:Int),0⟩) ⟨hj,hy,rfl,hR.st⟩ ⟨hR.st,hR.started,hR.escaped⟩ rfl rfl hB2
  ·rw[if_neg hlt]
   exact⟨fun k hk=>by simp at hk,fun c hc=>by simp at hc;subst hc;exact ht.2 hlt⟩
 refine(h1.then_ (f:=fun k=>if W7 x.tags (rdN (ru d z).little (l.take k))<x.tags.length then rdS (rdF d (n+1)) (itL x (rdN (ru d z).little (l.take k)) 1) (l.drop k) else .error 3) (q':=fun _ _=>True) fun k g lf hk' hl hq hf=>?_).mono fun g k _ e=>by omega
 have:=key k g lf hl hq.1 hf
 rw[hq.1]at this ⊢
 exact this
theorem rule_sm:∀(n j:Nat),j<n→j<d.length→Us d (n+1) j
 |0,j,h,_=>by omega
 |n+1,j,h,hj=>by
  have IH:∀z:Nat,z<j→Us d (n+1) z:=fun z hz=>rule_sm n z (by omega) (by omega)
  obtain⟨x,hx⟩:∃x,d[j]?=some x:=⟨_,Za6 hj⟩
  obtain⟨k',k1,k2,hr,hk',_,_⟩:=hD.kinds hx
  rcases(show k'=1∨k'=2∨k'=3∨k'=4∨k'=5∨k'=6∨k'=7∨k'=8∨k'=9∨k'=10 by omega) with o|o|o|o|o|o|o|o|o|o
  ·exact int_sm hD hx (by omega) (hr.hsize.1 o)
  ·exact const_sm hD hx (by omega)
  ·exact fixed_sm hD hx (by omega) (hr.hsize.2.1 o)
  ·obtain⟨z,hz,hkk⟩:=hr.hkids.1 o
   obtain⟨x0,hx0,hk0⟩:=hz.up.1.2.2
   exact sized_sm hD hx (by omega) hkk hx0 hk0 IH
  ·obtain⟨z,z',hz,_,hkk⟩:=hr.hkids.2.1 o
   obtain⟨x0,hx0,hk0⟩:=hz.up.1.2.2
   exact array_sm hD hx (by omega) hkk hx0 hk0 IH
  ·exact seq_sm hD hx (by omega) IH
  ·obtain⟨z,kl,hz,hkl,_,hkk⟩:=hr.hkids.2.2.2.1 o
   obtain⟨x0,hx0,hk0⟩:=hz.up.1.2.2
   have ht:=hr.htags.1 o
   exact choice_sm hD hx (by omega) hkk hkl ⟨ht.1,ht.2.1⟩ hx0 hk0 IH
  ·obtain⟨z,hz,hkk⟩:=hr.hkids.2.2.2.2.1 (by omega)
   exact option_sm hD hx (by omega) hkk IH
  ·obtain⟨z,hz,hkk⟩:=hr.hkids.2.2.2.2.1 (by omega)
   exact Zas hD hx (by omega) hkk IH
  ·obtain⟨y,hy,hb⟩:=hr.hbytes.2.1 o
   exact term_sm hD hx (by omega) hb
end
def Uv(d:Des)(l:List UInt8):Int:=match rdF d (d.length+1) ((d.length-1:Nat):Int) l with
 | .error c=>c
 | .ok k=>if k<l.length then 7 else 0
theorem red_len:∀(u:List UInt8) (r:Int),0≤r→r+u.length≤1000000→redF r u=r+u.length
 | [],r,_,_=>by simp[redF]
 |c::u,r,h0,h1=>by
  rw[Za8]at h1
  show redF (w64 (r+1)) u=_
  rw[Wh (by omega),red_len u (r+1) (by omega) (by omega),Za8]
  omega
theorem file_sm{d:Des}(hD:DrawD d)(l:List UInt8)(hl:l.length≤1000000):I6 (fin (cdF d) m0 l)=Uv d l∧(Uv d l=0→(fin (cdF d) m0 l).state=1∧(fin (cdF d) m0 l).stack=[]∧(fin (cdF d) m0 l).sums=[]∧(fin (cdF d) m0 l).read=l.length):=by
 have hp:=hD.pos
 have hB:¬Bad (fin (cdF d) m0 l):=by
  have h:∀(l:List UInt8) (m:Mch),MGd d m→MGd d (l.foldl (fun m c=>Qj (cdF d) true m (c.toNat:Int)) m):=fun l=>by
   induction l with
   |nil=>exact fun m h=>h
   |cons c l ih=>exact fun m h=>ih _ (feed_good hD h _)
  exact(Fr hD (h l m0 (m0_good hD))).1.no8
 have hc:=Uf hD
 have hcl:=Qs hD
 have hmn:=Ua d d.length 0 (by omega)
 have h20:stA d 0=2:=by simp[stA,cdT]
 have c0:(cdF d).code[(0:Int).toNat]?=some ⟨9,(stA d (d.length-1):Int),0⟩:=by rw[hc];rfl
 have c1:(cdF d).code[(1:Int).toNat]?=some ⟨17,0,0⟩:=by rw[hc];rfl
 have e0:=Hf (p:=cdF d) (m:=m0) (l:=l) ⟨rfl,rfl⟩ (by unfold Idx;show(0:Int)≤0∧(0:Int)<_;omega) hB
 have a0:mAt (cdF d) m0=⟨9,(stA d (d.length-1):Int),0⟩:=by unfold mAt;rw[show m0.pc=0 from rfl,c0];rfl
 have p0:Yq m0 ⟨9,(stA d (d.length-1):Int),0⟩={m0 with stack:=[1],pc:=(stA d (d.length-1):Int)}:=by
  simp only[Yq]
  rfl
 rw[a0,p0]at e0
 have hB1:=hB
 rw[e0]at hB1
 have h:=rule_sm hD d.length (d.length-1) (by omega) (by omega) {m0 with stack:=[1],pc:=(stA d (d.length-1):Int)} l [] 1 ⟨rfl,rfl,rfl⟩ rfl rfl hB1
 unfold Uv
 cases e:rdF d (d.length+1) ((d.length-1:Nat):Int) l with
 |error c=>
  simp only
  have h2:=h.2 c e
  rw[←e0]at h2
  refine⟨h2,fun hc0=>?_⟩
  have:=rdF_pos d _ _ _ c e
  omega
 |ok k=>
  simp only
  obtain⟨hkl,g,lf,_,hf⟩:=h.1 k e
  have hf1:=e0.trans hf
  have hB2:=hB
  rw[hf1]at hB2
  obtain⟨M,hM⟩:∃M:Mch,M=(M5 (Vj {m0 with stack:=[1],pc:=(stA d (d.length-1):Int)} (l.take k)) (1) ([]) (g) (lf)):=⟨_,rfl⟩
  rw[←hM]at hf1 hB2
  have e1:=Hf (p:=cdF d) (m:=M) (l:=l.drop k) (by rw[hM];exact⟨rfl,rfl⟩) (by rw[hM];unfold Idx;show(0:Int)≤1∧(1:Int)<_;omega) hB2
  have a1:mAt (cdF d) M=⟨17,0,0⟩:=by unfold mAt;rw[hM];show((cdF d).code[(1:Int).toNat]?).getD _=_;rw[c1];rfl
  have p1:Yq M ⟨17,0,0⟩={M with state:=1}:=by simp[Yq]
  rw[a1,p1]at e1
  have hf2:=hf1.trans e1
  by_cases hlt:k<l.length
  ·rw[if_pos hlt]
   refine⟨?_,fun h=>by omega⟩
   rw[hf2]
   cases hr:l.drop k with
   |nil=>
    have:=congrArg List.length hr
    rw[List.length_drop]at this;simp at this;omega
   |cons c r=>
    have hfd:Qj (cdF d) true {M with state:=1} (c.toNat:Int)=X6 {M with state:=1} 7:=by
     unfold Qj
     rw[Nk (by simp),if_pos rfl]
    rw[Ls,hfd,Vq rfl]
    rfl
  ·rw[if_neg hlt]
   have hk:k=l.length:=by omega
   have hdn:l.drop k=[]:=by rw[hk,List.drop_length]
   rw[hdn]at hf2
   have hfa:fin (cdF d) {M with state:=1} []={M with state:=1}:=Nk (by simp)
   rw[hfa]at hf2
   rw[hf2]
   refine⟨rfl,fun _=>⟨rfl,by rw[hM];rfl,by rw[hM];rfl,?_⟩⟩
   rw[hM,hk,List.take_length]
   show redF 0 l=_
   rw[red_len l 0 (by omega) (by omega)]
   omega
open AV (Mem Wn)
theorem RdV.mono{P:Program}{f:FuncId}{args:List RV}{e e':Got}{b:List UInt8}{a:Nat}(h:RdV P f args e b a)(he:e=e'):RdV P f args e' b a:=he▸h
set_option maxRecDepth 100000 in
set_option maxHeartbeats 16000000 in
theorem Of(d:Des)(x:Rul)(hk:Xi d x)(k7:x.kind=7)(z:Nat)(kl:List Int)(hkk:x.kids=(z:Int)::kl)(hkl:kl.length=x.tags.length)(hkp:∀w∈kl,0≤w)(x0:Rul)(hx0:d[(z:Int).toNat]?=some x0)(hs:1≤x0.size∧x0.size≤4)(b:List UInt8)(hb:b.length≤1048576)(a:Nat)(ha:a≤b.length)(f:Int→List UInt8→Got)
  (IH:∀z∈kl,∀a:Nat,a≤b.length→RdV Tryz.prog 46 [X1 d,.int z,Ya b,.int (a:Int)] (f z (b.drop a)) b a) :
  RdV Tryz.prog 71 [X1 d,.agg (Xz x),Ya b,.int (a:Int)] (bnd (rdI x0.size.toNat (b.drop a)) fun k=>if W7 x.tags (rdN x0.little ((b.drop a).take k))<x.tags.length then rdS f (itL x (rdN x0.little ((b.drop a).take k)) 1) ((b.drop a).drop k) else .error 3) b a:=by
 have hI:=K4 d z x0 hx0 (by omega) b hb a ha
 have hkx:x.kids[(0:Int).toNat]?=some (z:Int):=by rw[hkk];rfl
 by_cases h:b.length-a<x0.size.toNat
 ·rw[if_pos h]at hI
  refine⟨.mk 0 [] [],(a:Int),1,?_,by unfold rdI;rw[List.length_drop,if_pos h];exact Hw rfl (by decide)⟩
  refine Zz Tryz.func71 rfl _ Tryz.ntmps71 (by simp) fun C hn hm=>?_
  repeat' (first
|refine Y0 (id:=1) 30 [10,11] [0,1,2,3,4,5,6,7,8,9,10,11] 12 [] Yc hn rfl (by kernel_rfl) rfl (by decide) (by decide) ?_
|refine RunsT.nil ?_
|refine RunsT.step Zk rfl rfl (fun _=>rfl) (by decide) ?_
|refine RunsT.pur (fun _=>Zi hI rfl) (by decide) rfl rfl ?_
|refine RunsT.pur (fun _=>Z2 rfl) (by decide) rfl rfl ?_
|refine RunsT.pur (fun _=>Zb rfl rfl (by omega) (by assumption)) (by decide) rfl rfl ?_
|refine Zbg Zk hn rfl ?_
|refine Zbh ?_
|refine Za 30 rfl ?_
|(refine Zc hn rfl rfl rfl ?_;first
|refine⟨_,Zi hI rfl,?_⟩
|refine⟨_,Z2 rfl,?_⟩)
|(refine Zbf 30 rfl ?_;first|refine Zg rfl ?_|refine Zm rfl ?_|(refine Ze rfl ?_ ?_;·first|omega|rfl|assumption)|refine Zbe (Zj hm rfl rfl ?_)|exact Zbe (Zf hm rfl rfl rfl (nbT rfl) rfl rfl))
|refine Zs rfl (tl hn rfl) ?_
|refine Z5 rfl rfl rfl rfl (nbT rfl) ?_
|refine Zx (tl hn rfl) ?_
|refine Zr rfl rfl rfl rfl (nbT rfl) ?_
|(refine Zc hn rfl rfl rfl ?_;first
|refine⟨_,Zb rfl rfl (by omega) (by assumption),?_⟩))
  exact Zbf 30 rfl (Zbe (Y1 (i:=2) (v:=.mk 0 [] []) hm rfl rfl rfl rfl rfl rfl Y6 rfl))
 ·rw[if_neg h]at hI
  obtain⟨k,hk0⟩:∃k:Nat,x0.size=k:=⟨x0.size.toNat,by omega⟩
  have hkt:x0.size.toNat=k:=by omega
  rw[hkt,hk0,show(a:Int)+(k:Int)=((a+k:Nat):Int) by omega]at hI
  rw[hkt]at h ⊢
  have hrd:rdI k (b.drop a) = .ok k:=by unfold rdI;rw[List.length_drop,if_neg h]
  have hul:((b.drop a).take k).length=k:=by rw[List.length_take,List.length_drop];omega
  have hN0:=Kg x0.little ((b.drop a).take k)
  generalize hn':rdN x0.little ((b.drop a).take k)=n at hI hN0
  have hIt:=Dp hk n 0 (by omega)
  by_cases ht:W7 x.tags n<x.tags.length
  ·have hw:∃w,Xb x n 0=w∧0≤w∧w∈kl:=by
    have hw:x.kids[W7 x.tags n+1]?=some (kl[W7 x.tags n]'(by omega)):=by rw[hkk,List.getElem?_cons_succ];exact Za6 _
    refine⟨_,rfl,?_⟩
    unfold Xb
    rw[if_neg (by omega),if_neg (by omega),if_pos k7,hw]
    exact⟨hkp _ (List.getElem_mem _),List.getElem_mem _⟩
   obtain⟨w,hw,hw0,hwk⟩:=hw
   rw[hw]at hIt
   obtain⟨v,nx,c,hc,hok⟩:=Qn d x hk n 1 (by omega) b hb (a+k) (by omega) f (fun z hz=>by
    obtain⟨i,hi⟩:=List.getElem?_of_mem hz
    obtain⟨hi1,rfl⟩:=S4 hi
    obtain rfl:i=0:=by omega
    rw[show Xb x n ((0:Nat):Int)=w from hw]
    exact IH w hwk)
   have hc':ACv Tryz.prog 70 [X1 d,.agg (Xz x),.int n,.int 1,Ya b,.int ((a+k:Nat):Int)] (.tup [Gj v,.int nx,.int c]):=hc
   have hokk:RdOk (bnd (rdI k (b.drop a)) fun k=>if W7 x.tags (rdN x0.little ((b.drop a).take k))<x.tags.length then rdS f (itL x (rdN x0.little ((b.drop a).take k)) 1) ((b.drop a).drop k) else .error 3) b a nx c:=by
    refine J8 hrd ?_
    rw[hn',if_pos ht,List.drop_drop]
    exact hok
   by_cases hc0:c=0
   ·refine⟨.mk n v.bytes v.items,nx,c,?_,hokk⟩
    subst hc0
    refine Zz Tryz.func71 rfl _ Tryz.ntmps71 (by simp) fun C hn hm=>?_
    repeat' (first
|refine Y0 (id:=1) 30 [10,11] [0,1,2,3,4,5,6,7,8,9,10,11] 12 [] Yc hn rfl (by kernel_rfl) rfl (by decide) (by decide) ?_
|refine RunsT.nil ?_
|refine RunsT.step Zk rfl rfl (fun _=>rfl) (by decide) ?_
|refine RunsT.pur (fun _=>Zi hI rfl) (by decide) rfl rfl ?_
|refine RunsT.pur (fun _=>Zi hIt rfl) (by decide) rfl rfl ?_
|refine RunsT.pur (fun _=>Zi hc' rfl) (by decide) rfl rfl ?_
|refine RunsT.pur (fun _=>Z2 rfl) (by decide) rfl rfl ?_
|refine RunsT.pur (fun _=>Zb rfl rfl (by omega) (by assumption)) (by decide) rfl rfl ?_
|refine Zbg Zk hn rfl ?_
|refine Zbh ?_
|refine Za 30 rfl ?_
|(refine Zc hn rfl rfl rfl ?_;first
|refine⟨_,Zi hI rfl,?_⟩
|refine⟨_,Zi hIt rfl,?_⟩
|refine⟨_,Zi hc' rfl,?_⟩
|refine⟨_,Z2 rfl,?_⟩)
|(refine Zbf 30 rfl ?_;first|refine Zg rfl ?_|refine Zm rfl ?_|(refine Ze rfl ?_ ?_;·first|omega|rfl|assumption)|refine Zbe (Zj hm rfl rfl ?_)|exact Zbe (Zf hm rfl rfl rfl (nbT rfl) rfl rfl))
|refine Zs rfl (tl hn rfl) ?_
|refine Z5 rfl rfl rfl rfl (nbT rfl) ?_
|refine Zx (tl hn rfl) ?_
|refine Zr rfl rfl rfl rfl (nbT rfl) ?_
|(refine Zc hn rfl rfl rfl ?_;first
|refine⟨_,Zb rfl rfl (by omega) (by assumption),?_⟩))
    exact Zbf 30 rfl (Zbe (Y1 (i:=2) (v:=.mk n v.bytes v.items) hm rfl rfl rfl rfl rfl rfl (Yv [.int n,Ya v.bytes,X3 v.items]) rfl))
   ·refine⟨v,nx,c,?_,hokk⟩
    refine Zz Tryz.func71 rfl _ Tryz.ntmps71 (by simp) fun C hn hm=>?_
    repeat' (first
|refine Y0 (id:=1) 30 [10,11] [0,1,2,3,4,5,6,7,8,9,10,11] 12 [] Yc hn rfl (by kernel_rfl) rfl (by decide) (by decide) ?_
|refine RunsT.nil ?_
|refine RunsT.step Zk rfl rfl (fun _=>rfl) (by decide) ?_
|refine RunsT.pur (fun _=>Zi hI rfl) (by decide) rfl rfl ?_
|refine RunsT.pur (fun _=>Zi hIt rfl) (by decide) rfl rfl ?_
|refine RunsT.pur (fun _=>Zi hc' rfl) (by decide) rfl rfl ?_
|refine RunsT.pur (fun _=>Z2 rfl) (by decide) rfl rfl ?_
|refine RunsT.pur (fun _=>Zb rfl rfl (by omega) (by assumption)) (by decide) rfl rfl ?_
|refine Zbg Zk hn rfl ?_
|refine Zbh ?_
|refine Za 30 rfl ?_
|(refine Zc hn rfl rfl rfl ?_;first
|refine⟨_,Zi hI rfl,?_⟩
|refine⟨_,Zi hIt rfl,?_⟩
|refine⟨_,Zi hc' rfl,?_⟩
|refine⟨_,Z2 rfl,?_⟩)
|(refine Zbf 30 rfl ?_;first|refine Zg rfl ?_|refine Zm rfl ?_|(refine Ze rfl ?_ ?_;·first|omega|rfl|assumption)|refine Zbe (Zj hm rfl rfl ?_)|exact Zbe (Zf hm rfl rfl rfl (nbT rfl) rfl rfl))
|refine Zs rfl (tl hn rfl) ?_
|refine Z5 rfl rfl rfl rfl (nbT rfl) ?_
|refine Zx (tl hn rfl) ?_
|refine Zr rfl rfl rfl rfl (nbT rfl) ?_
|(refine Zc hn rfl rfl rfl ?_;first
|refine⟨_,Zb rfl rfl (by omega) (by assumption),?_⟩))
    exact Zbf 30 rfl (Zbe (Y1 (i:=2) (v:=v) hm rfl rfl rfl rfl rfl rfl (Yv [.int v.number,Ya v.bytes,X3 v.items]) rfl))
  ·have hw:Xb x n 0 = -1:=by
    unfold Xb
    rw[if_neg (by omega),if_neg (by omega),if_pos k7,List.getElem?_eq_none (by rw[hkk,Za8];omega)]
    rfl
   rw[hw]at hIt
   refine⟨.mk 0 [] [],(a:Int),3,?_,by
    refine J8 hrd ?_
    rw[hn',if_neg ht]
    exact .bad (by decide)⟩
   refine Zz Tryz.func71 rfl _ Tryz.ntmps71 (by simp) fun C hn hm=>?_
   repeat' (first
|refine Y0 (id:=1) 30 [10,11] [0,1,2,3,4,5,6,7,8,9,10,11] 12 [] Yc hn rfl (by kernel_rfl) rfl (by decide) (by decide) ?_
|refine RunsT.nil ?_
|refine RunsT.step Zk rfl rfl (fun _=>rfl) (by decide) ?_
|refine RunsT.pur (fun _=>Zi hI rfl) (by decide) rfl rfl ?_
|refine RunsT.pur (fun _=>Zi hIt rfl) (by decide) rfl rfl ?_
|refine RunsT.pur (fun _=>Z2 rfl) (by decide) rfl rfl ?_
|refine RunsT.pur (fun _=>Zb rfl rfl (by omega) (by assumption)) (by decide) rfl rfl ?_
|refine Zbg Zk hn rfl ?_
|refine Zbh ?_
|refine Za 30 rfl ?_
|(refine Zc hn rfl rfl rfl ?_;first
|refine⟨_,Zi hI rfl,?_⟩
|refine⟨_,Zi hIt rfl,?_⟩
|refine⟨_,Z2 rfl,?_⟩)
|(refine Zbf 30 rfl ?_;first|refine Zg rfl ?_|refine Zm rfl ?_|(refine Ze rfl ?_ ?_;·first|omega|rfl|assumption)|refine Zbe (Zj hm rfl rfl ?_)|exact Zbe (Zf hm rfl rfl rfl (nbT rfl) rfl rfl))
|refine Zs rfl (tl hn rfl) ?_
|refine Z5 rfl rfl rfl rfl (nbT rfl) ?_
|refine Zx (tl hn rfl) ?_
|refine Zr rfl rfl rfl rfl (nbT rfl) ?_
|(refine Zc hn rfl rfl rfl ?_;first
|refine⟨_,Zb rfl rfl (by omega) (by assumption),?_⟩))
   exact Zbf 30 rfl (Zbe (Y1 (i:=2) (v:=.mk 0 [] []) hm rfl rfl rfl rfl rfl rfl Y6 rfl))
set_option maxRecDepth 100000 in
set_option maxHeartbeats 16000000 in
theorem Oe(d:Des)(x:Rul)(hk:Xi d x)(b:List UInt8)(hb:b.length≤1048576)(a:Nat)(ha:a≤b.length)(f:Int→List UInt8→Got)
  (IH:∀c:Nat,∀z∈itL x 0 c,∀a:Nat,a≤b.length→RdV Tryz.prog 46 [X1 d,.int z,Ya b,.int (a:Int)] (f z (b.drop a)) b a) :
  RdV Tryz.prog 72 [X1 d,.agg (Xz x),Ya b,.int (a:Int)] (match b.drop a with
   | []=>.error 1
   |c::l'=>if 1<c.toNat then .error 4 else plus 1 (rdS f (itL x 0 c.toNat) l')) b a:=by
 have hbl:(b.map fun z=>[RV.u8 z]).length=b.length:=lmT ..
 by_cases h:a<b.length
 ·obtain⟨y,hy⟩:∃y,b[(a:Int).toNat]?=some y:=⟨_,Za6 h⟩
  have hy':b[a]?=some y:=hy
  rw[Mi hy']
  simp only
  by_cases h1:1<y.toNat
  ·rw[if_pos h1]
   refine⟨.mk 0 [] [],(a:Int),4,?_,.bad (by decide)⟩
   refine Zz Tryz.func72 rfl _ Tryz.ntmps72 (by simp) fun C hn hm=>?_
   repeat' (first
|(refine Zc hn rfl rfl rfl ?_;first
|refine⟨_,Zu b.length rfl hbl,?_⟩)
|refine Zbg Zk hn rfl ?_
|refine Zbh ?_
|refine Za 30 rfl ?_
|(refine Zc hn rfl rfl rfl ?_;first
|refine⟨_,Z2 rfl,?_⟩)
|(refine Zbf 30 rfl ?_;first|(refine Zd rfl ?_ ?_;·first|omega|rfl|assumption|(simp only[lmT];omega))|(refine Ze rfl ?_ ?_;·first|omega|rfl|assumption|(simp only[lmT];omega))|refine Zbe (Zj hm rfl rfl ?_)|exact Zbe (Zf hm rfl rfl rfl (nbT rfl) rfl rfl))
|refine Zs rfl (tl hn rfl) ?_
|refine Zx (tl hn rfl) ?_
|refine Zr rfl rfl rfl rfl (nbT rfl) ?_
|(refine Zc hn rfl rfl rfl ?_;first
|refine⟨_,Zq rfl rfl (by omega),?_⟩
|refine⟨_,Zb rfl rfl (by omega) (by assumption),?_⟩))
   exact Zbf 30 rfl (Zbe (Y1 (i:=2) (v:=.mk 0 [] []) hm rfl rfl rfl rfl rfl rfl Y6 rfl))
  ·rw[if_neg h1]
   obtain⟨v,nx,c,hc,hok⟩:=Qn d x hk 0 y.toNat (by omega) b hb (a+1) (by omega) f (IH y.toNat)
   refine⟨v,nx,c,?_,hok.pl⟩
   rw[show((a+1:Nat):Int)=(a:Int)+1 by omega]at hc
   refine Zz Tryz.func72 rfl _ Tryz.ntmps72 (by simp) fun C hn hm=>?_
   repeat' (first
|refine Y3 (id:=5) 30 [] [0,1,2,3,4,5,6,7,8,9,10,11,12,13] 14 [] Yc hn rfl (by kernel_rfl) rfl .nil (by decide) (by decide) (by decide) ?_
|refine RunsT.pur (fun _=>Zu b.length rfl hbl) (by decide) rfl rfl ?_
|refine RunsT.nil ?_
|refine RunsT.step Zk rfl rfl (fun _=>rfl) (by decide) ?_
|refine RunsT.pur (fun _=>Wv rfl) (by decide) rfl rfl ?_
|refine RunsT.pur (fun _=>Zq rfl rfl (by omega)) (by decide) rfl rfl ?_
|refine RunsT.pur (fun _=>Zi hc rfl) (by decide) rfl rfl ?_
|refine RunsT.pur (fun _=>Z2 rfl) (by decide) rfl rfl ?_
|refine RunsT.pur (fun _=>Zq rfl rfl (by omega)) (by decide) rfl rfl ?_
|refine RunsT.pur (fun _=>Zb rfl rfl (by omega) (by assumption)) (by decide) rfl rfl ?_
|(refine Zc hn rfl rfl rfl ?_;first
|refine⟨_,Zu b.length rfl hbl,?_⟩)
|refine Zbg Zk hn rfl ?_
|refine Zbh ?_
|refine Za 30 rfl ?_
|(refine Zc hn rfl rfl rfl ?_;first
|refine⟨_,Wv rfl,?_⟩
|refine⟨_,Zq rfl rfl (by omega),?_⟩
|refine⟨_,Zi hc rfl,?_⟩
|refine⟨_,Z2 rfl,?_⟩)
|(refine Zbf 30 rfl ?_;first|(refine Zd rfl ?_ ?_;·first|omega|rfl|assumption|(simp only[lmT];omega))|(refine Ze rfl ?_ ?_;·first|omega|rfl|assumption|(simp only[lmT];omega))|refine Zbe (Zj hm rfl rfl ?_)|exact Zbe (Zf hm rfl rfl rfl (nbT rfl) rfl rfl))
|refine Zs rfl (tl hn rfl) ?_
|refine Zx (tl hn rfl) ?_
|refine Zr rfl rfl rfl rfl (nbT rfl) ?_
|(refine Zc hn rfl rfl rfl ?_;first
|refine⟨_,Zq rfl rfl (by omega),?_⟩
|refine⟨_,Zb rfl rfl (by omega) (by assumption),?_⟩))
   exact Zbf 30 rfl (Zbe (Y1 (i:=2) (v:=v) hm rfl rfl rfl rfl rfl rfl (Yv [.int v.number,Ya v.bytes,X3 v.items]) rfl))
 ·rw[List.drop_eq_nil_of_le (show b.length≤a by omega)]
  refine⟨.mk 0 [] [],(a:Int),1,?_,.bad (by decide)⟩
  refine Zz Tryz.func72 rfl _ Tryz.ntmps72 (by simp) fun C hn hm=>?_
  repeat' (first
|(refine Zc hn rfl rfl rfl ?_;first
|refine⟨_,Zu b.length rfl hbl,?_⟩)
|refine Zbg Zk hn rfl ?_
|refine Zbh ?_
|refine Za 30 rfl ?_
|(refine Zc hn rfl rfl rfl ?_;first
|refine⟨_,Z2 rfl,?_⟩)
|(refine Zbf 30 rfl ?_;first|(refine Zd rfl ?_ ?_;·first|omega|rfl|assumption|(simp only[lmT];omega))|(refine Ze rfl ?_ ?_;·first|omega|rfl|assumption|(simp only[lmT];omega))|refine Zbe (Zj hm rfl rfl ?_)|exact Zbe (Zf hm rfl rfl rfl (nbT rfl) rfl rfl))
|refine Zs rfl (tl hn rfl) ?_
|refine Zx (tl hn rfl) ?_
|refine Zr rfl rfl rfl rfl (nbT rfl) ?_
|(refine Zc hn rfl rfl rfl ?_;first
|refine⟨_,Zq rfl rfl (by omega),?_⟩
|refine⟨_,Zb rfl rfl (by omega) (by assumption),?_⟩))
  exact Zbf 30 rfl (Zbe (Y1 (i:=2) (v:=.mk 0 [] []) hm rfl rfl rfl rfl rfl rfl Y6 rfl))
set_option maxRecDepth 100000 in
set_option maxHeartbeats 16000000 in
theorem G7(d:Des)(x:Rul)(hk:Xi d x)(b:List UInt8)(hb:b.length≤1048576)(a:Nat)(ha:a≤b.length)(f:Int→List UInt8→Got)
  (IH:∀z∈itL x 0 1,∀a:Nat,a≤b.length→RdV Tryz.prog 46 [X1 d,.int z,Ya b,.int (a:Int)] (f z (b.drop a)) b a) :
  RdV Tryz.prog 73 [X1 d,.agg (Xz x),Ya b,.int (a:Int)] (bnd (rdS f (itL x 0 1) (b.drop a)) (fun k=>match (b.drop a).drop k with
   | []=>.error 1
   |c::_=>if(c.toNat:Int)=Mo 0 ((b.drop a).take k) then .ok 1 else .error 5)) b a:=by
 have hbl:(b.map fun z=>[RV.u8 z]).length=b.length:=lmT ..
 obtain⟨v,nx,c,hc,hok⟩:=Qn d x hk 0 1 (by omega) b hb a ha f IH
 have hc':ACv Tryz.prog 70 [X1 d,.agg (Xz x),.int 0,.int 1,Ya b,.int (a:Int)] (.tup [Gj v,.int nx,.int c]):=hc
 rcases hok.cases with⟨k,e,rfl,rfl,hk'⟩|⟨e,hc0⟩
 ·by_cases h:a+k<b.length
  ·obtain⟨y,hy⟩:∃y,b[((a+k:Nat):Int).toNat]?=some y:=⟨_,Za6 h⟩
   have hy':b[a+k]?=some y:=hy
   have hyl:=y.toNat_lt
   have hS:=Pj ((b.drop a).take k) (by rw[List.length_take,List.length_drop];omega)
   have hS':ACv Tryz.prog 55 [Ya ((b.drop a).take (((a+k:Nat):Int).toNat-a))] (.int (Mo 0 ((b.drop a).take k))):=by
    rw[show((a+k:Nat):Int).toNat-a=k by omega];exact hS
   by_cases hs:(y.toNat:Int)=Mo 0 ((b.drop a).take k)
   ·refine⟨v,((a+k+1:Nat):Int),0,?_,by
     refine J8 e ?_
     rw[List.drop_drop,Mi hy']
     simp only
     rw[if_pos hs]
     exact RdOk.good (by omega)⟩
    refine Zz Tryz.func73 rfl _ Tryz.ntmps73 (by simp) fun C hn hm=>?_
    repeat' (first
|((first|refine Zc hn rfl rfl rfl ?_|refine Zl rfl rfl ?_);first
|refine⟨_,Zu b.length rfl hbl,?_⟩)
|refine Zbg Zk hn rfl ?_
|refine Zbh ?_
|refine Za 30 rfl ?_
|((first|refine Zc hn rfl rfl rfl ?_|refine Zl rfl rfl ?_);first
|refine⟨_,Wv rfl,?_⟩
|refine⟨_,Zq rfl rfl (by omega),?_⟩
|refine⟨_,Zi hc' rfl,?_⟩
|refine⟨_,Zi hS' rfl,?_⟩
|refine⟨_,Q0 rfl rfl rfl (by omega) (by omega) (by omega),?_⟩
|refine⟨_,Z2 rfl,?_⟩)
|(refine Zbf 30 rfl ?_;first|refine Zm rfl ?_|((first|refine Zd rfl ?_ ?_|refine Zp rfl ?_ ?_);·first|omega|rfl|assumption|(simp only[lmT];omega))|((first|refine Ze rfl ?_ ?_|refine Zn rfl ?_ ?_);·first|omega|rfl|assumption|(simp only[lmT];omega))|refine Zbe (Zj hm rfl rfl ?_)|exact Zbe (Zf hm rfl rfl rfl (nbT rfl) rfl rfl))
|refine Zs rfl (tl hn rfl) ?_
|refine Zx (tl hn rfl) ?_
|refine Zr rfl rfl rfl rfl (nbT rfl) ?_
|refine Zbi Zk hn rfl rfl ?_
|refine Zbj ?_
|refine Zo 30 Yc hn rfl (by kernel_rfl) rfl ?_
|((first|refine Zc hn rfl rfl rfl ?_|refine Zl rfl rfl ?_);first
|refine⟨_,Zq rfl rfl (by omega),?_⟩
|refine⟨_,Zb rfl rfl (by omega) (by assumption),?_⟩))
    exact Zbf 30 rfl (Zbe (Y1 (i:=2) (v:=v) hm rfl rfl rfl rfl (Vh (by omega)) rfl (Yv [.int v.number,Ya v.bytes,X3 v.items]) rfl))
   ·refine⟨.mk 0 [] [],((a+k:Nat):Int),5,?_,by
     refine J8 e ?_
     rw[List.drop_drop,Mi hy']
     simp only
     rw[if_neg hs]
     exact .bad (by decide)⟩
    refine Zz Tryz.func73 rfl _ Tryz.ntmps73 (by simp) fun C hn hm=>?_
    repeat' (first
|((first|refine Zc hn rfl rfl rfl ?_|refine Zl rfl rfl ?_);first
|refine⟨_,Zu b.length rfl hbl,?_⟩)
|refine Zbg Zk hn rfl ?_
|refine Zbh ?_
|refine Za 30 rfl ?_
|((first|refine Zc hn rfl rfl rfl ?_|refine Zl rfl rfl ?_);first
|refine⟨_,Wv rfl,?_⟩
|refine⟨_,Zq rfl rfl (by omega),?_⟩
|refine⟨_,Zi hc' rfl,?_⟩
|refine⟨_,Zi hS' rfl,?_⟩
|refine⟨_,Q0 rfl rfl rfl (by omega) (by omega) (by omega),?_⟩
|refine⟨_,Z2 rfl,?_⟩)
|(refine Zbf 30 rfl ?_;first|refine Zm rfl ?_|((first|refine Zd rfl ?_ ?_|refine Zp rfl ?_ ?_);·first|omega|rfl|assumption|(simp only[lmT];omega))|((first|refine Ze rfl ?_ ?_|refine Zn rfl ?_ ?_);·first|omega|rfl|assumption|(simp only[lmT];omega))|refine Zbe (Zj hm rfl rfl ?_)|exact Zbe (Zf hm rfl rfl rfl (nbT rfl) rfl rfl))
|refine Zs rfl (tl hn rfl) ?_
|refine Zx (tl hn rfl) ?_
|refine Zr rfl rfl rfl rfl (nbT rfl) ?_
|refine Zbi Zk hn rfl rfl ?_
|refine Zbj ?_
|refine Zo 30 Yc hn rfl (by kernel_rfl) rfl ?_
|((first|refine Zc hn rfl rfl rfl ?_|refine Zl rfl rfl ?_);first
|refine⟨_,Zq rfl rfl (by omega),?_⟩
|refine⟨_,Zb rfl rfl (by omega) (by assumption),?_⟩))
    exact Zbf 30 rfl (Zbe (Y1 (i:=2) (v:=.mk 0 [] []) hm rfl rfl rfl rfl rfl rfl Y6 rfl))
  ·refine⟨.mk 0 [] [],((a+k:Nat):Int),1,?_,by
    refine J8 e ?_
    rw[List.drop_drop,List.drop_eq_nil_of_le (show b.length≤a+k by omega)]
    exact .bad (by decide)⟩
   refine Zz Tryz.func73 rfl _ Tryz.ntmps73 (by simp) fun C hn hm=>?_
   repeat' (first
|((first|refine Zc hn rfl rfl rfl ?_|refine Zl rfl rfl ?_);first
|refine⟨_,Zu b.length rfl hbl,?_⟩)
|refine Zbg Zk hn rfl ?_
|refine Zbh ?_
|refine Za 30 rfl ?_
|((first|refine Zc hn rfl rfl rfl ?_|refine Zl rfl rfl ?_);first
|refine⟨_,Zq rfl rfl (by omega),?_⟩
|refine⟨_,Zi hc' rfl,?_⟩
|refine⟨_,Z2 rfl,?_⟩)
|(refine Zbf 30 rfl ?_;first|refine Zm rfl ?_|((first|refine Zd rfl ?_ ?_|refine Zp rfl ?_ ?_);·first|omega|rfl|assumption|(simp only[lmT];omega))|((first|refine Ze rfl ?_ ?_|refine Zn rfl ?_ ?_);·first|omega|rfl|assumption|(simp only[lmT];omega))|refine Zbe (Zj hm rfl rfl ?_)|exact Zbe (Zf hm rfl rfl rfl (nbT rfl) rfl rfl))
|refine Zs rfl (tl hn rfl) ?_
|refine Zx (tl hn rfl) ?_
|refine Zr rfl rfl rfl rfl (nbT rfl) ?_
|refine Zbi Zk hn rfl rfl ?_
|refine Zbj ?_
|refine Zo 30 Yc hn rfl (by kernel_rfl) rfl ?_
|((first|refine Zc hn rfl rfl rfl ?_|refine Zl rfl rfl ?_);first
|refine⟨_,Zq rfl rfl (by omega),?_⟩
|refine⟨_,Zb rfl rfl (by omega) (by assumption),?_⟩))
   exact Zbf 30 rfl (Zbe (Y1 (i:=2) (v:=.mk 0 [] []) hm rfl rfl rfl rfl rfl rfl Y6 rfl))
 ·refine⟨v,nx,c,?_,Hw e hc0⟩
  refine Zz Tryz.func73 rfl _ Tryz.ntmps73 (by simp) fun C hn hm=>?_
  repeat' (first
|((first|refine Zc hn rfl rfl rfl ?_|refine Zl rfl rfl ?_);first
|refine⟨_,Zu b.length rfl hbl,?_⟩)
|refine Zbg Zk hn rfl ?_
|refine Zbh ?_
|refine Za 30 rfl ?_
|((first|refine Zc hn rfl rfl rfl ?_|refine Zl rfl rfl ?_);first
|refine⟨_,Zi hc' rfl,?_⟩
|refine⟨_,Z2 rfl,?_⟩)
|(refine Zbf 30 rfl ?_;first|refine Zm rfl ?_|((first|refine Zd rfl ?_ ?_|refine Zp rfl ?_ ?_);·first|omega|rfl|assumption|(simp only[lmT];omega))|((first|refine Ze rfl ?_ ?_|refine Zn rfl ?_ ?_);·first|omega|rfl|assumption|(simp only[lmT];omega))|refine Zbe (Zj hm rfl rfl ?_)|exact Zbe (Zf hm rfl rfl rfl (nbT rfl) rfl rfl))
|refine Zs rfl (tl hn rfl) ?_
|refine Zx (tl hn rfl) ?_
|refine Zr rfl rfl rfl rfl (nbT rfl) ?_
|refine Zbi Zk hn rfl rfl ?_
|refine Zbj ?_
|refine Zo 30 Yc hn rfl (by kernel_rfl) rfl ?_
|((first|refine Zc hn rfl rfl rfl ?_|refine Zl rfl rfl ?_);first
|refine⟨_,Zq rfl rfl (by omega),?_⟩
|refine⟨_,Zb rfl rfl (by omega) (by assumption),?_⟩))
  exact Zbf 30 rfl (Zbe (Y1 (i:=2) (v:=v) hm rfl rfl rfl rfl rfl rfl (Yv [.int v.number,Ya v.bytes,X3 v.items]) rfl))
structure StV (P:Program) (C:Ctx) (o:Oper) (env:Env) (σ σ':List Ob):Prop where
 run:∀(a:Act) (w:World) (φ:Nat→Option Nat),Good C ⟨w,φ,σ,C.ok⟩→(∀x,x∈o.op.operands→AV.rel ⟨w,φ,σ,C.ok⟩ (ev env x) (a.eval x)) →
  ∃w' φ',(execOp a.eval o).run P w = .ok .skip w'∧Good C ⟨w',φ',σ',C.ok⟩∧Wn (fun _=>True) ⟨w,φ,σ,C.ok⟩ ⟨w',φ',σ',C.ok⟩
def floB(l:List Oper)(m e:Nat):Bool:=
 (List.range m).all (fun i=>match l[i]? with
  |some o=>o.guard.isNone&&(Nat.beq i e || o.dst.isSome)&&(o.after.all fun x => !Region.binds .any x || Nat.ble (x.on+1) i)&&(Ug o).all fun s=>(List.range m).all fun q=>(match l[q]? with
   |some p=>(match p.dst with|some d => !(Nat.beq d s)|none=>true)
   |none=>false) || Mr o q
  |none=>false)&&(List.range l.length).all (fun j=>Nat.ble (j+1) m || match l[j]? with
  |some o=>(List.range m).all fun i=>Mr o i
  |none=>false)&&Nat.ble (e+1) m&&Nat.ble (m+1) l.length
def dstsB(l:List Oper)(m t:Nat):Bool:=(List.range m).any fun i=>match l[i]? with
 |some o=>(match o.dst with|some d=>Nat.beq d t|none=>false)
 |none=>false
section
variable{P:Program}{C:Ctx}{l:List Oper}{k:List Item}{R:Act→World→Prop}{env Ec:Env}{σ σ1:List Ob}
def PurAll(P:Program)(C:Ctx)(Ec:Env)(σ:List Ob):List Oper→Prop
 | []=>True
 |o::L=>(match o.dst with|some d=>d<C.n∧Pur P C o Ec σ (look Ec d)|none=>True)∧PurAll P C Ec σ L
theorem PurAll.at_:∀{L:List Oper},PurAll P C Ec σ L→∀(i:Nat) o d,L[i]?=some o→o.dst=some d→d<C.n∧Pur P C o Ec σ (look Ec d)
 | [],_,i,o,d,h,_=>by simp at h
 |q::L,hL,0,o,d,h,hd=>by
  simp at h;subst h
  have:=hL.1
  rw[hd]at this
  exact this
 |q::L,hL,i+1,o,d,h,hd=>PurAll.at_ hL.2 i o d (by simpa using h) hd
theorem st_storeN{tt:TypeId}{x y:Operand}{i off n:Nat}{o:Ob}{vs:List AV}{ty:TypeId}{pos:String}{after:Array Edge}[TN P tt n](hx:ev env x = .obj i off)(hy:cells? (ev env y)=some vs)(hn:vs.length=n)(ho:σ[i]?=some o)(hlt:off+n≤o.cs.length) :
  StV P C ⟨none,.store tt x y,ty,pos,after,none⟩ env σ (σ.set i ⟨o.t,o.sz,W8 o.cs off vs⟩):=⟨fun a w φ hG hH=>by
 have h:=hH x (by simp[Op.operands])
 rw[hx]at h
 simp only[AV.rel]at h
 obtain⟨hi,g,hg,e⟩:=h
 obtain⟨c1,c2⟩:=Ku (hH y (by simp[Op.operands])) hy
 obtain⟨w',hw,g2,k2⟩:=K6 (P:=P) (C:=C) hg vs (a.eval y).cells.toList w σ o off ho (by omega) (by simpa using c1) (fun j x hj=>by simpa using c2 j x hj) hG
 refine⟨w',φ,?_,g2,k2⟩
 simp[execOp,e,Instr.storeAt,Instr.sureAddr,storeVar,c1,hn,Jm (P:=P) (t:=tt) (n:=n),hw off 0 rfl]⟩
theorem Tu{o:Oper}{v v':AV}(h:Pur P C o env σ v)(e:v=v'):Pur P C o env σ v':=e▸h
theorem R2{m e:Nat}{oe:Oper}(hB:floB l m e=true)(hoe:l[e]?=some oe)(hde:oe.dst=none)(hse:StV P C oe Ec σ σ1)
  (hp0:PurAll P C Ec σ (l.take m)) (hp1:PurAll P C Ec σ1 (l.take m))
  (hsq:Region.seqB .any l.toArray (l.length-m) m (Array.replicate m true++Array.replicate (l.length-m) false)=true) (hk:RunsL P C l.toArray (l.drop m) k R ⟨Ec,σ1⟩) :
  ∀(n:Nat) (listed:Array Bool) (env:Env),((List.range m).filter fun i => !listed.getD i true).length=n→listed.size=l.length→(∀j,m≤j→j<l.length→listed.getD j true=false) →
   (∀t,(∀(i:Nat) o,i<m→listed.getD i true=false→l[i]?=some o→o.dst≠some t)→look env t=look Ec t) →
   RunsA P C l k R (n+(l.length-m)) listed ⟨env,if listed.getD e true=true then σ1 else σ⟩:=by
 unfold floB at hB
 simp only[Bool.and_eq_true,List.all_eq_true,List.mem_range,Bool.or_eq_true]at hB
 obtain⟨⟨⟨hB1,hB2⟩,hB3⟩,hB4⟩:=hB
 have hem:=nbT hB3
 have hml:=nbT hB4
 -- what the check says of an operation of the head
 have hhead:∀i,i<m→∃o,l[i]?=some o∧(o.guard=none∧(i≠e→o.dst.isSome=true))∧(∀x∈o.after,Region.binds .any x=true→x.on<i)∧∀s∈Ug o,∀q p d,q<m→l[q]?=some p→p.dst=some d→d=s→Mr o q=true:=fun i hi=>by
  have h:=hB1 i hi
  cases ho:l[i]? with
  |none=>rw[ho]at h;cases h
  |some o=>
   rw[ho]at h
   simp only[Bool.and_eq_true]at h
   obtain⟨⟨⟨h1,h0⟩,h2⟩,h3⟩:=h
   refine⟨o,rfl,⟨by simpa using h1,fun hne=>?_⟩,fun x hx hb=>?_,fun s hs q p d hq hp hd e=>?_⟩
   ·rcases Bool.or_eq_true _ _▸h0 with h|h
    ·exact absurd (Nat.eq_of_beq_eq_true h) hne
    ·exact h
   ·have:=Array.all_eq_true_iff_forall_mem.1 h2 x hx
    rw[hb]at this
    exact nbT (by simpa using this)
   ·have h4:=List.all_eq_true.1 (List.all_eq_true.1 h3 s hs) q (List.mem_range.2 hq)
    rw[hp]at h4
    simp only[hd]at h4
    subst e
    simpa using h4
 intro n
 induction n with
 |zero=>
  intro listed env hc hls htl hE
  have hall:∀i,i<m→listed.getD i true=true:=fun i hi=>by
   cases h:listed.getD i true with
   |true=>rfl
   |false=>
    exfalso
    have:i∈(List.range m).filter fun i => !listed.getD i true:=List.mem_filter.2 ⟨List.mem_range.2 hi,by rw[h];rfl⟩
    rw[List.eq_nil_of_length_eq_zero hc]at this
    cases this
  have hle:listed=Array.replicate m true++Array.replicate (l.length-m) false:=by
   apply Array.ext
   ·simp[hls];omega
   ·intro i h1 h2
    rcases Nat.lt_or_ge i m with hi|hi
    ·have:=hall i hi
     rw[Array.getD_eq_getD_getElem?,Array.getElem?_eq_getElem h1]at this
     simp[Array.getElem_append,hi]
     simpa using this
    ·have:=htl i hi (by omega)
     rw[Array.getD_eq_getD_getElem?,Array.getElem?_eq_getElem h1]at this
     simp[Array.getElem_append,Nat.not_lt.2 hi]
     simpa using this
  rw[Nat.zero_add,if_pos (hall e (by omega))]
  refine RunsA.seq m (by rw[List.length_drop]) (by rw[hle];exact hsq) ⟨fun a w ⟨h1,h2,φ,h3,h4⟩=>hk.run a w ⟨h1,h2,φ,h3,fun s=>?_⟩⟩
  have:=h4 s
  rwa [hE s fun i o hi hu=>absurd (hall i hi) (by rw[hu];simp)]at this
 |succ n ih=>
  intro listed env hc hls htl hE
  rw[show n+1+(l.length-m)=n+(l.length-m)+1 by omega]
  refine⟨fun a w hS=>⟨fun h0=>?_,fun i hi=>?_⟩⟩
  ·exfalso
   -- the first that is not listed is ready
   have key:∀n i,i≤n→i<m→listed.getD i true=false→False:=by
    intro n
    induction n with
    |zero=>
     intro i h1 h2 h3
     obtain⟨o,ho,_,hlt,_⟩:=hhead i h2
     have:i∈Region.ready .any l.toArray listed:=mem_ready.2 ⟨h3,o,by simpa using ho,fun x hx hb=>by have:=hlt x hx hb;omega⟩
     rw[h0]at this;cases this
    |succ n ihn=>
     intro i h1 h2 h3
     obtain⟨o,ho,_,hlt,_⟩:=hhead i h2
     have:i∈Region.ready .any l.toArray listed:=mem_ready.2 ⟨h3,o,by simpa using ho,fun x hx hb=>by
      have hx1:=hlt x hx hb
      cases hx2:listed.getD x.on true with
      |true=>
       have hxs:x.on<listed.size:=by omega
       simp[hxs]at hx2 ⊢;exact hx2
      |false=>exact(ihn x.on (by omega) (by omega) hx2).elim⟩
     rw[h0]at this;cases this
   obtain⟨i,hi⟩:∃i,i∈(List.range m).filter fun i => !listed.getD i true:=List.exists_mem_of_length_pos (by omega)
   obtain⟨h1,h2⟩:=List.mem_filter.1 hi
   exact key i i (Nat.le_refl _) (List.mem_range.1 h1) (by simpa using h2)
  ·obtain⟨hun,o,ho,hwait⟩:=mem_ready.1 hi
   have ho:l[i]?=some o:=by simpa using ho
   have hil:=(Za5.1 ho).1
   -- it is of the head
   have him:i<m:=by
    rcases Nat.lt_or_ge i m with h|h
    ·exact h
    ·exfalso
     obtain⟨q,hq⟩:∃i,i∈(List.range m).filter fun i => !listed.getD i true:=List.exists_mem_of_length_pos (by omega)
     obtain⟨h1,h2⟩:=List.mem_filter.1 hq
     have hqm:=List.mem_range.1 h1
     have h3:=hB2 i hil
     rcases h3 with h3|h3
     ·have:=nbT h3;omega
     ·rw[ho]at h3
      obtain⟨x,hx,hb,hon⟩:=waitsB_iff.1 (List.all_eq_true.1 h3 q h1)
      have h4:=hwait x hx hb
      rw[hon,getD_both (by simpa using h2)]at h4
      cases h4
   obtain⟨o',ho',⟨hg,hds⟩,hlt,hops⟩:=hhead i him
   rw[ho]at ho';injection ho' with ho';subst ho'
   refine wpOp_atA (by simpa using ho) hg ?_
   -- its operands are there
   have hnd:∀x∈o.op.operands,ev env x=ev Ec x:=fun x hx=>by
    cases x with
    |tmp s=>
     show look env s=look Ec s
     refine hE s fun q p hq hu hp hd=>?_
     obtain⟨x,hx',hb,hon⟩:=waitsB_iff.1 (hops s (Dj hx) q p s hq hp hd rfl)
     have h4:=hwait x hx' hb
     rw[hon,getD_both hu]at h4
     cases h4
    |const v=>rfl
    |func f=>rfl
    |global g=>rfl
   have hcnt:((List.range m).filter fun j => !(listed.setIfInBounds i true).getD j true).length=n:=by
    have e1:∀(r:List Nat),r.Nodup→i∈r→(r.filter fun j => !listed.getD j true).length=(r.filter fun j => !(listed.setIfInBounds i true).getD j true).length+1:=by
     intro r
     induction r with
     |nil=>intro _ h;cases h
     |cons j r ihr=>
      intro hnd hm
      obtain⟨hj,hr⟩:=List.nodup_cons.1 hnd
      rw[List.filter_cons,List.filter_cons]
      by_cases e:j=i
      ·subst e
       have e2:(r.filter fun q => !listed.getD q true)=r.filter fun q => !(listed.setIfInBounds j true).getD q true:=List.filter_congr fun q hq=>by
        rw[Va (listed:=listed) true (fun e=>by subst e;exact hj hq)]
       rw[if_pos (by rw[hun];rfl),if_neg (by rw[W9 true (by omega)];simp),Za8,e2]
      ·have hm':i∈r:=(List.mem_cons.1 hm).resolve_left (fun h=>e h.symm)
       have:=ihr hr hm'
       rw[Va (listed:=listed) true (fun h=>e h.symm)]
       split
       ·rw[Za8,Za8,this]
       ·exact this
    have:=e1 (List.range m) List.nodup_range (List.mem_range.2 him)
    omega
   have hsz:(listed.setIfInBounds i true).size=l.length:=by simp[hls]
   have htl':∀j,m≤j→j<l.length→(listed.setIfInBounds i true).getD j true=false:=fun j h1 h2=>by
    rw[Va (listed:=listed) true (by omega)];exact htl j h1 h2
   obtain⟨h1,h2,φ,h3,h4⟩:=hS
   by_cases hie:i=e
   ·subst hie
    rw[hoe]at ho;injection ho with ho;subst ho
    have hσ:(if listed.getD i true=true then σ1 else σ)=σ:=if_neg (by rw[hun];simp)
    simp only[hσ]at h3 h4
    obtain⟨w',φ',hr,hG,hK⟩:=hse.run a w φ h3 fun x hx=>by rw[←hnd x hx];exact Xy h4 x
    unfold Oper.wp
    rw[hr]
    simp only[Oper.upon]
    rw[hde]
    have hσ':(if(listed.setIfInBounds i true).getD i true=true then σ1 else σ)=σ1:=if_pos (W9 true (by omega))
    have:=ih (listed.setIfInBounds i true) env hcnt hsz htl' fun t ht=>hE t fun q p hq hu hp=>by
     by_cases hqi:q=i
     ·subst hqi
      rw[hoe]at hp;injection hp with hp;subst hp
      rw[hde];simp
     ·exact ht q p hq (by rw[Va (listed:=listed) true (fun h=>hqi h.symm)];exact hu) hp
    rw[hσ']at this
    exact this.run a w' ⟨h1,h2,φ',hG,h4.keeps hK⟩
   ·obtain⟨d,hd⟩:=Option.isSome_iff_exists.1 (hds hie)
    have hti:(l.take m)[i]?=some o:=by rw[List.getElem?_take_of_lt him];exact ho
    obtain⟨hdn,hp0⟩:=hp0.at_ i o d hti hd
    have hp1:=(hp1.at_ i o d hti hd).2
    have hσ:(if(listed.setIfInBounds i true).getD e true=true then σ1 else σ)=(if listed.getD e true=true then σ1 else σ):=by
     rw[Va (listed:=listed) true hie]
    have hpur:Pur P C o Ec (if listed.getD e true=true then σ1 else σ) (look Ec d):=by
     split
     ·exact hp1
     ·exact hp0
    refine hpur.run a ⟨w,φ,_,C.ok⟩ h3 rfl (fun x hx=>by rw[←hnd x hx];exact Xy h4 x) _ _ fun u w' hb hv=>?_
    obtain⟨g1,g2⟩:=Y8 h3 hb
    rw[hd]
    have:=ih (listed.setIfInBounds i true) ((d,look Ec d)::env) hcnt hsz htl' fun t ht=>by
     rw[Yy]
     split
     ·rename_i e;rw[e]
     ·rename_i hne
      refine hE t fun q p hq hu hp=>?_
      by_cases hqi:q=i
      ·subst hqi
       rw[ho]at hp;injection hp with hp;subst hp
       rw[hd];simpa using hne
      ·exact ht q p hq (by rw[Va (listed:=listed) true (fun h=>hqi h.symm)];exact hu) hp
    rw[hσ]at this
    exact this.run _ _ ⟨h1,by simp[Act.put,h2],φ,g1,(h4.keeps g2).put (by rw[h2];exact hdn) hv⟩
theorem O9{id:Nat}{k':List Item}(mm m e:Nat)(D:List (Nat×AV)){oe:Oper}(hf:P.follows .mixedOrders=true)(hc:Proofs.YtnecoghfhcimeaaGreat.ctls mm k = .code (.region id l.toArray true)::k')(hB:floB l m e=true)
  (hsq:Region.seqB .any l.toArray (l.length-m) m (Array.replicate m true++Array.replicate (l.length-m) false)=true) (hD:(D.all fun p=>dstsB l m p.1)=true)
  (hoe:l[e]?=some oe) (hde:oe.dst=none) (hse:StV P C oe (D++env) σ σ1) (hp0:PurAll P C (D++env) σ (l.take m)) (hp1:PurAll P C (D++env) σ1 (l.take m)) (hk:RunsL P C l.toArray (l.drop m) k' R ⟨D++env,σ1⟩):Runs P C k R ⟨env,σ⟩:=by
 have hB':=hB
 unfold floB at hB'
 simp only[Bool.and_eq_true]at hB'
 have hem:=nbT hB'.1.2
 have hml:=nbT hB'.2
 have hrep:∀j,j<l.length→(Array.replicate l.length false).getD j true=false:=fun j hj=>by simp[hj]
 refine R3 mm hf hc ?_
 have:=R2 hB hoe hde hse hp0 hp1 hsq hk
 have:=this m (Array.replicate l.length false) env (by
  rw[List.filter_eq_self.2 fun i hi=>by rw[hrep i (by have:=List.mem_range.1 hi;omega)];rfl,List.length_range]) (by simp) (fun j _ h=>hrep j h) (fun t ht=>by
  have hk:∀D:List (Nat×AV),(D.all fun p=>dstsB l m p.1)=true→look (D++env) t=look env t:=fun D=>by
   induction D with
   |nil=>intro _;rfl
   |cons p D ihD=>
    intro h
    simp only[List.all_cons,Bool.and_eq_true]at h
    rw[List.cons_append]
    obtain⟨p1,p2⟩:=p
    rw[Yy,if_neg,ihD h.2]
    rintro rfl
    have h1:=h.1
    unfold dstsB at h1
    obtain⟨i,hi,hb⟩:=List.any_eq_true.1 h1
    have him:=List.mem_range.1 hi
    cases ho:l[i]? with
    |none=>rw[ho]at hb;cases hb
    |some o=>
     rw[ho]at hb
     simp only at hb
     cases hd:o.dst with
     |none=>rw[hd]at hb;cases hb
     |some d=>
      rw[hd]at hb
      exact ht i o him (hrep i (by omega)) ho (by rw[hd,Nat.eq_of_beq_eq_true hb])
  exact(hk D hD).symm)
 rw[if_neg (by rw[hrep e (by omega)];simp),show m+(l.length-m)=l.length by omega]at this
 exact this
end
set_option maxRecDepth 100000 in
set_option maxHeartbeats 16000000 in
theorem P9(x:Rul)(hbl:x.bytes.length≤1000)(b:List UInt8)(hb:b.length≤1048576)(a:Nat)(ha:a≤b.length):ACv Tryz.prog 67 [.agg (Xz x),Ya b,.int (a:Int)] (.tup [Gj (.mk 0 [] []),.int (cR b a x.bytes a).1,.int (cR b a x.bytes a).2]):=by
 have hl1:(b.map fun z=>[RV.u8 z]).length=b.length:=lmT ..
 have hl2:(x.bytes.map fun z=>[RV.u8 z]).length=x.bytes.length:=lmT ..
 refine Zz Tryz.func67 rfl _ Tryz.ntmps67 (by simp) fun C hn hm=>?_
 repeat' (first
|refine Zbg Zk hn rfl ?_
|refine Zbh ?_
|refine Za 30 rfl ?_
|(refine Zbf 30 rfl ?_;first|((first|refine Zd rfl ?_ ?_|refine Zp rfl ?_ ?_);·first|omega|rfl|assumption|(simp only[lmT];omega))|((first|refine Ze rfl ?_ ?_|refine Zn rfl ?_ ?_);·first|omega|rfl|assumption|(simp only[lmT];omega))|refine Zbe (Zj hm rfl rfl ?_)|exact Zbe (Zf hm rfl rfl rfl (nbT rfl) rfl rfl))
|refine Zs rfl (tl hn rfl) ?_
|refine Zx (tl hn rfl) ?_
|refine Zr rfl rfl rfl rfl (nbT rfl) ?_
|refine Zbi Zk hn rfl rfl ?_
|refine Zbj ?_
|refine Zo 30 Yc hn rfl (by kernel_rfl) rfl ?_
|((first|refine Zc hn rfl rfl rfl ?_|refine Zl rfl rfl ?_);first
|refine⟨_,Zq rfl rfl (by omega),?_⟩
|refine⟨_,Zb rfl rfl (by omega) (by assumption),?_⟩))
 refine Yh 30 rfl (fun j=>[(1,.ro (Ya b)),(2,.int (a:Int)),(3,.obj 0 0),(6,.obj 1 0),(9,.int (j:Int))]) (fun _=>[⟨78,0,(Xz x).map .ro⟩,⟨36,0,[.int 0,.nil,.nil]⟩]) (fun j=>cR b a (x.bytes.drop j) (a+j)=cR b a x.bytes a) x.bytes.length 0 (Nat.zero_le _) rfl ⟨rfl,rfl,rfl,rfl,rfl,trivial⟩ rfl fun j hj hQ next=>?_
 by_cases hlt:j<x.bytes.length
 ·obtain⟨c,hc⟩:∃c,x.bytes[(j:Int).toNat]?=some c:=⟨_,Za6 hlt⟩
  have hc':x.bytes[j]?=some c:=hc
  rw[Mi hc',cR]at hQ
  by_cases hend:b.length≤a+j
  ·rw[if_pos hend]at hQ
   rw[←hQ]
   repeat' (first
|((first|refine Zc hn rfl rfl rfl ?_|refine Zl rfl rfl ?_);first
|refine⟨_,Zu b.length rfl hl1,?_⟩
|refine⟨_,Zu x.bytes.length rfl hl2,?_⟩)
|refine Zbg Zk hn rfl ?_
|refine Zbh ?_
|refine Za 30 rfl ?_
|((first|refine Zc hn rfl rfl rfl ?_|refine Zl rfl rfl ?_);first
|refine⟨_,Zq rfl rfl (by omega),?_⟩
|refine⟨_,Z2 rfl,?_⟩)
|(refine Zbf 30 rfl ?_;first|((first|refine Zd rfl ?_ ?_|refine Zp rfl ?_ ?_);·first|omega|rfl|assumption|(simp only[lmT];omega))|((first|refine Ze rfl ?_ ?_|refine Zn rfl ?_ ?_);·first|omega|rfl|assumption|(simp only[lmT];omega))|refine Zbe (Zj hm rfl rfl ?_)|exact Zbe (Zf hm rfl rfl rfl (nbT rfl) rfl rfl))
|refine Zs rfl (tl hn rfl) ?_
|refine Zx (tl hn rfl) ?_
|refine Zr rfl rfl rfl rfl (nbT rfl) ?_
|refine Zbi Zk hn rfl rfl ?_
|refine Zbj ?_
|refine Zo 30 Yc hn rfl (by kernel_rfl) rfl ?_
|((first|refine Zc hn rfl rfl rfl ?_|refine Zl rfl rfl ?_);first
|refine⟨_,Zq rfl rfl (by omega),?_⟩
|refine⟨_,Zb rfl rfl (by omega) (by assumption),?_⟩))
   exact Zbf 30 rfl (Zbe (Y1 (i:=1) (v:=.mk 0 [] []) hm rfl rfl rfl rfl rfl rfl Y6 rfl))
  ·rw[if_neg hend]at hQ
   obtain⟨y,hy⟩:∃y,b[((a:Int)+(j:Int)).toNat]?=some y:=⟨_,Za6 (by omega)⟩
   have hy':b[a+j]?=some y:=by rw[show((a:Int)+(j:Int)).toNat=a+j by omega]at hy;exact hy
   rw[hy']at hQ
   by_cases e:y=c
   ·rw[if_pos (by rw[e])]at hQ
    subst e
    repeat' (first
|((first|refine Zc hn rfl rfl rfl ?_|refine Zl rfl rfl ?_);first
|refine⟨_,Zu b.length rfl hl1,?_⟩
|refine⟨_,Zu x.bytes.length rfl hl2,?_⟩)
|refine Zbg Zk hn rfl ?_
|refine Zbh ?_
|refine Za 30 rfl ?_
|((first|refine Zc hn rfl rfl rfl ?_|refine Zl rfl rfl ?_);first
|refine⟨_,Zq rfl rfl (by omega),?_⟩
|refine⟨_,Z2 rfl,?_⟩)
|(refine Zbf 30 rfl ?_;first|((first|refine Zd rfl ?_ ?_|refine Zp rfl ?_ ?_);·first|omega|rfl|assumption|(simp only[lmT];omega))|((first|refine Ze rfl ?_ ?_|refine Zn rfl ?_ ?_);·first|omega|rfl|assumption|(simp only[lmT];omega))|refine Zbe (Zj hm rfl rfl ?_)|exact Zbe (Zf hm rfl rfl rfl (nbT rfl) rfl rfl))
|refine Zs rfl (tl hn rfl) ?_
|refine Zx (tl hn rfl) ?_
|refine Zr rfl rfl rfl rfl (nbT rfl) ?_
|refine Zbi Zk hn rfl rfl ?_
|refine Zbj ?_
|refine Zo 30 Yc hn rfl (by kernel_rfl) rfl ?_
|((first|refine Zc hn rfl rfl rfl ?_|refine Zl rfl rfl ?_);first
|refine⟨_,Zq rfl rfl (by omega),?_⟩
|refine⟨_,Zb rfl rfl (by omega) (by assumption),?_⟩))
    exact next _ _ ⟨rfl,rfl,rfl,rfl,rfl,trivial⟩ hlt (by rw[←hQ];rfl) rfl
   ·rw[if_neg (fun e'=>e (by injection e'))]at hQ
    have hyc:¬(y.toNat:Int)=(c.toNat:Int):=fun h=>e (UInt8.toNat_inj.1 (by omega))
    rw[←hQ]
    repeat' (first
|((first|refine Zc hn rfl rfl rfl ?_|refine Zl rfl rfl ?_);first
|refine⟨_,Zu b.length rfl hl1,?_⟩
|refine⟨_,Zu x.bytes.length rfl hl2,?_⟩)
|refine Zbg Zk hn rfl ?_
|refine Zbh ?_
|refine Za 30 rfl ?_
|((first|refine Zc hn rfl rfl rfl ?_|refine Zl rfl rfl ?_);first
|refine⟨_,Zq rfl rfl (by omega),?_⟩
|refine⟨_,Z2 rfl,?_⟩)
|(refine Zbf 30 rfl ?_;first|((first|refine Zd rfl ?_ ?_|refine Zp rfl ?_ ?_);·first|omega|rfl|assumption|(simp only[lmT];omega))|((first|refine Ze rfl ?_ ?_|refine Zn rfl ?_ ?_);·first|omega|rfl|assumption|(simp only[lmT];omega))|refine Zbe (Zj hm rfl rfl ?_)|exact Zbe (Zf hm rfl rfl rfl (nbT rfl) rfl rfl))
|refine Zs rfl (tl hn rfl) ?_
|refine Zx (tl hn rfl) ?_
|refine Zr rfl rfl rfl rfl (nbT rfl) ?_
|refine Zbi Zk hn rfl rfl ?_
|refine Zbj ?_
|refine Zo 30 Yc hn rfl (by kernel_rfl) rfl ?_
|((first|refine Zc hn rfl rfl rfl ?_|refine Zl rfl rfl ?_);first
|refine⟨_,Zq rfl rfl (by omega),?_⟩
|refine⟨_,Zb rfl rfl (by omega) (by assumption),?_⟩))
    exact Zbf 30 rfl (Zbe (Y1 (i:=1) (v:=.mk 0 [] []) hm rfl rfl rfl rfl (Vh (by omega)) rfl Y6 rfl))
 ·obtain rfl:j=x.bytes.length:=by omega
  rw[List.drop_length,cR]at hQ
  rw[←hQ]
  repeat' (first
|refine O9 (id:=8) 30 7 6 [(46,.int ((a:Int)+x.bytes.length)),(45,.int x.bytes.length),(44,.ro (Ya x.bytes)),(43,.obj 0 4),(42,.int a),(41,.ro (.agg [.int 0,.nil,.nil]))] Yc rfl (by kernel_rfl) (by kernel_rfl) (by kernel_rfl) rfl rfl (σ1:=[⟨78,0,(Xz x).map .ro⟩,⟨36,0,[.int 0,.nil,.nil]⟩]) ?_ ?_ ?_ ?_
|((first|refine Zc hn rfl rfl rfl ?_|refine Zl rfl rfl ?_);first
|refine⟨_,Zu x.bytes.length rfl hl2,?_⟩)
|refine Zbg Zk hn rfl ?_
|refine Zbh ?_
|refine Za 30 rfl ?_
|(refine Zbf 30 rfl ?_;first|((first|refine Zd rfl ?_ ?_|refine Zp rfl ?_ ?_);·first|omega|rfl|assumption|(simp only[lmT];omega))|((first|refine Ze rfl ?_ ?_|refine Zn rfl ?_ ?_);·first|omega|rfl|assumption|(simp only[lmT];omega))|refine Zbe (Zj hm rfl rfl ?_)|exact Zbe (Zf hm rfl rfl rfl (nbT rfl) rfl rfl))
|refine Zs rfl (tl hn rfl) ?_
|refine Zx (tl hn rfl) ?_
|refine Zr rfl rfl rfl rfl (nbT rfl) ?_
|refine Zbi Zk hn rfl rfl ?_
|refine Zbj ?_
|refine Zo 30 Yc hn rfl (by kernel_rfl) rfl ?_
|((first|refine Zc hn rfl rfl rfl ?_|refine Zl rfl rfl ?_);first
|refine⟨_,Zq rfl rfl (by omega),?_⟩
|refine⟨_,Zb rfl rfl (by omega) (by assumption),?_⟩))
  ·exact st_storeN (i:=1) (off:=0) (n:=3) (o:=⟨36,0,[.int 0,.nil,.nil]⟩) (vs:=[.int 0,.nil,.nil]) rfl rfl rfl rfl (nbT rfl)
  ·refine⟨⟨tl hn rfl,Tu (Z2 rfl) rfl⟩,⟨tl hn rfl,Tu (Yw Zk rfl) rfl⟩,⟨tl hn rfl,Tu (Yw Zk rfl) rfl⟩,⟨tl hn rfl,Tu (Yw Zk rfl) rfl⟩,⟨tl hn rfl,Zu x.bytes.length rfl hl2⟩,⟨tl hn rfl,Zq rfl rfl (by omega)⟩,trivial,trivial⟩
  ·refine⟨⟨tl hn rfl,Tu (Z2 rfl) rfl⟩,⟨tl hn rfl,Tu (Yw Zk rfl) rfl⟩,⟨tl hn rfl,Tu (Yw Zk rfl) rfl⟩,⟨tl hn rfl,Tu (Yw Zk rfl) rfl⟩,⟨tl hn rfl,Zu x.bytes.length rfl hl2⟩,⟨tl hn rfl,Zq rfl rfl (by omega)⟩,trivial,trivial⟩
  exact Zbf 30 rfl (Zbe (Y1 (i:=1) (v:=.mk 0 [] []) hm rfl rfl rfl rfl (Vh (by omega)) rfl Y6 rfl))
theorem til_err(t:UInt8):∀(N:Nat) (l:List UInt8),l.length≤N→∀c,til t l = .error c→c=1
 |_,[],_,c,h=>by rw[til]at h;injection h with h;exact h.symm
 |0,c::l,h,_,_=>by simp at h
 |N+1,c::l,hl,e,h=>by
  rw[Za8]at hl
  have key:∀(k:Nat) (l':List UInt8),l'.length≤N→plus k (til t l') = .error e→e=1:=fun k l' h1 h2=>by
   cases h3:til t l' with
   |ok j=>rw[h3]at h2;simp[plus]at h2
   |error c'=>rw[h3]at h2;simp[plus]at h2;subst h2;exact til_err t N l' h1 _ h3
  rw[Qy]at h
  split at h
  ·cases h
  split at h
  ·cases l with
   |nil=>injection h with h;exact h.symm
   |cons c2 l=>exact key 2 l (by rw[Za8]at hl;omega) h
  ·exact key 1 l (by omega) h
theorem til_le(t:UInt8):∀(N:Nat) (l:List UInt8),l.length≤N→∀k,til t l = .ok k→k≤l.length
 |_,[],_,k,h=>by rw[til]at h;cases h
 |0,c::l,h,_,_=>by simp at h
 |N+1,c::l,hl,e,h=>by
  rw[Za8]at hl
  have key:∀(k:Nat) (l':List UInt8),l'.length≤N→plus k (til t l') = .ok e→e≤k+l'.length:=fun k l' h1 h2=>by
   cases h3:til t l' with
   |ok j=>rw[h3]at h2;simp[plus]at h2;subst h2;have:=til_le t N l' h1 _ h3;omega
   |error c'=>rw[h3]at h2;simp[plus]at h2
  rw[Qy]at h
  rw[Za8]
  split at h
  ·injection h with h;omega
  split at h
  ·cases l with
   |nil=>cases h
   |cons c2 l=>have:=key 2 l (by rw[Za8]at hl;omega) h;rw[Za8];omega
  ·have:=key 1 l (by omega) h;omega
section
variable{d:Des}(hD:DrawD d){b:List UInt8}(hb:b.length≤1048576){n j:Nat}{x:Rul}(hx:d[j]?=some x){a:Nat}(ha:a≤b.length)
include hD hb hx ha
theorem tm_kid{z:Int}(hz:0≤z)(hz0:∃x0,d[z.toNat]?=some x0∧x0.kind=1):∃x0,d[z.toNat]?=some x0∧ru d z=x0∧1≤x0.size∧x0.size≤3:=by
 obtain⟨x0,h0,h1⟩:=hz0
 obtain⟨k',_,_,hr,hk',_,_⟩:=hD.kinds h0
 have:=hr.hsize.1 (by omega)
 exact⟨x0,h0,by unfold ru;rw[h0];rfl,this.1,this.2⟩
set_option maxRecDepth 100000 in
set_option maxHeartbeats 16000000 in
theorem l11Read1(k:x.kind=1)(hs:1≤x.size∧x.size≤3):RdV Tryz.prog 46 [X1 d,.int (j:Int),Ya b,.int (a:Int)] (rdI x.size.toNat (b.drop a)) b a:=by
 have hx':d[(j:Int).toNat]?=some x:=hx
 have hI:=K4 d j x hx' (by omega) b hb a ha
 have hlm:(d.map Xz).length=d.length:=lmT ..
 by_cases h:b.length-a<x.size.toNat
 ·rw[if_pos h]at hI
  refine⟨.mk 0 [] [],(a:Int),1,?_,by unfold rdI;rw[List.length_drop,if_pos h];exact .bad (by decide)⟩
  refine Zz Tryz.func46 rfl _ Tryz.ntmps46 (by simp) fun C hn hm=>?_
  repeat' (first
|refine Zbg Zk hn rfl ?_
|refine Zbh ?_
|refine Za 30 rfl ?_
|(refine Zc hn rfl rfl rfl ?_;first
|refine⟨_,Zi hI rfl,?_⟩
|refine⟨_,Z2 rfl,?_⟩)
|(refine Zbf 30 rfl ?_;first|refine Zg rfl ?_|refine Zm rfl ?_|(refine Zd rfl ?_ ?_;·first|omega|rfl|assumption|(simp only[lmT];omega))|refine Zbe (Zj hm rfl rfl ?_)|exact Zbe (Zf hm rfl rfl rfl (nbT rfl) rfl rfl))
|refine Zs rfl (tl hn rfl) ?_
|refine Zx (tl hn rfl) ?_
|refine Zr rfl rfl rfl rfl (nbT rfl) ?_
|(refine Zc hn rfl rfl rfl ?_;first
|refine⟨_,Zb rfl rfl (by omega) (by assumption),?_⟩))
  exact Zbf 30 rfl (Zbe (Y1 (i:=1) (v:=.mk 0 [] []) hm rfl rfl rfl rfl rfl rfl Y6 rfl))
 ·rw[if_neg h]at hI
  refine⟨.mk (rdN x.little ((b.drop a).take x.size.toNat)) [] [],(a:Int)+x.size,0,?_,by
   unfold rdI;rw[List.length_drop,if_neg h]
   rw[show(a:Int)+x.size=((a+x.size.toNat:Nat):Int) by omega]
   exact .good (by omega)⟩
  refine Zz Tryz.func46 rfl _ Tryz.ntmps46 (by simp) fun C hn hm=>?_
  repeat' (first
|refine Zbg Zk hn rfl ?_
|refine Zbh ?_
|refine Za 30 rfl ?_
|(refine Zc hn rfl rfl rfl ?_;first
|refine⟨_,Zi hI rfl,?_⟩
|refine⟨_,Z2 rfl,?_⟩)
|(refine Zbf 30 rfl ?_;first|refine Zg rfl ?_|refine Zm rfl ?_|(refine Zd rfl ?_ ?_;·first|omega|rfl|assumption|(simp only[lmT];omega))|refine Zbe (Zj hm rfl rfl ?_)|exact Zbe (Zf hm rfl rfl rfl (nbT rfl) rfl rfl))
|refine Zs rfl (tl hn rfl) ?_
|refine Zx (tl hn rfl) ?_
|refine Zr rfl rfl rfl rfl (nbT rfl) ?_
|(refine Zc hn rfl rfl rfl ?_;first
|refine⟨_,Zb rfl rfl (by omega) (by assumption),?_⟩))
  exact Zbf 30 rfl (Zbe (Y1 (i:=1) (v:=.mk (rdN x.little ((b.drop a).take x.size.toNat)) [] []) hm rfl rfl rfl rfl rfl rfl (.cons .ro (.cons (Lends.nil 1) (.cons (Lends.nil 3) .nil))) rfl))
set_option maxRecDepth 100000 in
set_option maxHeartbeats 16000000 in
theorem l11Read2(k:x.kind=2)(hbl:x.bytes.length≤1000):RdV Tryz.prog 46 [X1 d,.int (j:Int),Ya b,.int (a:Int)] (H2 x.bytes (b.drop a)) b a:=by
 have hx':d[(j:Int).toNat]?=some x:=hx
 have hC:=P9 x hbl b hb a ha
 have hlm:(d.map Xz).length=d.length:=lmT ..
 refine⟨.mk 0 [] [],(cR b a x.bytes a).1,(cR b a x.bytes a).2,?_,cR_ok b a x.bytes a ha⟩
 generalize cR b a x.bytes a=r at hC
 refine Zz Tryz.func46 rfl _ Tryz.ntmps46 (by simp) fun C hn hm=>?_
 repeat' (first
|refine Zbg Zk hn rfl ?_
|refine Zbh ?_
|refine Za 30 rfl ?_
|(refine Zc hn rfl rfl rfl ?_;first
|refine⟨_,Zi hC rfl,?_⟩)
|(refine Zbf 30 rfl ?_;first|(refine Zd rfl ?_ ?_;·first|omega|rfl|assumption|(simp only[lmT];omega))|(refine Ze rfl ?_ ?_;·first|omega|rfl|assumption|(simp only[lmT];omega))|refine Zbe (Zj hm rfl rfl ?_)|exact Zbe (Zf hm rfl rfl rfl (nbT rfl) rfl rfl))
|refine Zs rfl (tl hn rfl) ?_
|refine Zx (tl hn rfl) ?_
|refine Zr rfl rfl rfl rfl (nbT rfl) ?_
|(refine Zc hn rfl rfl rfl ?_;first
|refine⟨_,Zb rfl rfl (by omega) (by assumption),?_⟩))
 exact Zbf 30 rfl (Zbe (Y1 (i:=1) (v:=.mk 0 [] []) hm rfl rfl rfl rfl rfl rfl (Yv [.int 0,Ya [],X3 []]) rfl))
set_option maxRecDepth 100000 in
set_option maxHeartbeats 16000000 in
theorem l11Read3(k:x.kind=3)(hs:1≤x.size∧x.size≤4):RdV Tryz.prog 46 [X1 d,.int (j:Int),Ya b,.int (a:Int)] (rdI x.size.toNat (b.drop a)) b a:=by
 have hx':d[(j:Int).toNat]?=some x:=hx
 obtain⟨v,nx,c,hC,hok⟩:=Ds b hb a ha x.size (by omega)
 have hlm:(d.map Xz).length=d.length:=lmT ..
 refine⟨v,nx,c,?_,hok⟩
 refine Zz Tryz.func46 rfl _ Tryz.ntmps46 (by simp) fun C hn hm=>?_
 repeat' (first
|refine Zbg Zk hn rfl ?_
|refine Zbh ?_
|refine Za 30 rfl ?_
|(refine Zc hn rfl rfl rfl ?_;first
|refine⟨_,Zi hC rfl,?_⟩)
|(refine Zbf 30 rfl ?_;first|(refine Zd rfl ?_ ?_;·first|omega|rfl|assumption|(simp only[lmT];omega))|(refine Ze rfl ?_ ?_;·first|omega|rfl|assumption|(simp only[lmT];omega))|refine Zbe (Zj hm rfl rfl ?_)|exact Zbe (Zf hm rfl rfl rfl (nbT rfl) rfl rfl))
|refine Zs rfl (tl hn rfl) ?_
|refine Zx (tl hn rfl) ?_
|refine Zr rfl rfl rfl rfl (nbT rfl) ?_
|(refine Zc hn rfl rfl rfl ?_;first
|refine⟨_,Zb rfl rfl (by omega) (by assumption),?_⟩))
 exact Zbf 30 rfl (Zbe (Y1 (i:=1) (v:=v) hm rfl rfl rfl rfl rfl rfl (Yv [.int v.number,Ya v.bytes,X3 v.items]) rfl))
set_option maxRecDepth 100000 in
set_option maxHeartbeats 16000000 in
theorem l11Read10(k:x.kind=10)(t:UInt8)(ht:x.bytes=[t]):RdV Tryz.prog 46 [X1 d,.int (j:Int),Ya b,.int (a:Int)] (til t (b.drop a)) b a:=by
 have hx':d[(j:Int).toNat]?=some x:=hx
 have hT:=N4 b hb a ha t
 have hlm:(d.map Xz).length=d.length:=lmT ..
 have hxb:x.bytes[(0:Int).toNat]?=some t:=by rw[ht];rfl
 unfold Ph at hT
 cases e:til t (b.drop a) with
 |error c=>
  rw[e]at hT
  simp only at hT
  have hc:c=1:=til_err t _ _ (Nat.le_refl _) c e
  subst hc
  refine⟨.mk 0 [] [],(a:Int),1,?_,.bad (by decide)⟩
  refine Zz Tryz.func46 rfl _ Tryz.ntmps46 (by simp) fun C hn hm=>?_
  repeat' (first
|refine Zbg Zk hn rfl ?_
|refine Zbh ?_
|refine Za 30 rfl ?_
|(refine Zc hn rfl rfl rfl ?_;first
|refine⟨_,Zi hT rfl,?_⟩
|refine⟨_,Z2 rfl,?_⟩)
|(refine Zbf 30 rfl ?_;first|refine Zg rfl ?_|refine Zm rfl ?_|(refine Zd rfl ?_ ?_;·first|omega|rfl|assumption|(simp only[lmT];omega))|(refine Ze rfl ?_ ?_;·first|omega|rfl|assumption|(simp only[lmT];omega))|refine Zbe (Zj hm rfl rfl ?_)|exact Zbe (Zf hm rfl rfl rfl (nbT rfl) rfl rfl))
|refine Zs rfl (tl hn rfl) ?_
|refine Zx (tl hn rfl) ?_
|refine Zr rfl rfl rfl rfl (nbT rfl) ?_
|(refine Zc hn rfl rfl rfl ?_;first
|refine⟨_,Zb rfl rfl (by omega) (by assumption),?_⟩))
  exact Zbf 30 rfl (Zbe (Y1 (i:=1) (v:=.mk 0 [] []) hm rfl rfl rfl rfl rfl rfl Y6 rfl))
 |ok k'=>
  rw[e]at hT
  simp only at hT
  have hkl:=til_le t _ _ (Nat.le_refl _) k' e
  rw[List.length_drop]at hkl
  refine⟨.mk 0 ([]++tilV t (b.drop a)) [],((a+k':Nat):Int),0,?_,.good (by omega)⟩
  refine Zz Tryz.func46 rfl _ Tryz.ntmps46 (by simp) fun C hn hm=>?_
  repeat' (first
|refine Zbg Zk hn rfl ?_
|refine Zbh ?_
|refine Za 30 rfl ?_
|(refine Zc hn rfl rfl rfl ?_;first
|refine⟨_,Zi hT rfl,?_⟩
|refine⟨_,Z2 rfl,?_⟩)
|(refine Zbf 30 rfl ?_;first|refine Zg rfl ?_|refine Zm rfl ?_|(refine Zd rfl ?_ ?_;·first|omega|rfl|assumption|(simp only[lmT];omega))|(refine Ze rfl ?_ ?_;·first|omega|rfl|assumption|(simp only[lmT];omega))|refine Zbe (Zj hm rfl rfl ?_)|exact Zbe (Zf hm rfl rfl rfl (nbT rfl) rfl rfl))
|refine Zs rfl (tl hn rfl) ?_
|refine Zx (tl hn rfl) ?_
|refine Zr rfl rfl rfl rfl (nbT rfl) ?_
|(refine Zc hn rfl rfl rfl ?_;first
|refine⟨_,Zb rfl rfl (by omega) (by assumption),?_⟩))
  exact Zbf 30 rfl (Zbe (Y1 (i:=1) (v:=.mk 0 ([]++tilV t (b.drop a)) []) hm rfl rfl rfl rfl rfl rfl (.cons .ro (.cons .ro (.cons (Lends.nil 3) .nil))) rfl))
set_option maxRecDepth 100000 in
set_option maxHeartbeats 16000000 in
theorem l11Read6(k:x.kind=6)(hk:Xi d x)(hkl:x.kids.length≤1000)(f:Int→List UInt8→Got)(IH:∀z∈itL x 0 x.kids.length,∀a:Nat,a≤b.length→RdV Tryz.prog 46 [X1 d,.int z,Ya b,.int (a:Int)] (f z (b.drop a)) b a):RdV Tryz.prog 46 [X1 d,.int (j:Int),Ya b,.int (a:Int)] (rdS f (itL x 0 x.kids.length) (b.drop a)) b a:=by
 have hx':d[(j:Int).toNat]?=some x:=hx
 obtain⟨v,nx,c,hC,hok⟩:=Qn d x hk 0 x.kids.length hkl b hb a ha f IH
 have hlm:(d.map Xz).length=d.length:=lmT ..
 have hkk:(x.kids.map fun z=>[RV.int z]).length=x.kids.length:=lmT ..
 refine⟨v,nx,c,?_,hok⟩
 refine Zz Tryz.func46 rfl _ Tryz.ntmps46 (by simp) fun C hn hm=>?_
 repeat' (first
|(refine Zc hn rfl rfl rfl ?_;first
|refine⟨_,Zu x.kids.length rfl hkk,?_⟩)
|refine Zbg Zk hn rfl ?_
|refine Zbh ?_
|refine Za 30 rfl ?_
|(refine Zc hn rfl rfl rfl ?_;first
|refine⟨_,Zi hC rfl,?_⟩)
|(refine Zbf 30 rfl ?_;first|(refine Zd rfl ?_ ?_;·first|omega|rfl|assumption|(simp only[lmT];omega))|(refine Ze rfl ?_ ?_;·first|omega|rfl|assumption|(simp only[lmT];omega))|refine Zbe (Zj hm rfl rfl ?_)|exact Zbe (Zf hm rfl rfl rfl (nbT rfl) rfl rfl))
|refine Zs rfl (tl hn rfl) ?_
|refine Zx (tl hn rfl) ?_
|refine Zr rfl rfl rfl rfl (nbT rfl) ?_
|(refine Zc hn rfl rfl rfl ?_;first
|refine⟨_,Zb rfl rfl (by omega) (by assumption),?_⟩))
 exact Zbf 30 rfl (Zbe (Y1 (i:=1) (v:=v) hm rfl rfl rfl rfl rfl rfl (Yv [.int v.number,Ya v.bytes,X3 v.items]) rfl))
set_option maxRecDepth 100000 in
set_option maxHeartbeats 16000000 in
theorem Tb(k:x.kind=7∨x.kind=8∨x.kind=9){e:Got}(h7:x.kind=7→RdV Tryz.prog 71 [X1 d,.agg (Xz x),Ya b,.int (a:Int)] e b a)(h8:x.kind=8→RdV Tryz.prog 72 [X1 d,.agg (Xz x),Ya b,.int (a:Int)] e b a)(h9:x.kind=9→RdV Tryz.prog 73 [X1 d,.agg (Xz x),Ya b,.int (a:Int)] e b a) :
  RdV Tryz.prog 46 [X1 d,.int (j:Int),Ya b,.int (a:Int)] e b a:=by
 have hx':d[(j:Int).toNat]?=some x:=hx
 have hlm:(d.map Xz).length=d.length:=lmT ..
 rcases k with k|k|k
 ·obtain⟨v,nx,c,hC,hok⟩:=h7 k
  refine⟨v,nx,c,?_,hok⟩
  refine Zz Tryz.func46 rfl _ Tryz.ntmps46 (by simp) fun C hn hm=>?_
  repeat' (first
|refine Zbg Zk hn rfl ?_
|refine Zbh ?_
|refine Za 30 rfl ?_
|(refine Zc hn rfl rfl rfl ?_;first
|refine⟨_,Zi hC rfl,?_⟩)
|(refine Zbf 30 rfl ?_;first|(refine Zd rfl ?_ ?_;·first|omega|rfl|assumption|(simp only[lmT];omega))|(refine Ze rfl ?_ ?_;·first|omega|rfl|assumption|(simp only[lmT];omega))|refine Zbe (Zj hm rfl rfl ?_)|exact Zbe (Zf hm rfl rfl rfl (nbT rfl) rfl rfl))
|refine Zs rfl (tl hn rfl) ?_
|refine Zx (tl hn rfl) ?_
|refine Zr rfl rfl rfl rfl (nbT rfl) ?_
|(refine Zc hn rfl rfl rfl ?_;first
|refine⟨_,Zb rfl rfl (by omega) (by assumption),?_⟩))
  exact Zbf 30 rfl (Zbe (Y1 (i:=1) (v:=v) hm rfl rfl rfl rfl rfl rfl (Yv [.int v.number,Ya v.bytes,X3 v.items]) rfl))
 ·obtain⟨v,nx,c,hC,hok⟩:=h8 k
  refine⟨v,nx,c,?_,hok⟩
  refine Zz Tryz.func46 rfl _ Tryz.ntmps46 (by simp) fun C hn hm=>?_
  repeat' (first
|refine Zbg Zk hn rfl ?_
|refine Zbh ?_
|refine Za 30 rfl ?_
|(refine Zc hn rfl rfl rfl ?_;first
|refine⟨_,Zi hC rfl,?_⟩)
|(refine Zbf 30 rfl ?_;first|(refine Zd rfl ?_ ?_;·first|omega|rfl|assumption|(simp only[lmT];omega))|(refine Ze rfl ?_ ?_;·first|omega|rfl|assumption|(simp only[lmT];omega))|refine Zbe (Zj hm rfl rfl ?_)|exact Zbe (Zf hm rfl rfl rfl (nbT rfl) rfl rfl))
|refine Zs rfl (tl hn rfl) ?_
|refine Zx (tl hn rfl) ?_
|refine Zr rfl rfl rfl rfl (nbT rfl) ?_
|(refine Zc hn rfl rfl rfl ?_;first
|refine⟨_,Zb rfl rfl (by omega) (by assumption),?_⟩))
  exact Zbf 30 rfl (Zbe (Y1 (i:=1) (v:=v) hm rfl rfl rfl rfl rfl rfl (Yv [.int v.number,Ya v.bytes,X3 v.items]) rfl))
 ·obtain⟨v,nx,c,hC,hok⟩:=h9 k
  refine⟨v,nx,c,?_,hok⟩
  refine Zz Tryz.func46 rfl _ Tryz.ntmps46 (by simp) fun C hn hm=>?_
  repeat' (first
|refine Zbg Zk hn rfl ?_
|refine Zbh ?_
|refine Za 30 rfl ?_
|(refine Zc hn rfl rfl rfl ?_;first
|refine⟨_,Zi hC rfl,?_⟩)
|(refine Zbf 30 rfl ?_;first|(refine Zd rfl ?_ ?_;·first|omega|rfl|assumption|(simp only[lmT];omega))|(refine Ze rfl ?_ ?_;·first|omega|rfl|assumption|(simp only[lmT];omega))|refine Zbe (Zj hm rfl rfl ?_)|exact Zbe (Zf hm rfl rfl rfl (nbT rfl) rfl rfl))
|refine Zs rfl (tl hn rfl) ?_
|refine Zx (tl hn rfl) ?_
|refine Zr rfl rfl rfl rfl (nbT rfl) ?_
|(refine Zc hn rfl rfl rfl ?_;first
|refine⟨_,Zb rfl rfl (by omega) (by assumption),?_⟩))
  exact Zbf 30 rfl (Zbe (Y1 (i:=1) (v:=v) hm rfl rfl rfl rfl rfl rfl (Yv [.int v.number,Ya v.bytes,X3 v.items]) rfl))
set_option maxRecDepth 100000 in
set_option maxHeartbeats 16000000 in
theorem Od(k:x.kind=4∨x.kind=5)(hk:Xi d x)(z:Nat)(kl:List Int)(hkk:x.kids=(z:Int)::kl)(x0:Rul)(hx0:d[(z:Int).toNat]?=some x0)(hs:1≤x0.size∧x0.size≤3)(f:Int→List UInt8→Got)(IH:x.kind=5→∀c,∀z∈itL x 0 c,∀a:Nat,a≤b.length→RdV Tryz.prog 46 [X1 d,.int z,Ya b,.int (a:Int)] (f z (b.drop a)) b a) :
  RdV Tryz.prog 46 [X1 d,.int (j:Int),Ya b,.int (a:Int)] (bnd (rdI x0.size.toNat (b.drop a)) fun k=>if x.kind=4 then rdI (rdN x0.little ((b.drop a).take k)).toNat ((b.drop a).drop k) else if 40<rdN x0.little ((b.drop a).take k) then .error 6 else rdS f (itL x 0 (rdN x0.little ((b.drop a).take k)).toNat) ((b.drop a).drop k)) b a:=by
 have hx':d[(j:Int).toNat]?=some x:=hx
 have hlm:(d.map Xz).length=d.length:=lmT ..
 have hI:=K4 d z x0 hx0 (by omega) b hb a ha
 have hkx:x.kids[(0:Int).toNat]?=some (z:Int):=by rw[hkk];rfl
 by_cases h:b.length-a<x0.size.toNat
 ·rw[if_pos h]at hI
  refine⟨.mk 0 [] [],(a:Int),1,?_,by unfold rdI;rw[List.length_drop,if_pos h];exact Hw rfl (by decide)⟩
  refine Zz Tryz.func46 rfl _ Tryz.ntmps46 (by simp) fun C hn hm=>?_
  repeat' (first
|refine Y0 (id:=25) 30 [10,11] [0,1,2,3,4,5,6,7,8,9,10,11] 12 [] Yc hn rfl (by kernel_rfl) rfl (by decide) (by decide) ?_
|refine RunsT.nil ?_
|refine RunsT.step Zk rfl rfl (fun _=>rfl) (by decide) ?_
|refine RunsT.pur (fun _=>Zi hI rfl) (by decide) rfl rfl ?_
|refine RunsT.pur (fun _=>Z2 rfl) (by decide) rfl rfl ?_
|refine RunsT.pur (fun _=>Zb rfl rfl (by omega) (by assumption)) (by decide) rfl rfl ?_
|refine Zbg Zk hn rfl ?_
|refine Zbh ?_
|refine Za 30 rfl ?_
|(refine Zc hn rfl rfl rfl ?_;first
|refine⟨_,Zi hI rfl,?_⟩
|refine⟨_,Z2 rfl,?_⟩)
|(refine Zbf 30 rfl ?_;first|refine Zg rfl ?_|refine Zm rfl ?_|(refine Zd rfl ?_ ?_;·first|omega|rfl|assumption|(simp only[lmT];omega))|(refine Ze rfl ?_ ?_;·first|omega|rfl|assumption|(simp only[lmT];omega))|refine Zbe (Zj hm rfl rfl ?_)|exact Zbe (Zf hm rfl rfl rfl (nbT rfl) rfl rfl))
|refine Zs rfl (tl hn rfl) ?_
|refine Zx (tl hn rfl) ?_
|refine Zr rfl rfl rfl rfl (nbT rfl) ?_
|(refine Zc hn rfl rfl rfl ?_;first
|refine⟨_,Zb rfl rfl (by omega) (by assumption),?_⟩))
  exact Zbf 30 rfl (Zbe (Y1 (i:=1) (v:=.mk 0 [] []) hm rfl rfl rfl rfl rfl rfl Y6 rfl))
 ·rw[if_neg h]at hI
  obtain⟨q,hq0⟩:∃q:Nat,x0.size=q:=⟨x0.size.toNat,by omega⟩
  have hqt:x0.size.toNat=q:=by omega
  rw[hqt,hq0,show(a:Int)+(q:Int)=((a+q:Nat):Int) by omega]at hI
  rw[hqt]at h ⊢
  have hrd:rdI q (b.drop a) = .ok q:=by unfold rdI;rw[List.length_drop,if_neg h]
  have hN0:=Kg x0.little ((b.drop a).take q)
  have hN1:=Sl x0.little ((b.drop a).take q)
  have hN2:(256:Int) ^ ((b.drop a).take q).length≤16777216:=by
   rcases(show((b.drop a).take q).length=0∨((b.drop a).take q).length=1∨((b.drop a).take q).length=2∨((b.drop a).take q).length=3 by rw[List.length_take];omega) with e|e|e|e<;>rw[e]<;>decide
  generalize hn':rdN x0.little ((b.drop a).take q)=m at hI hN0 hN1
  have hbk:∀(nx c:Int) (e:Got),RdOk e b (a+q) nx c→(e=if x.kind=4 then rdI m.toNat ((b.drop a).drop q) else if 40<m then .error 6 else rdS f (itL x 0 m.toNat) ((b.drop a).drop q)) →
    RdOk (bnd (rdI q (b.drop a)) fun k=>if x.kind=4 then rdI (rdN x0.little ((b.drop a).take k)).toNat ((b.drop a).drop k) else if 40<rdN x0.little ((b.drop a).take k) then .error 6 else rdS f (itL x 0 (rdN x0.little ((b.drop a).take k)).toNat) ((b.drop a).drop k)) b a nx c:=fun nx c e h1 h2=>by
   refine J8 hrd ?_
   rw[hn',←h2];exact h1
  by_cases k4:x.kind=4
  ·obtain⟨v,nx,c,hC,hok⟩:=Ds b hb (a+q) (by omega) m (by omega)
   refine⟨v,nx,c,?_,hbk nx c _ hok (by rw[if_pos k4,List.drop_drop])⟩
   refine Zz Tryz.func46 rfl _ Tryz.ntmps46 (by simp) fun C hn hm=>?_
   repeat' (first
|refine Y0 (id:=25) 30 [10,11] [0,1,2,3,4,5,6,7,8,9,10,11] 12 [] Yc hn rfl (by kernel_rfl) rfl (by decide) (by decide) ?_
|refine RunsT.nil ?_
|refine RunsT.step Zk rfl rfl (fun _=>rfl) (by decide) ?_
|refine RunsT.pur (fun _=>Zi hI rfl) (by decide) rfl rfl ?_
|refine RunsT.pur (fun _=>Zi hC rfl) (by decide) rfl rfl ?_
|refine RunsT.pur (fun _=>Z2 rfl) (by decide) rfl rfl ?_
|refine RunsT.pur (fun _=>Zb rfl rfl (by omega) (by assumption)) (by decide) rfl rfl ?_
|refine Zbg Zk hn rfl ?_
|refine Zbh ?_
|refine Za 30 rfl ?_
|(refine Zc hn rfl rfl rfl ?_;first
|refine⟨_,Zi hI rfl,?_⟩
|refine⟨_,Zi hC rfl,?_⟩
|refine⟨_,Z2 rfl,?_⟩)
|(refine Zbf 30 rfl ?_;first|refine Zg rfl ?_|refine Zm rfl ?_|(refine Zd rfl ?_ ?_;·first|omega|rfl|assumption|(simp only[lmT];omega))|(refine Ze rfl ?_ ?_;·first|omega|rfl|assumption|(simp only[lmT];omega))|refine Zbe (Zj hm rfl rfl ?_)|exact Zbe (Zf hm rfl rfl rfl (nbT rfl) rfl rfl))
|refine Zs rfl (tl hn rfl) ?_
|refine Zx (tl hn rfl) ?_
|refine Zr rfl rfl rfl rfl (nbT rfl) ?_
|(refine Zc hn rfl rfl rfl ?_;first
|refine⟨_,Zb rfl rfl (by omega) (by assumption),?_⟩))
   exact Zbf 30 rfl (Zbe (Y1 (i:=1) (v:=v) hm rfl rfl rfl rfl rfl rfl (Yv [.int v.number,Ya v.bytes,X3 v.items]) rfl))
  ·by_cases h40:40<m
   ·refine⟨.mk 0 [] [],(a:Int),6,?_,hbk _ _ _ (.bad (by decide)) (by rw[if_neg k4,if_pos h40])⟩
    refine Zz Tryz.func46 rfl _ Tryz.ntmps46 (by simp) fun C hn hm=>?_
    repeat' (first
|refine Y0 (id:=25) 30 [10,11] [0,1,2,3,4,5,6,7,8,9,10,11] 12 [] Yc hn rfl (by kernel_rfl) rfl (by decide) (by decide) ?_
|refine RunsT.nil ?_
|refine RunsT.step Zk rfl rfl (fun _=>rfl) (by decide) ?_
|refine RunsT.pur (fun _=>Zi hI rfl) (by decide) rfl rfl ?_
|refine RunsT.pur (fun _=>Z2 rfl) (by decide) rfl rfl ?_
|refine RunsT.pur (fun _=>Zb rfl rfl (by omega) (by assumption)) (by decide) rfl rfl ?_
|refine Zbg Zk hn rfl ?_
|refine Zbh ?_
|refine Za 30 rfl ?_
|(refine Zc hn rfl rfl rfl ?_;first
|refine⟨_,Zi hI rfl,?_⟩
|refine⟨_,Z2 rfl,?_⟩)
|(refine Zbf 30 rfl ?_;first|refine Zg rfl ?_|refine Zm rfl ?_|(refine Zd rfl ?_ ?_;·first|omega|rfl|assumption|(simp only[lmT];omega))|(refine Ze rfl ?_ ?_;·first|omega|rfl|assumption|(simp only[lmT];omega))|refine Zbe (Zj hm rfl rfl ?_)|exact Zbe (Zf hm rfl rfl rfl (nbT rfl) rfl rfl))
|refine Zs rfl (tl hn rfl) ?_
|refine Zx (tl hn rfl) ?_
|refine Zr rfl rfl rfl rfl (nbT rfl) ?_
|(refine Zc hn rfl rfl rfl ?_;first
|refine⟨_,Zb rfl rfl (by omega) (by assumption),?_⟩))
    exact Zbf 30 rfl (Zbe (Y1 (i:=1) (v:=.mk 0 [] []) hm rfl rfl rfl rfl rfl rfl Y6 rfl))
   ·obtain⟨q2,rfl⟩:∃q2:Nat,m=q2:=⟨m.toNat,by omega⟩
    obtain⟨v,nx,c,hC,hok⟩:=Qn d x hk 0 q2 (by omega) b hb (a+q) (by omega) f (IH (by omega) _)
    refine⟨v,nx,c,?_,hbk nx c _ hok (by rw[if_neg k4,if_neg h40,List.drop_drop];rfl)⟩
    refine Zz Tryz.func46 rfl _ Tryz.ntmps46 (by simp) fun C hn hm=>?_
    repeat' (first
|refine Y0 (id:=25) 30 [10,11] [0,1,2,3,4,5,6,7,8,9,10,11] 12 [] Yc hn rfl (by kernel_rfl) rfl (by decide) (by decide) ?_
|refine RunsT.nil ?_
|refine RunsT.step Zk rfl rfl (fun _=>rfl) (by decide) ?_
|refine RunsT.pur (fun _=>Zi hI rfl) (by decide) rfl rfl ?_
|refine RunsT.pur (fun _=>Zi hC rfl) (by decide) rfl rfl ?_
|refine RunsT.pur (fun _=>Z2 rfl) (by decide) rfl rfl ?_
|refine RunsT.pur (fun _=>Zb rfl rfl (by omega) (by assumption)) (by decide) rfl rfl ?_
|refine Zbg Zk hn rfl ?_
|refine Zbh ?_
|refine Za 30 rfl ?_
|(refine Zc hn rfl rfl rfl ?_;first
|refine⟨_,Zi hI rfl,?_⟩
|refine⟨_,Zi hC rfl,?_⟩
|refine⟨_,Z2 rfl,?_⟩)
|(refine Zbf 30 rfl ?_;first|refine Zg rfl ?_|refine Zm rfl ?_|(refine Zd rfl ?_ ?_;·first|omega|rfl|assumption|(simp only[lmT];omega))|(refine Ze rfl ?_ ?_;·first|omega|rfl|assumption|(simp only[lmT];omega))|refine Zbe (Zj hm rfl rfl ?_)|exact Zbe (Zf hm rfl rfl rfl (nbT rfl) rfl rfl))
|refine Zs rfl (tl hn rfl) ?_
|refine Zx (tl hn rfl) ?_
|refine Zr rfl rfl rfl rfl (nbT rfl) ?_
|(refine Zc hn rfl rfl rfl ?_;first
|refine⟨_,Zb rfl rfl (by omega) (by assumption),?_⟩))
    exact Zbf 30 rfl (Zbe (Y1 (i:=1) (v:=v) hm rfl rfl rfl rfl rfl rfl (Yv [.int v.number,Ya v.bytes,X3 v.items]) rfl))
end
theorem itR_range{d:Des}(hD:DrawD d){j:Nat}{x:Rul}(hx:d[j]?=some x)(hs:x.kind≠7){n:Int}{c i:Nat}(hi:i<c)(hc:(x.kind=6→c≤x.kids.length))(hk:x.kind=5∨x.kind=6∨x.kind=8∨x.kind=9):0≤Xb x n (i:Int)∧Xb x n (i:Int)<j:=by
 rcases S3 hD.good hx n (i:Int) with h|h
 ·exfalso
  have hkid:=hD.kid hx
  have hK:=Mf hD.good hx
  obtain⟨f5,f7,f8,_⟩:=Wk hK
  have nn:∀q:Nat,q<x.kids.length→(x.kids[q]?).getD (-1) ≠ -1:=fun q hq=>by
   have:=hkid _ (List.getElem_mem hq)
   rw[Za6 hq,Option.getD_some];omega
  unfold Xb at h
  rcases hk with k|k|k|k
  ·rw[if_pos k]at h;exact nn 1 (by have:=f5 k;omega) h
  ·rw[if_neg (by omega),if_pos k]at h;exact nn _ (by have:=hc k;simp;omega) h
  ·rw[if_neg (by omega),if_neg (by omega),if_neg (by omega),if_pos (.inl k)]at h;exact nn 0 (by have:=f8 (.inl k);omega) h
  ·rw[if_neg (by omega),if_neg (by omega),if_neg (by omega),if_pos (.inr k)]at h;exact nn 0 (by have:=f8 (.inr k);omega) h
 ·exact h
theorem Ay{d:Des}(hD:DrawD d){b:List UInt8}(hb:b.length≤1048576):∀(n j:Nat),j<n→j<d.length→∀a:Nat,a≤b.length→RdV Tryz.prog 46 [X1 d,.int (j:Int),Ya b,.int (a:Int)] (rdF d (n+1) (j:Int) (b.drop a)) b a
 |0,j,h,_,_,_=>by omega
 |n+1,j,hjn,hj,a,ha=>by
  have IH:∀z:Int,0≤z∧z<j→∀a:Nat,a≤b.length→RdV Tryz.prog 46 [X1 d,.int z,Ya b,.int (a:Int)] (rdF d (n+1) z (b.drop a)) b a:=fun z hz a ha=>by
   obtain⟨q,rfl⟩:∃q:Nat,z=q:=⟨z.toNat,by omega⟩
   exact Ay hD hb n q (by omega) (by omega) a ha
  obtain⟨x,hx⟩:∃x,d[j]?=some x:=⟨_,Za6 hj⟩
  obtain⟨k',k1,k2,hr,hk',_,_⟩:=hD.kinds hx
  have hK:=Mf hD.good hx
  have hkid:=hD.kid hx
  have IHL:x.kind=5∨x.kind=6∨x.kind=8∨x.kind=9→∀c,(x.kind=6→c≤x.kids.length)→∀z∈itL x 0 c,∀a:Nat,a≤b.length→RdV Tryz.prog 46 [X1 d,.int z,Ya b,.int (a:Int)] (rdF d (n+1) z (b.drop a)) b a:=fun hk c hc z hz=>by
   obtain⟨i,hi⟩:=List.getElem?_of_mem hz
   obtain⟨hi1,rfl⟩:=S4 hi
   exact IH _ (itR_range hD hx (by omega) hi1 hc hk)
  rw[V4 d (n+1) _ _ x (Qx hx)]
  rcases(show k'=1∨k'=2∨k'=3∨k'=4∨k'=5∨k'=6∨k'=7∨k'=8∨k'=9∨k'=10 by omega) with o|o|o|o|o|o|o|o|o|o
  ·rw[if_pos (by omega)]
   exact l11Read1 hD hb hx ha (by omega) (hr.hsize.1 o)
  ·rw[if_neg (by omega),if_pos (by omega)]
   have:=hr.hbytes.1 o
   exact l11Read2 hD hb hx ha (by omega) (by omega)
  ·rw[if_pos (by omega)]
   exact l11Read3 hD hb hx ha (by omega) (hr.hsize.2.1 o)
  ·obtain⟨z,hz,hkk⟩:=hr.hkids.1 o
   have hz0:=hkid z (by rw[hkk];simp)
   obtain⟨q,rfl⟩:∃q:Nat,z=q:=⟨z.toNat,by omega⟩
   obtain⟨x0,e1,e2,e3⟩:=tm_kid hD hb hx ha hz0.1 hz.up.1.2.2
   have h:=Od hD hb hx ha (.inl (by omega)) hK q _ hkk x0 e1 e3 (rdF d (n+1)) (fun k5=>by omega)
   rw[if_neg (by omega),if_neg (by omega),if_neg (by omega),if_neg (by omega),if_neg (by omega),if_neg (by omega),hkk,List.headD_cons,e2]
   refine h.mono ?_
   congr 1
   funext k
   rw[if_pos (by omega),if_pos (by omega)]
  ·obtain⟨z,z',hz,_,hkk⟩:=hr.hkids.2.1 o
   have hz0:=hkid z (by rw[hkk];simp)
   obtain⟨q,rfl⟩:∃q:Nat,z=q:=⟨z.toNat,by omega⟩
   obtain⟨x0,e1,e2,e3⟩:=tm_kid hD hb hx ha hz0.1 hz.up.1.2.2
   have h:=Od hD hb hx ha (.inr (by omega)) hK q _ hkk x0 e1 e3 (rdF d (n+1)) (fun k5 c=>IHL (.inl k5) c (by omega))
   rw[if_neg (by omega),if_neg (by omega),if_neg (by omega),if_neg (by omega),if_neg (by omega),if_neg (by omega),hkk,List.headD_cons,e2]
   refine h.mono ?_
   congr 1
   funext k
   simp only[if_neg (show ¬x.kind=4 by omega),if_pos (show x.kind=5 by omega)]
  ·rw[if_neg (by omega),if_neg (by omega),if_neg (by omega),if_pos (by omega)]
   have hkl:=hr.hkids.2.2.1 o
   have hnl:=hr.hnames.1 o
   exact l11Read6 hD hb hx ha (by omega) hK (by omega) _ (IHL (.inr (.inl (by omega))) _ fun _=>Nat.le_refl _)
  ·obtain⟨z,kl,hz,hkl,_,hkk⟩:=hr.hkids.2.2.2.1 o
   have hz0:=hkid z (by rw[hkk];simp)
   obtain⟨q,rfl⟩:∃q:Nat,z=q:=⟨z.toNat,by omega⟩
   obtain⟨x0,e1,e2,e3⟩:=tm_kid hD hb hx ha hz0.1 hz.up.1.2.2
   have hkp:∀w∈kl,0≤w∧w<j:=fun w hw=>hkid w (by rw[hkk];simp[hw])
   have h:=Of d x hK (by omega) q kl hkk hkl (fun w hw=>(hkp w hw).1) x0 e1 (by omega) b hb a ha (rdF d (n+1)) (fun w hw=>IH w (hkp w hw))
   rw[if_neg (by omega),if_neg (by omega),if_neg (by omega),if_neg (by omega),if_neg (by omega),if_neg (by omega),hkk,List.headD_cons,e2]
   refine(Tb hD hb hx ha (.inl (by omega)) (fun _=>h) (fun e=>by omega) (fun e=>by omega)).mono ?_
   congr 1
   funext k
   rw[if_neg (show ¬x.kind=4 by omega),if_neg (show ¬x.kind=5 by omega)]
  ·rw[if_neg (by omega),if_neg (by omega),if_neg (by omega),if_neg (by omega),if_pos (by omega)]
   exact Tb hD hb hx ha (.inr (.inl (by omega))) (fun e=>by omega) (fun _=>Oe d x hK b hb a ha _ fun c=>IHL (.inr (.inr (.inl (by omega)))) c (by omega)) (fun e=>by omega)
  ·rw[if_neg (by omega),if_neg (by omega),if_neg (by omega),if_neg (by omega),if_neg (by omega),if_pos (by omega)]
   exact Tb hD hb hx ha (.inr (.inr (by omega))) (fun e=>by omega) (fun e=>by omega) (fun _=>G7 d x hK b hb a ha _ (IHL (.inr (.inr (.inr (by omega)))) 1 (by omega)))
  ·obtain⟨y,hy,hyb⟩:=hr.hbytes.2.1 o
   rw[if_neg (by omega),if_neg (by omega),if_pos (by omega),hyb,List.headD_cons]
   exact l11Read10 hD hb hx ha (by omega) _ hyb
theorem Pr{d:Des}(hD:DrawD d)(b:List UInt8)(hb:b.length≤400):∃(v:Tre) (nx:Int),ACv Tryz.prog 7 [X1 d,Ya b] (.tup [Gj v,.int nx,.int (Uv d b)]):=by
 have hp:=hD.pos
 have hmo:=hD.most
 have hbl:(b.map fun z=>[RV.u8 z]).length=b.length:=lmT ..
 obtain⟨v,nx,c,hR,hok⟩:=Ay hD (b:=b) (by omega) d.length (d.length-1) (by omega) (by omega) 0 (by omega)
 rw[List.drop_zero]at hok
 have hRt:=Ic d hp (by omega)
 have hdt:Wi d≤1048576:=by have:=hD.total;omega
 have hkn:=l7Rule_ac d hD.desOk hdt ((d.length-1:Nat):Int)
 have hK:Kn d ((d.length-1:Nat):Int):=⟨hD.good,by unfold HasR;omega⟩
 rw[decide_eq_true hK]at hkn
 have hin:InR 0 0 (b.length:Int):=by unfold InR;omega
 have hV:ACv Tryz.prog 17 [X1 d,.int ((d.length:Int)-1),Ya b,.int 0] (.tup [Gj v,.int nx,.int c]):=by
  rw[show(d.length:Int)-1=((d.length-1:Nat):Int) by omega]
  have hl1:=Xn 0 0 (b.length:Int)
  rw[decide_eq_true hin]at hl1
  have hl2:ACv Tryz.prog 45 [.int 0,.int 0,.int ((b.map fun z=>[RV.u8 z]).length:Int)] (.bool true):=by rw[hbl];exact hl1
  refine Zz Tryz.func17 rfl _ Tryz.ntmps17 (by simp) fun C hn hm=>?_
  repeat' (first
|refine Zbg Zk hn rfl ?_
|refine Zbh ?_
|refine Za 30 rfl ?_
|(refine Zc hn rfl rfl rfl ?_;first
|refine⟨_,Zi hkn rfl,?_⟩
|refine⟨_,Zi hl1 rfl,?_⟩
|refine⟨_,Zi hl2 rfl,?_⟩
|refine⟨_,Zi hR rfl,?_⟩
|refine⟨_,Z2 rfl,?_⟩)
|(refine Zbf 30 rfl ?_;first|refine Zm rfl ?_|(refine Zd rfl ?_ ?_;·first|omega|rfl|assumption|(simp only[lmT];omega))|(refine Ze rfl ?_ ?_;·first|omega|rfl|assumption|(simp only[lmT];omega))|refine Zbe (Zj hm rfl rfl ?_)|exact Zbe (Zf hm rfl rfl rfl (nbT rfl) rfl rfl))
|refine Zs rfl (tl hn rfl) ?_
|refine Zx (tl hn rfl) ?_
|refine Zr rfl rfl rfl rfl (nbT rfl) ?_
|(refine Zh rfl rfl rfl ?_ ?_<;>intro h<;>try(exfalso;first|omega|contradiction|(simp only[lmT]at h;omega))))
  all_goals first
   |(exfalso;omega)
   |exact Zbf 30 rfl (Zbe (Y1 (i:=1) (v:=v) hm rfl rfl rfl rfl rfl rfl (Yv [.int v.number,Ya v.bytes,X3 v.items]) rfl))
 rcases hok.cases with⟨k,e,rfl,rfl,hk⟩|⟨e,hc0⟩
 ·rw[Nat.zero_add]at hk hV
  by_cases hlt:k<b.length
  ·refine⟨.mk 0 [] [],(k:Int),?_⟩
   rw[show Uv d b=7 by unfold Uv;rw[e];simp only;rw[if_pos hlt]]
   refine Zz Tryz.func7 rfl _ Tryz.ntmps7 (by simp) fun C hn hm=>?_
   repeat' (first
|refine Y0 (id:=1) 30 [7,8] [0,1,2,3,4,5,6,7,8,9] 10 [(9,36,[.int .i64 0,.slice none 0 0,.slice none 0 0])] Yc hn rfl (by kernel_rfl) rfl (by decide) (by decide) ?_
|refine RunsT.nil ?_
|refine RunsT.step Zk rfl rfl (fun _=>rfl) (by decide) ?_
|refine RunsT.pur (fun _=>Zi hRt rfl) (by decide) rfl rfl ?_
|refine RunsT.pur (fun _=>Zi hV rfl) (by decide) rfl rfl ?_
|refine RunsT.pur (fun _=>Z2 rfl) (by decide) rfl rfl ?_
|refine RunsT.alloc (p:=0) rfl inferInstance ?_
|refine RunsT.alloc (p:=1) rfl inferInstance ?_
|refine Zbg Zk hn rfl ?_
|refine Zbh ?_
|refine Za 30 rfl ?_
|(refine Zc hn rfl rfl rfl ?_;first
|refine⟨_,Zi hRt rfl,?_⟩
|refine⟨_,Zi hV rfl,?_⟩
|refine⟨_,Z2 rfl,?_⟩)
|(refine Zbf 30 rfl ?_;first|refine Zm rfl ?_|(refine Zd rfl ?_ ?_;·first|omega|rfl|assumption|(simp only[lmT];omega))|(refine Ze rfl ?_ ?_;·first|omega|rfl|assumption|(simp only[lmT];omega))|refine Zbe (Zj hm rfl rfl ?_)|exact Zbe (Zf hm rfl rfl rfl (nbT rfl) rfl rfl))
|refine Zs rfl (tl hn rfl) ?_
|refine Zx (tl hn rfl) ?_
|refine Zr rfl rfl rfl rfl (nbT rfl) ?_
|(refine Zh rfl rfl rfl ?_ ?_<;>intro h<;>try(exfalso;first|omega|contradiction|(simp only[lmT]at h;omega))))
   all_goals first
    |(exfalso;omega)
    |exact Zbf 30 rfl (Zbe (Y1 (i:=1) (v:=.mk 0 [] []) hm rfl rfl rfl rfl rfl rfl Y6 rfl))
  ·refine⟨v,(k:Int),?_⟩
   rw[show Uv d b=0 by unfold Uv;rw[e];simp only;rw[if_neg hlt]]
   refine Zz Tryz.func7 rfl _ Tryz.ntmps7 (by simp) fun C hn hm=>?_
   repeat' (first
|refine Y0 (id:=1) 30 [7,8] [0,1,2,3,4,5,6,7,8,9] 10 [(9,36,[.int .i64 0,.slice none 0 0,.slice none 0 0])] Yc hn rfl (by kernel_rfl) rfl (by decide) (by decide) ?_
|refine RunsT.nil ?_
|refine RunsT.step Zk rfl rfl (fun _=>rfl) (by decide) ?_
|refine RunsT.pur (fun _=>Zi hRt rfl) (by decide) rfl rfl ?_
|refine RunsT.pur (fun _=>Zi hV rfl) (by decide) rfl rfl ?_
|refine RunsT.pur (fun _=>Z2 rfl) (by decide) rfl rfl ?_
|refine RunsT.alloc (p:=0) rfl inferInstance ?_
|refine RunsT.alloc (p:=1) rfl inferInstance ?_
|refine Zbg Zk hn rfl ?_
|refine Zbh ?_
|refine Za 30 rfl ?_
|(refine Zc hn rfl rfl rfl ?_;first
|refine⟨_,Zi hRt rfl,?_⟩
|refine⟨_,Zi hV rfl,?_⟩
|refine⟨_,Z2 rfl,?_⟩)
|(refine Zbf 30 rfl ?_;first|refine Zm rfl ?_|(refine Zd rfl ?_ ?_;·first|omega|rfl|assumption|(simp only[lmT];omega))|(refine Ze rfl ?_ ?_;·first|omega|rfl|assumption|(simp only[lmT];omega))|refine Zbe (Zj hm rfl rfl ?_)|exact Zbe (Zf hm rfl rfl rfl (nbT rfl) rfl rfl))
|refine Zs rfl (tl hn rfl) ?_
|refine Zx (tl hn rfl) ?_
|refine Zr rfl rfl rfl rfl (nbT rfl) ?_
|(refine Zh rfl rfl rfl ?_ ?_<;>intro h<;>try(exfalso;first|omega|contradiction|(simp only[lmT]at h;omega))))
   all_goals first
    |(exfalso;omega)
    |exact Zbf 30 rfl (Zbe (Y1 (i:=1) (v:=v) hm rfl rfl rfl rfl rfl rfl (Yv [.int v.number,Ya v.bytes,X3 v.items]) rfl))
 ·refine⟨v,nx,?_⟩
  rw[show Uv d b=c by unfold Uv;rw[e]]
  refine Zz Tryz.func7 rfl _ Tryz.ntmps7 (by simp) fun C hn hm=>?_
  repeat' (first
|refine Y0 (id:=1) 30 [7,8] [0,1,2,3,4,5,6,7,8,9] 10 [(9,36,[.int .i64 0,.slice none 0 0,.slice none 0 0])] Yc hn rfl (by kernel_rfl) rfl (by decide) (by decide) ?_
|refine RunsT.nil ?_
|refine RunsT.step Zk rfl rfl (fun _=>rfl) (by decide) ?_
|refine RunsT.pur (fun _=>Zi hRt rfl) (by decide) rfl rfl ?_
|refine RunsT.pur (fun _=>Zi hV rfl) (by decide) rfl rfl ?_
|refine RunsT.pur (fun _=>Z2 rfl) (by decide) rfl rfl ?_
|refine RunsT.alloc (p:=0) rfl inferInstance ?_
|refine RunsT.alloc (p:=1) rfl inferInstance ?_
|refine Zbg Zk hn rfl ?_
|refine Zbh ?_
|refine Za 30 rfl ?_
|(refine Zc hn rfl rfl rfl ?_;first
|refine⟨_,Zi hRt rfl,?_⟩
|refine⟨_,Zi hV rfl,?_⟩
|refine⟨_,Z2 rfl,?_⟩)
|(refine Zbf 30 rfl ?_;first|refine Zm rfl ?_|(refine Zd rfl ?_ ?_;·first|omega|rfl|assumption|(simp only[lmT];omega))|(refine Ze rfl ?_ ?_;·first|omega|rfl|assumption|(simp only[lmT];omega))|refine Zbe (Zj hm rfl rfl ?_)|exact Zbe (Zf hm rfl rfl rfl (nbT rfl) rfl rfl))
|refine Zs rfl (tl hn rfl) ?_
|refine Zx (tl hn rfl) ?_
|refine Zr rfl rfl rfl rfl (nbT rfl) ?_
|(refine Zh rfl rfl rfl ?_ ?_<;>intro h<;>try(exfalso;first|omega|contradiction|(simp only[lmT]at h;omega))))
  all_goals first
   |(exfalso;omega)
   |exact Zbf 30 rfl (Zbe (Y1 (i:=1) (v:=v) hm rfl rfl rfl rfl rfl rfl (Yv [.int v.number,Ya v.bytes,X3 v.items]) rfl))
end Go.Proofs.YtnecoghfhcimeaaGreat
