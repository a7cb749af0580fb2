/- Parts. -/
import Derived.Test.YtlaaemmmbodaaaaGreatDoorEx2
set_option maxHeartbeats 16000000
set_option maxRecDepth 100000
set_option linter.unnecessarySimpa false
set_option linter.unusedSimpArgs false
set_option linter.unusedVariables false
namespace Go.Proofs.YtlaaemmmbodaaaaGreatDoor
open Go.RowKit Go.G9
def Cu (a b:Int):Int:=if a < b then -1 else if b < a then 1 else 0
theorem Te (a b:Int):Cu a b < 0↔a < b:=by
 unfold Cu
 by_cases h:a < b
 ·simp [h]
 ·rw [if_neg h];split <;> simp [h]
section
variable {t:Int→Int}
def sn (t:Int→Int) (x z:Int):Int:=Cu (t x) (t z)
theorem Zl {p:Int→Bool} {S:List Int}:∀n,n≤S.length→(∀i z,pU p S n≤i→i < n→S[i]? =some z→p z= true)∧(∀j z,pU p S n= j + 1→S[j]? =some z→p z= false)
 | 0,_=>⟨fun i z _ h=>absurd h (by omega),fun j z h=>by simp [pU] at h⟩
 | n + 1,h=>by
  obtain⟨h1,h2⟩:=Zl (p:=p) (S:=S) n (by omega)
  have cc:S[n]? =some S[n]:=List.getElem?_eq_getElem (by omega)
  cases aO:p S[n] with
  | true=>
   rw [Zm cc aO]
   refine⟨fun i z hi iY ay=>?_,h2⟩
   by_cases e:i= n
   ·subst e;rw [cc] at ay;cases ay;exact aO
   ·exact h1 i z hi (by omega) ay
  | false=>
   rw [Zk cc aO]
   refine⟨fun i z hi iY ay=>by omega,fun j z bH ay=>?_⟩
   obtain rfl:n= j:=by omega
   rw [cc] at ay;cases ay;exact aO
theorem alS {S:List Int} {x:Int} (bN:S.Pairwise (fun a b=>t a≤t b)):∃A B,S= A ++ B∧zp (fun z=>decide (sn t x z < 0)) S x= A ++ x ::B∧(∀z ∈ A,t z≤t x)∧(∀z ∈ B,t x < t z):=by
 obtain⟨h1,h2⟩:=Zl (p:=fun z=>decide (sn t x z < 0)) (S:=S) S.length (Nat.le_refl _)
 have hle:=Qc (fun z=>decide (sn t x z < 0)) S S.length
 unfold zp
 generalize pU (fun z=>decide (sn t x z < 0)) S S.length= j at *
 refine⟨S.take j,S.drop j,(List.take_append_drop _ _).symm,rfl,fun z cc=>?_,fun z cc=>?_⟩
 ·obtain⟨i,hi⟩:=List.mem_iff_getElem?.1 cc
  rw [List.getElem?_take] at hi
  split at hi
  ·rename_i ze
   obtain⟨rO,rfl⟩ :∃rO,j= rO + 1:=⟨j - 1,by omega⟩
   have hy:S[rO]? =some S[rO]:=List.getElem?_eq_getElem (by omega);have h3:=h2 rO _ rfl hy
   have h3:¬t x < t S[rO]:=fun h=>of_decide_eq_false h3 ((Te _ _).2 h)
   by_cases e:i= rO
   ·subst e;rw [hy] at hi;cases hi;omega
   ·obtain⟨ajk,ajl⟩:=List.getElem?_eq_some_iff.1 hi
    have:=List.pairwise_iff_getElem.1 bN i rO ajk (by omega) (by omega)
    rw [ajl] at this;omega
  ·cases hi
 ·obtain⟨i,hi⟩:=List.mem_iff_getElem?.1 cc
  rw [List.getElem?_drop] at hi
  have h3:=h1 (j + i) z (by omega) (List.getElem?_eq_some_iff.1 hi).1 hi
  exact (Te _ _).1 (of_decide_eq_true h3)
theorem HK {xs:List Int}:∀k,k≤xs.length→(ik (sn t) xs k).Pairwise (fun a b=>t a≤t b)∧∀v:Int,(ik (sn t) xs k).filter (fun z=>t z == v)= (xs.take k).filter (fun z=>t z == v)
 | 0,_=>⟨List.Pairwise.nil,fun v=>rfl⟩
 | k + 1,h=>by
  obtain⟨h1,h2⟩:=HK (xs:=xs) k (by omega)
  have ay:xs[k]? =some xs[k]:=List.getElem?_eq_getElem (by omega)
  generalize xs[k]= x at *
  rw [KC ay]
  obtain⟨A,B,e1,e2,e3,e4⟩:=alS (x:=x) h1
  rw [e2]
  rw [e1] at h1 h2
  obtain⟨dI,dj,ya⟩:=List.pairwise_append.1 h1
  refine⟨List.pairwise_append.2 ⟨dI,List.pairwise_cons.2 ⟨fun z cc=>by have:=e4 z cc;omega,dj⟩,fun a cT b aB=>?_⟩,fun v=>?_⟩
  ·rcases List.mem_cons.1 aB with rfl | aB
   ·exact e3 a cT
   ·exact ya a cT b aB
  ·have h3:=h2 v
   rw [List.take_add_one,ay,Option.toList_some]
   simp only [List.filter_append] at h3 ⊢
   rw [← h3,List.filter_cons]
   by_cases aw:t x= v
   ·have bm:B.filter (fun z=>t z == v)= []:=by
     rw [List.filter_eq_nil_iff]
     intro z cc
     have:=e4 z cc
     simp;omega
    rw [bm]
    simp [aw]
   ·simp [aw]
theorem ZK:∀{jo mQ:List Int},jo.Pairwise (fun a b=>t a≤t b)→mQ.Pairwise (fun a b=>t a≤t b)→(∀v:Int,jo.filter (fun z=>t z == v)= mQ.filter (fun z=>t z == v))→jo= mQ
 | [],[],_,_,_=>rfl
 | [],b ::mQ,_,_,h=>by
  have:=h (t b)
  simp at this
 | a ::jo,[],_,_,h=>by
  have:=h (t a)
  simp at this
 | a ::jo,b ::mQ,h1,h2,h=>by
  obtain⟨a1,a2⟩:=List.pairwise_cons.1 h1
  obtain⟨dx,dz⟩:=List.pairwise_cons.1 h2
  have FY:t a= t b:=by
   by_cases bl:t a < t b
   ·have h3:=h (t a)
    have:(b ::mQ).filter (fun z=>t z == t a)= []:=by
     rw [List.filter_eq_nil_iff]
     intro z cc
     rcases List.mem_cons.1 cc with rfl | cc
     ·simp;omega
     ·have:=dx z cc;simp;omega
    rw [this] at h3
    simp at h3
   ·by_cases Js:t b < t a
    ·have h3:=h (t b)
     have:(a ::jo).filter (fun z=>t z == t b)= []:=by
      rw [List.filter_eq_nil_iff]
      intro z cc
      rcases List.mem_cons.1 cc with rfl | cc
      ·simp;omega
      ·have:=a1 z cc;simp;omega
     rw [this] at h3
     simp at h3
    ·omega
  have h3:=h (t a)
  rw [List.filter_cons,List.filter_cons,FY] at h3
  simp only [BEq.rfl,if_true] at h3
  injection h3 with h4 h5
  subst h4
  congr 1
  refine ZK a2 dz fun v=>?_
  have h6:=h v
  rw [List.filter_cons,List.filter_cons] at h6
  split at h6
  ·injection h6
  ·exact h6
end
def jd (f:ey) (x:Int):Int:=(ev f.U x).cZ
def kM (f:ey):List Int:=ik (sn (jd f)) f.ws f.ws.length
theorem DO (f:ey):(kM f).length= f.ws.length:=wK _ (Nat.le_refl _)
theorem Pu (f:ey):∀k,0 < k→k≤f.ws.length→∃m,f.ws[ku f k]? =some m∧(∀i x,i < k→f.ws[i]? =some x→jd f m≤jd f x)∧(∀i x,i < ku f k→f.ws[i]? =some x→jd f m < jd f x)
 | 0,h,_=>absurd h (by omega)
 | 1,_,aS=>by
  have ay:f.ws[0]? =some f.ws[0]:=List.getElem?_eq_getElem (by omega)
  have e:ku f 1= 0:=by
   have:=Be f 1 (by omega)
   omega
  rw [e]
  refine⟨_,ay,fun i x hi h=>?_,fun i x hi=>absurd hi (by omega)⟩
  obtain rfl:i= 0:=by omega
  rw [ay] at h;cases h;exact Int.le_refl _
 | k + 2,_,aS=>by
  obtain⟨m,h1,h2,h3⟩:=Pu f (k + 1) (by omega) (by omega)
  have ay:f.ws[k + 1]? =some f.ws[k + 1]:=List.getElem?_eq_getElem (by omega)
  generalize f.ws[k + 1]= x at *
  have bl:=Be f (k + 1) (by omega)
  rw [ku,ay,h1]
  dsimp only
  by_cases aE:(ev f.U x).cZ < (ev f.U m).cZ
  ·rw [if_pos aE]
   have rI:jd f x < jd f m:=aE
   refine⟨x,ay,fun i y hi hy=>?_,fun i y hi hy=>?_⟩
   ·by_cases e:i= k + 1
    ·subst e;rw [ay] at hy;cases hy;exact Int.le_refl _
    ·have:=h2 i y (by omega) hy;omega
   ·have:=h2 i y hi hy;omega
  ·rw [if_neg aE]
   have rI:¬jd f x < jd f m:=aE
   refine⟨m,h1,fun i y hi hy=>?_,h3⟩
   by_cases e:i= k + 1
   ·subst e;rw [ay] at hy;cases hy;omega
   ·exact h2 i y (by omega) hy
theorem TY {P:Int→Bool}:∀{xs:List Int} {j:Nat} {m:Int},xs[j]? =some m→P m= true→(∀i x,i < j→xs[i]? =some x→P x= false)→∃r,xs.filter P= m ::r
 | [],j,m,h,_,_=>by simp at h
 | y ::xs,0,m,h,aO,_=>by
  simp at h;subst h
  exact⟨xs.filter P,by simp [aO]⟩
 | y ::xs,j + 1,m,h,aO,aY=>by
  have hy:=aY 0 y (by omega) rfl
  obtain⟨r,bu⟩:=TY (xs:=xs) (j:=j) (m:=m) (by simpa using h) aO (fun i x hi ay=>aY (i + 1) x (by omega) (by simpa using ay))
  exact⟨r,by rw [List.filter_cons,hy];simpa using bu⟩
theorem aqu {f:ey} (h:0 < f.ws.length):(kM f)[0]? =sM f:=by
 obtain⟨m,h1,h2,h3⟩:=Pu f f.ws.length h (Nat.le_refl _)
 obtain⟨s1,s2⟩:=HK (t:=jd f) (xs:=f.ws) f.ws.length (Nat.le_refl _)
 have aS:=DO f
 unfold sM
 rw [h1]
 have e0:ik (sn (jd f)) f.ws f.ws.length= kM f:=rfl
 rw [e0] at s1 s2
 generalize kM f= S at *
 cases S with
 | nil=>simp at aS;omega
 | cons a S=>
  obtain⟨a1,a2⟩:=List.pairwise_cons.1 s1
  rw [List.take_length] at s2
  have ham:a ∈ f.ws:=by
   have h5:=s2 (jd f a)
   rw [List.filter_cons] at h5
   simp only [BEq.rfl,if_true] at h5
   have:a ∈ f.ws.filter (fun z=>jd f z == jd f a):=by rw [← h5];exact List.mem_cons_self
   exact (List.mem_filter.1 this).1
  obtain⟨i,hi⟩:=List.mem_iff_getElem?.1 ham
  have eB:=h2 i a (List.getElem?_eq_some_iff.1 hi).1 hi
  obtain⟨r,bu⟩:=TY (P:=fun z=>jd f z == jd f m) h1 (by simp) (fun i x hi ay=>by have:=h3 i x hi ay;simp;omega)
  have h5:=s2 (jd f m)
  rw [bu] at h5
  have hm:m ∈ a ::S:=by
   have:m ∈ (a ::S).filter (fun z=>jd f z == jd f m):=by rw [h5];exact List.mem_cons_self
   exact (List.mem_filter.1 this).1
  have cp:jd f a≤jd f m:=by
   rcases List.mem_cons.1 hm with rfl | hm
   ·exact Int.le_refl _
   ·exact a1 m hm
  rw [List.filter_cons] at h5
  have:(jd f a == jd f m)= true:=by simp;omega
  rw [this] at h5
  simp only [if_true] at h5
  injection h5 with h6 h7
  subst h6;rfl
open Go.RowKit Go.G9
def yl (f:ey) (k:Nat):ey:={f with ws:=f.ws.take k ++ f.ws.drop (k + 1)}
theorem XE {t:Int→Int} {xs:List Int} {x:Int} (h:x ∈ ik (sn t) xs xs.length):x ∈ xs:=by
 have h2:=(HK (t:=t) (xs:=xs) xs.length (Nat.le_refl _)).2 (t x)
 rw [List.take_length] at h2
 have h3:x ∈ (ik (sn t) xs xs.length).filter (fun z=>t z == t x):=List.mem_filter.2 ⟨h,by simp⟩
 rw [h2] at h3
 exact (List.mem_filter.1 h3).1
theorem aqv {f:ey} (h:f.ws.length= 0):kM f= []:=List.length_eq_zero_iff.1 ((DO f).trans h)
theorem aqw (f:ey) (h:0 < f.ws.length):∃m,f.ws[ku f f.ws.length]? =some m∧kM f= m ::kM (yl f (ku f f.ws.length)):=by
 obtain⟨m,h1,h2,h3⟩:=Pu f f.ws.length h (Nat.le_refl _)
 refine⟨m,h1,?_⟩
 generalize ku f f.ws.length= k at *
 obtain⟨s1,s2⟩:=HK (t:=jd f) (xs:=f.ws) f.ws.length (Nat.le_refl _)
 obtain⟨dJ,r2⟩:=HK (t:=jd f) (xs:=(yl f k).ws) (yl f k).ws.length (Nat.le_refl _)
 have az:k < f.ws.length:=(List.getElem?_eq_some_iff.1 h1).1
 have hw:f.ws= f.ws.take k ++ m ::f.ws.drop (k + 1):=by
  have e:=List.take_append_drop k f.ws
  rw [List.drop_eq_getElem_cons az,(List.getElem?_eq_some_iff.1 h1).2] at e
  exact e.symm
 have sw:∀x ∈ f.ws,jd f m≤jd f x:=fun x ay=>by
  obtain⟨i,hi⟩:=List.mem_iff_getElem?.1 ay
  exact h2 i x (List.getElem?_eq_some_iff.1 hi).1 hi
 have sx:∀x ∈ f.ws.take k,jd f m < jd f x:=fun x ay=>by
  obtain⟨i,hi⟩:=List.mem_iff_getElem?.1 ay
  have bl:i < k:=by have:=(List.getElem?_eq_some_iff.1 hi).1;rw [List.length_take] at this;omega
  rw [List.getElem?_take_of_lt bl] at hi
  exact h3 i x bl hi
 rw [List.take_length] at s2 r2
 refine ZK (t:=jd f) s1 (List.pairwise_cons.2 ⟨fun x ay=>?_,dJ⟩) fun v=>?_
 ·have hm:=XE (t:=jd f) ay
  refine sw x ?_
  rw [hw]
  simp only [yl,List.mem_append,List.mem_cons] at hm ⊢
  rcases hm with hm | hm
  ·exact .inl hm
  ·exact .inr (.inr hm)
 ·have e1:=s2 v
  have e2:=r2 v;have e3:kM (yl f k)= ik (sn (jd f)) (yl f k).ws (yl f k).ws.length:=rfl;have e0:kM f= ik (sn (jd f)) f.ws f.ws.length:=rfl
  rw [e0,e1,List.filter_cons,e3,e2]
  conv=>lhs;rw [hw]
  simp only [yl,List.filter_append,List.filter_cons]
  by_cases aw:(jd f m == v)= true
  ·have e4:(f.ws.take k).filter (fun z=>jd f z == v)= []:=by
    rw [List.filter_eq_nil_iff]
    intro x ay
    have:=sx x ay;have:=beq_iff_eq.1 aw
    simp;omega
   rw [e4,if_pos aw,if_pos aw];rfl
  ·rw [if_neg aw,if_neg aw]
open Go.RowKit Go.G9
theorem Fw (b off c k:Nat) (xs:List Int) (n:Int) (az:k≤xs.length) (aY:xs.length≤1048576) (v:Bool) (aw:hasB (xs.take k) n= v) (w:World) (bL:aH 1 bR w (some ⟨b,off,none⟩) xs):
 Calls Tryz.prog 199 #[.slice (some ⟨b,off,none⟩) k c,n] w fun e ag=>e= .returned v∧Below w w ag:=by
 have qX:(xs.take k).length= k:=by rw [List.length_take];omega
 have h:=Am (some ⟨b,off,none⟩) c (xs.take k) n (by omega) v aw w (PU bL k)
 rw [qX] at h;exact h
theorem Dr (b off c k:Nat) (xs:List Int) (n:Int) (az:k≤xs.length) (aY:xs.length≤1048576) (v:Bool) (aw:hasB (xs.take k) n= v) (w:World) (bL:aH 1 bR w (some ⟨b,off,none⟩) xs):
 Calls Tryz.prog 265 #[.slice (some ⟨b,off,none⟩) k c,n] w fun e ag=>e= .returned v∧Below w w ag:=by
 have qX:(xs.take k).length= k:=by rw [List.length_take];omega
 have h:=zr (some ⟨b,off,none⟩) c (xs.take k) n (by omega) v aw w (PU bL k)
 rw [qX] at h;exact h
theorem ahH {af ae sp:Int} {ws:List Int} {U:List aI} (h:fc af 1 3= false):gp af ae sp ws U= false:=by rw [gp,h];simp
theorem ahI {af ae sp:Int} {ws:List Int} {U:List aI} (h:fc ae 1 3600= false):gp af ae sp ws U= false:=by rw [gp,h];simp
theorem Ue {af ae sp:Int} {ws:List Int} {U:List aI} (h0:sp≠0) (h:eG sp= false):gp af ae sp ws U= false:=by rw [gp,h,beq_eq_false_iff_ne.2 h0];simp
theorem Uf {af ae sp:Int} {ws:List Int} {U:List aI} (h:¬ws.length≤10):gp af ae sp ws U= false:=by rw [gp,decide_eq_false h];simp
theorem ahJ {af ae:Int} {ws:List Int} {U:List aI} (h1:fc af 1 3= true) (h2:fc ae 1 3600= true) (h4:ws.length≤10) (h5:sS af ae U= true) (h6:hH (tT af ae 0 ws U) ws.length= true):gp af ae 0 ws U= true:=by
 rw [gp,h1,h2,decide_eq_true h4,h5,h6];rfl
theorem Ug {af ae sp:Int} {ws:List Int} {U:List aI} (h1:fc af 1 3= true) (h2:fc ae 1 3600= true) (h0:sp≠0) (h3:eG sp= true) (h4:ws.length≤10) (h5:sS af ae U= true) (h6:hH (tT af ae sp ws U) ws.length= true):gp af ae sp ws U= decide ((ev U sp).cZ < af):=by
 rw [gp,h1,h2,h3,decide_eq_true h4,h5,h6,Qh,beq_eq_false_iff_ne.2 h0];simp
theorem aaw {p:Prop} (h:p:=by
 obtain⟨b,off,x,rfl,dU,ay,bk⟩:=bN.at_ (Below.refl _ _) bl
 obtain⟨dW,iM,xs⟩:=x
 have f4:=(ai.cell 4).trans (show _= some (.slice (some ⟨b,off,none⟩) U eV) from rfl);have cu:=bk 0 _ rfl;have dI:=bk 1 _ rfl;have dj:=bk 2 _ rfl
 simp only [Nat.add_zero] at cu
 have g0:=cu (ax.self _);have g1:=dI (ax.self _);have g2:=dj (ax.self _)
 simp only [ax.self] at g0
 simp only [ax.self] at g1
 simp only [ax.self] at g2
 have cb:=J ay;clear ay bk
 go_upto_region 6 with fail
 clear f4
 refine cR fun aF ao aQ=>?_
 replace bN:=bN.below ao;replace bI:=bI.below ao;replace I:=ah I ao;have bF:=aQ.cC;replace ai:=ai.to ao
 obtain⟨f0,f1,f2,f3,f4⟩:=ai.aP
 clear cu dI dj g0 g1 g2
 cases h1:eG dW
 ·have H1:=J h1;clear h1
  clear bF;have bF:=aq.jV (fun K:ax aF.heap.size aF=>(aQ.below K.below aQ.lt));clear f0 f1 f2 f3 f4
  obtain⟨f0,f1,f2,f3,f4⟩:=aq.kE (fun K:ax aF.heap.size aF=>(ai.below K.below ai.lt))
  refine ew (by kernel_rfl) (by kernel_rfl) ?_
  repeat (go_big_quiet_step (fail))
  go_big_quiet_step ((go_at_call 123;exact ax.same _ (iT dW _ H1.out _)))
  repeat (go_big_quiet_step (fail))
  refine wpQuiet_nil ?_
  intro K
  go_wp2
  go_ret
  exact⟨ek (FE (zD bl (by cases k with | zero=>(rw [zC cb.out,kL];simp only [H1.out];simp) | succ j=>(have hy:U[j]? =some U[j]:=List.getElem?_eq_getElem (by omega);rw [wG hy cb.out,kL];simp only [H1.out];simp)))).symm,ah I K.below⟩
 have H1:=J h1;clear h1
 cases h2:fc iM 0 af
 ·have gd:=J h2;clear h2
  clear bF;have bF:=aq.jV (fun K:ax aF.heap.size aF=>(aQ.below K.below aQ.lt));clear f0 f1 f2 f3 f4
  obtain⟨f0,f1,f2,f3,f4⟩:=aq.kE (fun K:ax aF.heap.size aF=>(ai.below K.below ai.lt))
  refine ew (by kernel_rfl) (by kernel_rfl) ?_
  repeat (go_big_quiet_step (fail))
  go_big_quiet_step ((go_at_call 123;exact ax.same _ (iT dW _ H1.out _)))
  repeat (go_big_quiet_step (fail))
  go_big_quiet_step ((go_at_call 79;exact ax.same _ (jj iM 0 af _ gd.out _)))
  repeat (go_big_quiet_step (fail))
  refine wpQuiet_nil ?_
  intro K
  go_wp2
  go_ret
  exact⟨ek (FE (zD bl (by cases k with | zero=>(rw [zC cb.out,kL];simp only [H1.out,gd.out];simp) | succ j=>(have hy:U[j]? =some U[j]:=List.getElem?_eq_getElem (by omega);rw [wG hy cb.out,kL];simp only [H1.out,gd.out];simp)))).symm,ah I K.below⟩
 have gd:=J h2;clear h2
 cases h3:fc xs 0 ae
 ·have hv:=J h3;clear h3
  clear bF;have bF:=aq.jV (fun K:ax aF.heap.size aF=>(aQ.below K.below aQ.lt));clear f0 f1 f2 f3 f4
  obtain⟨f0,f1,f2,f3,f4⟩:=aq.kE (fun K:ax aF.heap.size aF=>(ai.below K.below ai.lt))
  refine ew (by kernel_rfl) (by kernel_rfl) ?_
  repeat (go_big_quiet_step (fail))
  go_big_quiet_step ((go_at_call 123;exact ax.same _ (iT dW _ H1.out _)))
  repeat (go_big_quiet_step (fail))
  go_big_quiet_step ((go_at_call 79;exact ax.same _ (jj iM 0 af _ gd.out _)))
  repeat (go_big_quiet_step (fail))
  go_big_quiet_step ((go_at_call 79;exact ax.same _ (jj xs 0 ae _ hv.out _)))
  repeat (go_big_quiet_step (fail))
  refine wpQuiet_nil ?_
  intro K
  go_wp2
  go_ret
  exact⟨ek (FE (zD bl (by cases k with | zero=>(rw [zC cb.out,kL];simp only [H1.out,gd.out,hv.out];simp) | succ j=>(have hy:U[j]? =some U[j]:=List.getElem?_eq_getElem (by omega);rw [wG hy cb.out,kL];simp only [H1.out,gd.out,hv.out];simp)))).symm,ah I K.below⟩
 have hv:=J h3;clear h3;have dq:Hid (kL af ae ⟨dW,iM,xs⟩ =true):=J (by rw [kL];simp only [H1.out,gd.out,hv.out];rfl)
 cases k with
 | zero=>
  clear bF;have bF:=aq.jV (fun K:ax aF.heap.size aF=>(aQ.below K.below aQ.lt));clear f0 f1 f2 f3 f4
  obtain⟨f0,f1,f2,f3,f4⟩:=aq.kE (fun K:ax aF.heap.size aF=>(ai.below K.below ai.lt))
  refine ew (by kernel_rfl) (by kernel_rfl) ?_
  repeat (go_big_quiet_step (fail))
  go_big_quiet_step ((go_at_call 123;exact ax.same _ (iT dW _ H1.out _)))
  repeat (go_big_quiet_step (fail))
  go_big_quiet_step ((go_at_call 79;exact ax.same _ (jj iM 0 af _ gd.out _)))
  repeat (go_big_quiet_step (fail))
  go_big_quiet_step ((go_at_call 79;exact ax.same _ (jj xs 0 ae _ hv.out _)))
  repeat (go_big_quiet_step (fail))
  refine wpQuiet_nil ?_
  intro K
  go_wp2
  go_roundw
  case rel=>exact⟨1,by omega,by go_num,nz cH.out (by rw [zC cb.out];exact dq.out),ah I K.below,ai.below K.below ai.lt⟩
  case measure=>simp [intOf];omega
 | succ j=>
  obtain⟨cL,rT,y,gC,_,hy,db⟩:=bN.at_ (Below.refl _ _) (k:=j) (by omega)
  simp only [Option.some.injEq,Addr.mk.injEq,and_true] at gC
  obtain⟨rfl,rfl⟩:=gC
  obtain⟨oF,px,ys⟩:=y
  have iH:=db 0 _ rfl
  simp only [Nat.add_zero] at iH
  have iv:=J hy;clear hy db
  by_cases zj:oF < dW
  ·have hle:decide (dW≤oF)= false:=decide_eq_false (by omega)
   clear bF;have bF:=aq.jV (fun K:ax aF.heap.size aF=>(aQ.below K.below aQ.lt));clear f0 f1 f2 f3 f4
   obtain⟨f0,f1,f2,f3,f4⟩:=aq.kE (fun K:ax aF.heap.size aF=>(ai.below K.below ai.lt))
   refine ew (by kernel_rfl) (by kernel_rfl) ?_
   repeat (go_big_quiet_step (fail))
   go_big_quiet_step ((go_at_call 123;exact ax.same _ (iT dW _ H1.out _)))
   repeat (go_big_quiet_step (fail))
   go_big_quiet_step ((go_at_call 79;exact ax.same _ (jj iM 0 af _ gd.out _)))
   repeat (go_big_quiet_step (fail))
   go_big_quiet_step ((go_at_call 79;exact ax.same _ (jj xs 0 ae _ hv.out _)))
   repeat (go_big_quiet_step (fail))
   refine wpQuiet_nil ?_
   intro K
   go_wp2
   go_roundw
   case rel=>exact⟨j + 1 + 1,by omega,by go_num,nz cH.out (by rw [wG iv.out cb.out,dq.out,decide_eq_true (show (aI.mem ⟨oF,px,ys⟩) < (aI.mem ⟨dW,iM,xs⟩) from zj)];rfl),ah I K.below,ai.below K.below ai.lt⟩
   case measure=>simp [intOf];omega
  ·have hle:decide (dW≤oF)= true:=decide_eq_true (by omega)
   clear bF;have bF:=aq.jV (fun K:ax aF.heap.size aF=>(aQ.below K.below aQ.lt));clear f0 f1 f2 f3 f4
   obtain⟨f0,f1,f2,f3,f4⟩:=aq.kE (fun K:ax aF.heap.size aF=>(ai.below K.below ai.lt))
   refine ew (by kernel_rfl) (by kernel_rfl) ?_
   repeat (go_big_quiet_step (fail))
   go_big_quiet_step ((go_at_call 123;exact ax.same _ (iT dW _ H1.out _)))
   repeat (go_big_quiet_step (fail))
   go_big_quiet_step ((go_at_call 79;exact ax.same _ (jj iM 0 af _ gd.out _)))
   repeat (go_big_quiet_step (fail))
   go_big_quiet_step ((go_at_call 79;exact ax.same _ (jj xs 0 ae _ hv.out _)))
   repeat (go_big_quiet_step (fail))
   refine wpQuiet_nil ?_
   intro K
   go_wp2
   go_ret
   exact⟨ek (FE (zD bl (by rw [wG iv.out cb.out,dq.out,decide_eq_false (show¬(aI.mem ⟨oF,px,ys⟩) < (aI.mem ⟨dW,iM,xs⟩) from by show¬oF < dW;omega)];rfl))).symm,ah I K.below⟩):p:=h
theorem adD {p:Prop} (h:p:=by
 have hG:=J h1;clear h1
 go_wp2_with fail
 refine (iT m _ hG.out _).mono ?_
 rintro e w0 ⟨rfl,h0⟩
 rw [h0]
 clear h0 w0
 go_wp2
 go_ret
 exact⟨ek (yQ bl (by rw [wN cb.out];simp only [hG.out];simp)).symm,(ah I av)⟩):p:=h
theorem adF {p:Prop} (h:p:=by
 have mC:=J h2
 go_wp2_with fail
 refine (iT m _ hG.out _).mono ?_
 rintro e w0 ⟨rfl,h0⟩
 rw [h0]
 clear h0 w0
 go_wp2
 go_ret
 exact⟨ek (yQ bl (by rw [wN cb.out];simp only [hG.out,mC.out];simp)).symm,(ah I av)⟩):p:=h
theorem acx {p:Prop} (h:p:=by
 have mD:=J h3;clear h3
 go_wp2_with fail
 refine (iT m _ hG.out _).mono ?_
 rintro e w0 ⟨rfl,h0⟩
 rw [h0]
 clear h0 w0
 go_wp2_with fail
 refine (Fw b off _ k ws m (by omega) hw _ mD.out _ (bI.below av)).mono ?_
 rintro e aM ⟨rfl,aN⟩
 have ao:=be wr aN;replace I:=ah I ao;replace bN:=bN.below ao;replace bI:=bI.below ao;replace ai:=ai.to ao;clear f0 f1 f2 f3 f4
 obtain⟨f0,f1,f2,f3,f4⟩:=ai.aP
 go_wp2
 go_ret
 exact⟨ek (yQ bl (by rw [wN cb.out];simp only [hG.out,mC.out,mD.out];simp)).symm,(ah I av)⟩):p:=h
theorem adg {p:Prop} (h:p:=by
 rintro e bB ⟨rfl,bG⟩
 have aK:=be aM bG;replace I:=ah I aK;replace bN:=bN.below aK;replace bI:=bI.below aK;replace ai:=ai.to aK;clear f0 f1 f2 f3 f4
 obtain⟨f0,f1,f2,f3,f4⟩:=ai.aP
 go_wp2
 go_ret
 exact⟨ek (yQ bl (by rw [wN cb.out];simp only [hG.out,mC.out,mD.out,oH.out];simp)).symm,(ah I av)⟩):p:=h
theorem acQ {p:Prop} (h:p:=by
 rintro e bB ⟨rfl,bG⟩
 have aK:=be aM bG;replace I:=ah I aK;replace bN:=bN.below aK;replace bI:=bI.below aK;replace ai:=ai.to aK;clear f0 f1 f2 f3 f4
 obtain⟨f0,f1,f2,f3,f4⟩:=ai.aP
 go_wp2
 go_roundw
 case rel=>exact⟨k + 1,by omega,by go_num,nz cH.out (by rw [wN cb.out];simp only [hG.out,mC.out,mD.out,oH.out];rfl),I,ai⟩
 case measure=>simp [intOf];omega):p:=h
theorem aaE {p:Prop} (h:p:=by
 refine ew (by kernel_rfl) (by kernel_rfl) ?_
 repeat (go_big_quiet_step (fail))
 refine wpQuiet_nil ?_
 intro K
 go_wp2
 go_ret
 exact⟨ek (ahJ H1.out gd.out h4 mi.out cH.out).symm,ah I K.below⟩):p:=h
theorem akV (af ae:Int) (W:Option Addr) (ws:List Int) (wc:Nat) (S:Option Addr) (eV:Nat) (U:List aI) (hw:ws.length≤1048576) (aY:U.length≤1048576) (aE:ws.length≤wc) (h1:fc af 1 3= true) (h2:fc ae 1 3600= true) (h4:ws.length≤10) (w:World) (bI:aH 1 bR w W ws) (bN:aH 3 aI.cells w S U):
 Calls Tryz.prog 119 #[.agg #[af,ae,(0:Int),.slice W ws wc,.slice S U eV]] w fun e ag=>e= .returned (.bool (gp af ae 0 ws U))∧Below w w ag:=by
 have H1:=J h1;have gd:=J h2;clear h1 h2
 skip
 go_in
 have uJ:=J bN;have xy:=J bI
 go_upto_region 1 with fail
 refine cR fun aF au ai=>?_
 replace bN:=bN.below au;replace bI:=bI.below au;have I:=au
 obtain⟨f0,f1,f2,f3,f4⟩:=ai.aP
 go_wp2_with fail
 refine (jj af 1 3 _ H1.out _).mono ?_
 rintro e w0 ⟨rfl,h0⟩
 rw [h0]
 clear h0 w0
 go_wp2_with fail
 refine (jj ae 1 3600 _ gd.out _).mono ?_
 rintro e w0 ⟨rfl,h0⟩
 rw [h0]
 clear h0 w0
 skip
 go_wp2
 go_loopw [37] (fun i wr=>∃k:Nat,k≤U.length∧i= .int .i64 k∧hH (sb af ae U) k= true∧Below w w wr∧aq wr w.heap.size 41 #[af,ae,(0:Int),.slice W ws wc,.slice S U eV]) (fun i _=>U.length - (intOf i).toNat)
 case atStart=>exact⟨0,Nat.zero_le _,rfl,rfl,I,ai⟩
 case round=>
  clear bN bI I f0 f1 f2 f3 f4 ai
  obtain⟨k,az,rfl,aS,aB,ai⟩:=hrel
  have cH:=J aS;clear aS;have bN:=uJ.out;have bI:=xy.out;have au:=be w aB;have I:Below w w wr:=au;replace bN:=bN.below au;replace bI:=bI.below au
  by_cases bl:k < U.length
  ·exact aaw
  ·obtain⟨f0,f1,f2,f3,f4⟩:=ai.aP
   obtain rfl:k= U.length:=by omega
   have mi:Hid (sS af ae U= true):=J cH.out;clear cH
   go_upto_region 9 with fail
   go_wp2
   clear f0 f1 f2 f3 f4
   go_loopw [82] (fun i wr=>∃k:Nat,k≤ws.length∧i= .int .i64 k∧hH (tT af ae 0 ws U) k= true∧Below w w wr∧aq wr w.heap.size 41 #[af,ae,(0:Int),.slice W ws wc,.slice S U eV]) (fun i _=>ws.length - (intOf i).toNat)
   case atStart=>exact⟨0,Nat.zero_le _,rfl,rfl,I,ai⟩
   case round=>
    clear bN bI I ai
    obtain⟨k,az,rfl,aS,aB,ai⟩:=hrel
    have cH:=J aS;clear aS;have bN:=uJ.out;have bI:=xy.out;have au:=be w aB;have I:Below w w wr:=au;replace bN:=bN.below au;replace bI:=bI.below au
    by_cases bl:k < ws.length
    ·obtain⟨b,off,m,rfl,dU,ay,bk⟩:=bI.at_ (Below.refl _ _) bl
     have cu:=bk 0 _ rfl
     simp only [Nat.mul_one,Nat.add_zero] at cu
     have g0:=cu (ax.self _)
     simp only [ax.self] at g0
     have cb:=J ay;clear ay bk cu
     obtain⟨f0,f1,f2,f3,f4⟩:=ai.aP
     have AA:(k:Int)≤(wc:Int):=by omega
     go_upto_region 12 with fail
     clear g0
     cases h1:eG m
     ·exact adD
     have hG:=J h1;clear h1
     by_cases h2:(m == 0)= true
     ·exact adF
     replace h2:=Bool.eq_false_iff.2 h2;have mC:=J h2
     by_cases h3:hasB (ws.take k) m= true
     ·exact acx
     replace h3:=Bool.eq_false_iff.2 h3;have mD:=J h3;clear h3
     cases h4:oN af ae (ev U m)
     ·have oH:=J h4;clear h4
      go_wp2_with fail
      refine (iT m _ hG.out _).mono ?_
      rintro e w0 ⟨rfl,h0⟩
      rw [h0]
      clear h0 w0
      go_wp2_with fail
      refine (Fw b off _ k ws m (by omega) hw _ mD.out _ (bI.below av)).mono ?_
      rintro e aM ⟨rfl,aN⟩
      have ao:=be wr aN;replace I:=ah I ao;replace bN:=bN.below ao;replace bI:=bI.below ao;replace ai:=ai.to ao;clear f0 f1 f2 f3 f4
      obtain⟨f0,f1,f2,f3,f4⟩:=ai.aP
      go_wp2_with fail
      refine (AS af ae 0 (some ⟨b,off,none⟩) ws.length wc S eV U aY m _ oH.out _ (bN.below av)).mono ?_
      exact adg
     ·have oH:=J h4;clear h4
      go_wp2_with fail
      refine (iT m _ hG.out _).mono ?_
      rintro e w0 ⟨rfl,h0⟩
      rw [h0]
      clear h0 w0
      go_wp2_with fail
      refine (Fw b off _ k ws m (by omega) hw _ mD.out _ (bI.below av)).mono ?_
      rintro e aM ⟨rfl,aN⟩
      have ao:=be wr aN;replace I:=ah I ao;replace bN:=bN.below ao;replace bI:=bI.below ao;replace ai:=ai.to ao;clear f0 f1 f2 f3 f4
      obtain⟨f0,f1,f2,f3,f4⟩:=ai.aP
      go_wp2_with fail
      refine (AS af ae 0 (some ⟨b,off,none⟩) ws.length wc S eV U aY m _ oH.out _ (bN.below av)).mono ?_
      exact acQ
    ·obtain rfl:k= ws.length:=by omega
     obtain⟨f0,f1,f2,f3,f4⟩:=ai.aP
     go_upto_region 15 with fail
     clear f0 f1 f2 f3 f4
     obtain⟨f0,f1,f2,f3,f4⟩:=aq.kE (fun K:ax wr.heap.size wr=>(ai.below K.below ai.lt))
     exact aaE
theorem adG {p:Prop} (h:p:=by
 repeat (go_big_quiet_step (fail))
 refine wpQuiet_nil ?_
 intro K
 go_wp2
 go_ret
 exact⟨ek (by rw [Ug H1.out gd.out h0 hv.out h4 mi.out cH.out,eA.out,decide_eq_true (show (aI.cZ ⟨sm,st,cn⟩) < af from iS)]),ah I K.below⟩):p:=h
theorem adw {p:Prop} (h:p:=by
 repeat (go_big_quiet_step (fail))
 refine wpQuiet_nil ?_
 intro K
 go_wp2
 go_ret
 exact⟨ek (by rw [Ug H1.out gd.out h0 hv.out h4 mi.out cH.out,eA.out,decide_eq_false (show¬(aI.cZ ⟨sm,st,cn⟩) < af from by show¬st < af;omega)]),ah I K.below⟩):p:=h
theorem akU (af ae sp:Int) (W:Option Addr) (ws:List Int) (wc:Nat) (S:Option Addr) (eV:Nat) (U:List aI) (hw:ws.length≤1048576) (aY:U.length≤1048576) (aE:ws.length≤wc) (h1:fc af 1 3= true) (h2:fc ae 1 3600= true) (h0:sp≠0) (h3:eG sp= true) (h4:ws.length≤10) (w:World) (bI:aH 1 bR w W ws) (bN:aH 3 aI.cells w S U):
 Calls Tryz.prog 119 #[.agg #[af,ae,sp,.slice W ws wc,.slice S U eV]] w fun e ag=>e= .returned (.bool (gp af ae sp ws U))∧Below w w ag:=by
 have H1:=J h1;have gd:=J h2;clear h1 h2;have hv:=J h3;clear h3
 go_in
 have uJ:=J bN;have xy:=J bI
 go_upto_region 1 with fail
 refine cR fun aF au ai=>?_
 replace bN:=bN.below au;replace bI:=bI.below au;have I:=au
 obtain⟨f0,f1,f2,f3,f4⟩:=ai.aP
 go_wp2_with fail
 refine (jj af 1 3 _ H1.out _).mono ?_
 rintro e w0 ⟨rfl,h0⟩
 rw [h0]
 clear h0 w0
 go_wp2_with fail
 refine (jj ae 1 3600 _ gd.out _).mono ?_
 rintro e w0 ⟨rfl,h0⟩
 rw [h0]
 clear h0 w0
 go_wp2_with fail
 refine (iT sp _ hv.out _).mono ?_
 rintro e w0 ⟨rfl,h0⟩
 rw [h0]
 clear h0 w0
 go_wp2
 go_loopw [37] (fun i wr=>∃k:Nat,k≤U.length∧i= .int .i64 k∧hH (sb af ae U) k= true∧Below w w wr∧aq wr w.heap.size 41 #[af,ae,sp,.slice W ws wc,.slice S U eV]) (fun i _=>U.length - (intOf i).toNat)
 case atStart=>exact⟨0,Nat.zero_le _,rfl,rfl,I,ai⟩
 case round=>
  clear bN bI I f0 f1 f2 f3 f4 ai
  obtain⟨k,az,rfl,aS,aB,ai⟩:=hrel
  have cH:=J aS;clear aS;have bN:=uJ.out;have bI:=xy.out;have au:=be w aB;have I:Below w w wr:=au;replace bN:=bN.below au;replace bI:=bI.below au
  by_cases bl:k < U.length
  ·exact aaw
  ·obtain⟨f0,f1,f2,f3,f4⟩:=ai.aP
   obtain rfl:k= U.length:=by omega
   have mi:Hid (sS af ae U= true):=J cH.out;clear cH
   go_upto_region 9 with fail
   go_wp2
   clear f0 f1 f2 f3 f4
   go_loopw [82] (fun i wr=>∃k:Nat,k≤ws.length∧i= .int .i64 k∧hH (tT af ae sp ws U) k= true∧Below w w wr∧aq wr w.heap.size 41 #[af,ae,sp,.slice W ws wc,.slice S U eV]) (fun i _=>ws.length - (intOf i).toNat)
   case atStart=>exact⟨0,Nat.zero_le _,rfl,rfl,I,ai⟩
   case round=>
    clear bN bI I ai
    obtain⟨k,az,rfl,aS,aB,ai⟩:=hrel
    have cH:=J aS;clear aS;have bN:=uJ.out;have bI:=xy.out;have au:=be w aB;have I:Below w w wr:=au;replace bN:=bN.below au;replace bI:=bI.below au
    by_cases bl:k < ws.length
    ·obtain⟨b,off,m,rfl,dU,ay,bk⟩:=bI.at_ (Below.refl _ _) bl
     have cu:=bk 0 _ rfl
     simp only [Nat.mul_one,Nat.add_zero] at cu
     have g0:=cu (ax.self _)
     simp only [ax.self] at g0
     have cb:=J ay;clear ay bk cu
     obtain⟨f0,f1,f2,f3,f4⟩:=ai.aP
     have AA:(k:Int)≤(wc:Int):=by omega
     go_upto_region 12 with fail
     clear g0
     cases h1:eG m
     ·exact adD
     have hG:=J h1;clear h1
     by_cases h2:(m == sp)= true
     ·exact adF
     replace h2:=Bool.eq_false_iff.2 h2;have mC:=J h2
     by_cases h3:hasB (ws.take k) m= true
     ·exact acx
     replace h3:=Bool.eq_false_iff.2 h3;have mD:=J h3;clear h3
     cases h4:oN af ae (ev U m)
     ·have oH:=J h4;clear h4
      go_wp2_with fail
      refine (iT m _ hG.out _).mono ?_
      rintro e w0 ⟨rfl,h0⟩
      rw [h0]
      clear h0 w0
      go_wp2_with fail
      refine (Fw b off _ k ws m (by omega) hw _ mD.out _ (bI.below av)).mono ?_
      rintro e aM ⟨rfl,aN⟩
      have ao:=be wr aN;replace I:=ah I ao;replace bN:=bN.below ao;replace bI:=bI.below ao;replace ai:=ai.to ao;clear f0 f1 f2 f3 f4
      obtain⟨f0,f1,f2,f3,f4⟩:=ai.aP
      go_wp2_with fail
      refine (AS af ae sp (some ⟨b,off,none⟩) ws.length wc S eV U aY m _ oH.out _ (bN.below av)).mono ?_
      exact adg
     ·have oH:=J h4;clear h4
      go_wp2_with fail
      refine (iT m _ hG.out _).mono ?_
      rintro e w0 ⟨rfl,h0⟩
      rw [h0]
      clear h0 w0
      go_wp2_with fail
      refine (Fw b off _ k ws m (by omega) hw _ mD.out _ (bI.below av)).mono ?_
      rintro e aM ⟨rfl,aN⟩
      have ao:=be wr aN;replace I:=ah I ao;replace bN:=bN.below ao;replace bI:=bI.below ao;replace ai:=ai.to ao;clear f0 f1 f2 f3 f4
      obtain⟨f0,f1,f2,f3,f4⟩:=ai.aP
      go_wp2_with fail
      refine (AS af ae sp (some ⟨b,off,none⟩) ws.length wc S eV U aY m _ oH.out _ (bN.below av)).mono ?_
      exact acQ
    ·obtain rfl:k= ws.length:=by omega
     obtain⟨f0,f1,f2,f3,f4⟩:=ai.aP
     go_upto_region 15 with fail
     have dy:(sp == 0)= false:=beq_eq_false_iff_ne.2 h0;have EZ:=J bN
     obtain⟨s,aX⟩ :∃s,ev U sp= s:=⟨_,rfl⟩
     have eA:=J aX;clear aX
     obtain⟨sm,st,cn⟩:=s
     have sD:∀W:World,(Instr.field 214 (.agg #[sm,st,cn]) 1).run Tryz.prog W= .ok (.int .i64 st) W:=fun _=>by kernel_rfl
     by_cases iS:st < af
     ·have NO:decide (st < af)= true:=decide_eq_true iS
      clear f0 f1 f2 f3 f4
      obtain⟨f0,f1,f2,f3,f4⟩:=aq.kE (fun K:ax wr.heap.size wr=>(ai.below K.below ai.lt))
      refine ew (by kernel_rfl) (by kernel_rfl) ?_
      repeat (go_big_quiet_step (fail))
      go_big_quiet_step ((go_at_call 201;exact ax.call _ (by first | exact Nat.le_refl _ | omega) (yi af ae sp W ws.length wc S eV U aY sp _ eA.out _ (EZ.out.below (ax.below _)))))
      exact adG
     ·have NO:decide (st < af)= false:=decide_eq_false iS
      clear f0 f1 f2 f3 f4
      obtain⟨f0,f1,f2,f3,f4⟩:=aq.kE (fun K:ax wr.heap.size wr=>(ai.below K.below ai.lt))
      refine ew (by kernel_rfl) (by kernel_rfl) ?_
      repeat (go_big_quiet_step (fail))
      go_big_quiet_step ((go_at_call 201;exact ax.call _ (by first | exact Nat.le_refl _ | omega) (yi af ae sp W ws.length wc S eV U aY sp _ eA.out _ (EZ.out.below (ax.below _)))))
      exact adw
theorem abG {p:Prop} (h:p:=by
 rintro e w0 ⟨rfl,h0⟩
 rw [h0]
 clear h0 w0
 go_wp2
 go_ret
 exact⟨ek (ahH H1.out).symm,(ah I av)⟩):p:=h
theorem abI {p:Prop} (h:p:=by
 rintro e w0 ⟨rfl,h0⟩
 rw [h0]
 clear h0 w0
 go_wp2
 go_ret
 exact⟨ek (ahI gd.out).symm,(ah I av)⟩):p:=h
theorem abL {p:Prop} (h:p:=by
 rintro e w0 ⟨rfl,h0⟩
 rw [h0]
 clear h0 w0
 go_wp2
 go_ret
 exact⟨ek (Uf h4).symm,(ah I av)⟩):p:=h
theorem mP (af ae sp:Int) (W:Option Addr) (ws:List Int) (wc:Nat) (S:Option Addr) (eV:Nat) (U:List aI) (hw:ws.length≤1048576) (aY:U.length≤1048576) (aE:ws.length≤wc) (v:Bool) (aw:gp af ae sp ws U= v) (w:World) (bI:aH 1 bR w W ws) (bN:aH 3 aI.cells w S U):
 Calls Tryz.prog 119 #[.agg #[af,ae,sp,.slice W ws wc,.slice S U eV]] w fun e ag=>e= .returned v∧Below w w ag:=by
 subst aw
 cases h1:fc af 1 3
 ·have H1:=J h1
  go_in
  go_upto_region 1 with fail
  refine cR fun aF au ai=>?_
  replace bN:=bN.below au;have I:=au;have aD:=ai.aP
  go_wp2_with fail
  refine (jj af 1 3 _ H1.out _).mono ?_
  exact abG
 cases h2:fc ae 1 3600
 ·have H1:=J h1
  have gd:=J h2
  go_in
  go_upto_region 1 with fail
  refine cR fun aF au ai=>?_
  replace bN:=bN.below au;have I:=au;have aD:=ai.aP
  go_wp2_with fail
  refine (jj af 1 3 _ H1.out _).mono ?_
  rintro e w0 ⟨rfl,h0⟩
  rw [h0]
  clear h0 w0
  go_wp2_with fail
  refine (jj ae 1 3600 _ gd.out _).mono ?_
  exact abI
 by_cases h0:sp= 0
 ·subst h0
  by_cases h4:ws.length≤10
  ·exact akV af ae W ws wc S eV U hw aY aE h1 h2 h4 w bI bN
  ·have H1:=J h1
   have gd:=J h2
   go_in
   go_upto_region 1 with fail
   refine cR fun aF au ai=>?_
   replace bN:=bN.below au;have I:=au;have aD:=ai.aP
   go_wp2_with fail
   refine (jj af 1 3 _ H1.out _).mono ?_
   rintro e w0 ⟨rfl,h0⟩
   rw [h0]
   clear h0 w0
   go_wp2_with fail
   refine (jj ae 1 3600 _ gd.out _).mono ?_
   exact abL
 cases h3:eG sp
 ·have H1:=J h1
  have gd:=J h2;have hv:=J h3
  have eP:(sp != 0)= true:=by simp [h0]
  go_in
  go_upto_region 1 with fail
  refine cR fun aF au ai=>?_
  replace bN:=bN.below au;have I:=au;have aD:=ai.aP
  go_wp2_with fail
  refine (jj af 1 3 _ H1.out _).mono ?_
  rintro e w0 ⟨rfl,h0⟩
  rw [h0]
  clear h0 w0
  go_wp2_with fail
  refine (jj ae 1 3600 _ gd.out _).mono ?_
  rintro e w0 ⟨rfl,h0⟩
  rw [h0]
  clear h0 w0
  go_wp2_with fail
  refine (iT sp _ hv.out _).mono ?_
  rintro e w0 ⟨rfl,h0⟩
  rw [h0]
  clear h0 w0
  go_wp2
  go_ret
  exact⟨ek (Ue h0 hv.out).symm,(ah I av)⟩
 by_cases h4:ws.length≤10
 ·exact akU af ae sp W ws wc S eV U hw aY aE h1 h2 h0 h3 h4 w bI bN
 ·have H1:=J h1
  have gd:=J h2;have hv:=J h3
  have eP:(sp != 0)= true:=by simp [h0]
  go_in
  go_upto_region 1 with fail
  refine cR fun aF au ai=>?_
  replace bN:=bN.below au;have I:=au;have aD:=ai.aP
  go_wp2_with fail
  refine (jj af 1 3 _ H1.out _).mono ?_
  rintro e w0 ⟨rfl,h0⟩
  rw [h0]
  clear h0 w0
  go_wp2_with fail
  refine (jj ae 1 3600 _ gd.out _).mono ?_
  rintro e w0 ⟨rfl,h0⟩
  rw [h0]
  clear h0 w0
  go_wp2_with fail
  refine (iT sp _ hv.out _).mono ?_
  exact abL
theorem adE {p:Prop} (h:p:=by
 have hG:=J h1;clear h1
 go_wp2_with fail
 refine (iG m _ hG.out _).mono ?_
 rintro e w0 ⟨rfl,h0⟩
 rw [h0]
 clear h0 w0
 go_wp2
 go_ret
 exact⟨ek (yQ bl (by rw [wN cb.out];simp only [hG.out];simp)).symm,(ah I av)⟩):p:=h
theorem acH {p:Prop} (h:p:=by
 have mD:=J h3;clear h3
 go_wp2_with fail
 refine (iG m _ hG.out _).mono ?_
 rintro e w0 ⟨rfl,h0⟩
 rw [h0]
 clear h0 w0
 go_wp2_with fail
 refine (Dr b off _ k ws m (by omega) hw _ mD.out _ (bI.below av)).mono ?_
 rintro e aM ⟨rfl,aN⟩
 have ao:=be wr aN;replace I:=ah I ao;replace bN:=bN.below ao;replace bI:=bI.below ao;replace ai:=ai.to ao;clear aD;have aD:=ai.aP
 go_wp2
 go_ret
 exact⟨ek (yQ bl (by rw [wN cb.out];simp only [hG.out,mD.out];simp)).symm,(ah I av)⟩):p:=h
theorem acI {p:Prop} (h:p:=by
 have mC:=J h2
 go_wp2_with fail
 refine (iG m _ hG.out _).mono ?_
 rintro e w0 ⟨rfl,h0⟩
 rw [h0]
 clear h0 w0
 go_wp2_with fail
 refine (Dr b off _ k ws m (by omega) hw _ mD.out _ (bI.below av)).mono ?_
 rintro e aM ⟨rfl,aN⟩
 have ao:=be wr aN;replace I:=ah I ao;replace bN:=bN.below ao;replace bI:=bI.below ao;replace ai:=ai.to ao;clear aD;have aD:=ai.aP
 go_wp2
 go_ret
 exact⟨ek (yQ bl (by rw [wN cb.out];simp only [hG.out,mC.out,mD.out];simp)).symm,(ah I av)⟩):p:=h
theorem adq {p:Prop} (h:p:=by
 rintro e bB ⟨rfl,bG⟩
 have aK:=be aM bG;replace I:=ah I aK;replace bN:=bN.below aK;replace bI:=bI.below aK;replace ai:=ai.to aK;clear aD;have aD:=ai.aP
 go_wp2
 go_ret
 exact⟨ek (yQ bl (by rw [wN cb.out];simp only [hG.out,mC.out,mD.out,oH.out];simp)).symm,(ah I av)⟩):p:=h
theorem acZ {p:Prop} (h:p:=by
 rintro e bB ⟨rfl,bG⟩
 have aK:=be aM bG;replace I:=ah I aK;replace bN:=bN.below aK;replace bI:=bI.below aK;replace ai:=ai.to aK;clear aD;have aD:=ai.aP
 go_wp2
 go_roundw
 case rel=>exact⟨k + 1,by omega,by go_num,nz cH.out (by rw [wN cb.out];simp only [hG.out,mC.out,mD.out,oH.out];rfl),I,ai⟩
 case measure=>simp [intOf];omega):p:=h
theorem apF (af ae:Int) (W:Option Addr) (ws:List Int) (wc:Nat) (S:Option Addr) (eV:Nat) (U:List aI) (hw:ws.length≤1048576) (aY:U.length≤1048576) (aE:ws.length≤wc) (h1:fc af 1 3= true) (h2:fc ae 1 3600= true) (h4:ws.length≤10) (h5:sS af ae U= true) (w:World) (bI:aH 1 bR w W ws) (bN:aH 3 aI.cells w S U):
 Calls Tryz.prog 184 #[.agg #[af,ae,(0:Int),.slice W ws wc,.slice S U eV]] w fun e ag=>e= .returned (.bool (gp af ae 0 ws U))∧Below w w ag:=by
 have H1:=J h1;have gd:=J h2;have mi:=J h5;clear h1 h2 h5
 go_in
 have uJ:=J bN;have xy:=J bI
 go_upto_region 1 with fail
 refine cR fun aF au ai=>?_
 replace bN:=bN.below au;replace bI:=bI.below au;have I:=au;have aD:=ai.aP
 go_wp2_with fail
 refine (jF af 1 3 _ H1.out _).mono ?_
 rintro e w0 ⟨rfl,h0⟩
 rw [h0]
 clear h0 w0
 go_wp2_with fail
 refine (jF ae 1 3600 _ gd.out _).mono ?_
 rintro e w0 ⟨rfl,h0⟩
 rw [h0]
 clear h0 w0
 go_wp2_with fail
 refine (JS af ae 0 W ws wc S eV U hw aY _ mi.out _ (bI.below av) (bN.below av)).mono ?_
 rintro e aM ⟨rfl,aN⟩
 have ao:=be aF aN;replace I:=ah I ao;replace bN:=bN.below ao;replace bI:=bI.below ao;replace ai:=ai.to ao;clear aD;have aD:=ai.aP
 go_wp2
 clear aD
 go_loopw [3] (fun i wr=>∃k:Nat,k≤ws.length∧i= .int .i64 k∧hH (tT af ae 0 ws U) k= true∧Below w w wr∧aq wr w.heap.size 41 #[af,ae,(0:Int),.slice W ws wc,.slice S U eV]) (fun i _=>ws.length - (intOf i).toNat)
 case atStart=>exact⟨0,Nat.zero_le _,rfl,rfl,I,ai⟩
 case round=>
  clear bN bI I ai
  obtain⟨k,az,rfl,aS,aB,ai⟩:=hrel
  have cH:=J aS;clear aS;have bN:=uJ.out;have bI:=xy.out;have au:=be w aB;have I:Below w w wr:=au;replace bN:=bN.below au;replace bI:=bI.below au
  by_cases bl:k < ws.length
  ·obtain⟨b,off,m,rfl,dU,ay,bk⟩:=bI.at_ (Below.refl _ _) bl
   have cu:=bk 0 _ rfl
   simp only [Nat.mul_one,Nat.add_zero] at cu
   have g0:=cu (ax.self _)
   simp only [ax.self] at g0
   have cb:=J ay;clear ay bk cu;have aD:=ai.aP
   have AA:(k:Int)≤(wc:Int):=by omega
   go_upto_region 7 with fail
   clear g0
   cases h1:eG m
   ·exact adE
   have hG:=J h1;clear h1
   by_cases h3:hasB (ws.take k) m= true
   ·exact acH
   replace h3:=Bool.eq_false_iff.2 h3;have mD:=J h3;clear h3
   by_cases h2:(m == 0)= true
   ·exact acI
   replace h2:=Bool.eq_false_iff.2 h2;have mC:=J h2
   cases h4:oN af ae (ev U m)
   ·have oH:=J h4;clear h4
    go_wp2_with fail
    refine (iG m _ hG.out _).mono ?_
    rintro e w0 ⟨rfl,h0⟩
    rw [h0]
    clear h0 w0
    go_wp2_with fail
    refine (Dr b off _ k ws m (by omega) hw _ mD.out _ (bI.below av)).mono ?_
    rintro e aM ⟨rfl,aN⟩
    have ao:=be wr aN;replace I:=ah I ao;replace bN:=bN.below ao;replace bI:=bI.below ao;replace ai:=ai.to ao;clear aD;have aD:=ai.aP
    go_wp2_with fail
    refine (AY af ae 0 (some ⟨b,off,none⟩) ws.length wc S eV U aY m _ oH.out _ (bN.below av)).mono ?_
    exact adq
   ·have oH:=J h4;clear h4
    go_wp2_with fail
    refine (iG m _ hG.out _).mono ?_
    rintro e w0 ⟨rfl,h0⟩
    rw [h0]
    clear h0 w0
    go_wp2_with fail
    refine (Dr b off _ k ws m (by omega) hw _ mD.out _ (bI.below av)).mono ?_
    rintro e aM ⟨rfl,aN⟩
    have ao:=be wr aN;replace I:=ah I ao;replace bN:=bN.below ao;replace bI:=bI.below ao;replace ai:=ai.to ao;clear aD;have aD:=ai.aP
    go_wp2_with fail
    refine (AY af ae 0 (some ⟨b,off,none⟩) ws.length wc S eV U aY m _ oH.out _ (bN.below av)).mono ?_
    exact acZ
  ·obtain rfl:k= ws.length:=by omega
   have aD:=ai.aP
   go_upto_region 9 with fail
   clear aD;have aD:=aq.kE (fun K:ax wr.heap.size wr=>(ai.below K.below ai.lt))
   exact aaE
theorem apE (af ae sp:Int) (W:Option Addr) (ws:List Int) (wc:Nat) (S:Option Addr) (eV:Nat) (U:List aI) (hw:ws.length≤1048576) (aY:U.length≤1048576) (aE:ws.length≤wc) (h1:fc af 1 3= true) (h2:fc ae 1 3600= true) (h0:sp≠0) (h4:ws.length≤10) (h5:sS af ae U= true) (w:World) (bI:aH 1 bR w W ws) (bN:aH 3 aI.cells w S U):
 Calls Tryz.prog 184 #[.agg #[af,ae,sp,.slice W ws wc,.slice S U eV]] w fun e ag=>e= .returned (.bool (gp af ae sp ws U))∧Below w w ag:=by
 have H1:=J h1;have gd:=J h2;have mi:=J h5;clear h1 h2 h5
 go_in
 have uJ:=J bN;have xy:=J bI
 go_upto_region 1 with fail
 refine cR fun aF au ai=>?_
 replace bN:=bN.below au;replace bI:=bI.below au;have I:=au;have aD:=ai.aP
 go_wp2_with fail
 refine (jF af 1 3 _ H1.out _).mono ?_
 rintro e w0 ⟨rfl,h0⟩
 rw [h0]
 clear h0 w0
 go_wp2_with fail
 refine (jF ae 1 3600 _ gd.out _).mono ?_
 rintro e w0 ⟨rfl,h0⟩
 rw [h0]
 clear h0 w0
 go_wp2_with fail
 refine (JS af ae sp W ws wc S eV U hw aY _ mi.out _ (bI.below av) (bN.below av)).mono ?_
 rintro e aM ⟨rfl,aN⟩
 have ao:=be aF aN;replace I:=ah I ao;replace bN:=bN.below ao;replace bI:=bI.below ao;replace ai:=ai.to ao;clear aD;have aD:=ai.aP
 go_wp2
 clear aD
 go_loopw [3] (fun i wr=>∃k:Nat,k≤ws.length∧i= .int .i64 k∧hH (tT af ae sp ws U) k= true∧Below w w wr∧aq wr w.heap.size 41 #[af,ae,sp,.slice W ws wc,.slice S U eV]) (fun i _=>ws.length - (intOf i).toNat)
 case atStart=>exact⟨0,Nat.zero_le _,rfl,rfl,I,ai⟩
 case round=>
  clear bN bI I ai
  obtain⟨k,az,rfl,aS,aB,ai⟩:=hrel
  have cH:=J aS;clear aS;have bN:=uJ.out;have bI:=xy.out;have au:=be w aB;have I:Below w w wr:=au;replace bN:=bN.below au;replace bI:=bI.below au
  by_cases bl:k < ws.length
  ·obtain⟨b,off,m,rfl,dU,ay,bk⟩:=bI.at_ (Below.refl _ _) bl
   have cu:=bk 0 _ rfl
   simp only [Nat.mul_one,Nat.add_zero] at cu
   have g0:=cu (ax.self _)
   simp only [ax.self] at g0
   have cb:=J ay;clear ay bk cu;have aD:=ai.aP
   have AA:(k:Int)≤(wc:Int):=by omega
   go_upto_region 7 with fail
   clear g0
   cases h1:eG m
   ·exact adE
   have hG:=J h1;clear h1
   by_cases h3:hasB (ws.take k) m= true
   ·exact acH
   replace h3:=Bool.eq_false_iff.2 h3;have mD:=J h3;clear h3
   by_cases h2:(m == sp)= true
   ·exact acI
   replace h2:=Bool.eq_false_iff.2 h2;have mC:=J h2
   cases h4:oN af ae (ev U m)
   ·have oH:=J h4;clear h4
    go_wp2_with fail
    refine (iG m _ hG.out _).mono ?_
    rintro e w0 ⟨rfl,h0⟩
    rw [h0]
    clear h0 w0
    go_wp2_with fail
    refine (Dr b off _ k ws m (by omega) hw _ mD.out _ (bI.below av)).mono ?_
    rintro e aM ⟨rfl,aN⟩
    have ao:=be wr aN;replace I:=ah I ao;replace bN:=bN.below ao;replace bI:=bI.below ao;replace ai:=ai.to ao;clear aD;have aD:=ai.aP
    go_wp2_with fail
    refine (AY af ae sp (some ⟨b,off,none⟩) ws.length wc S eV U aY m _ oH.out _ (bN.below av)).mono ?_
    exact adq
   ·have oH:=J h4;clear h4
    go_wp2_with fail
    refine (iG m _ hG.out _).mono ?_
    rintro e w0 ⟨rfl,h0⟩
    rw [h0]
    clear h0 w0
    go_wp2_with fail
    refine (Dr b off _ k ws m (by omega) hw _ mD.out _ (bI.below av)).mono ?_
    rintro e aM ⟨rfl,aN⟩
    have ao:=be wr aN;replace I:=ah I ao;replace bN:=bN.below ao;replace bI:=bI.below ao;replace ai:=ai.to ao;clear aD;have aD:=ai.aP
    go_wp2_with fail
    refine (AY af ae sp (some ⟨b,off,none⟩) ws.length wc S eV U aY m _ oH.out _ (bN.below av)).mono ?_
    exact acZ
  ·obtain rfl:k= ws.length:=by omega
   have aD:=ai.aP
   go_upto_region 9 with fail
   have dy:(sp == 0)= false:=beq_eq_false_iff_ne.2 h0;have EZ:=J bN
   obtain⟨s,aX⟩ :∃s,ev U sp= s:=⟨_,rfl⟩
   have eA:=J aX;clear aX
   obtain⟨sm,st,cn⟩:=s
   have sD:∀W:World,(Instr.field 214 (.agg #[sm,st,cn]) 1).run Tryz.prog W= .ok (.int .i64 st) W:=fun _=>by kernel_rfl
   cases h3:eG sp
   ·have hv:=J h3;clear h3
    clear aD;have aD:=aq.kE (fun K:ax wr.heap.size wr=>(ai.below K.below ai.lt))
    refine ew (by kernel_rfl) (by kernel_rfl) ?_
    repeat (go_big_quiet_step (fail))
    go_big_quiet_step ((go_at_call 162;exact ax.same _ (iG sp _ hv.out _)))
    repeat (go_big_quiet_step (fail))
    refine wpQuiet_nil ?_
    intro K
    go_wp2
    go_ret
    exact⟨ek (Ue h0 hv.out).symm,ah I K.below⟩
   have hv:=J h3;clear h3
   by_cases iS:st < af
   ·have NO:decide (st < af)= true:=decide_eq_true iS
    clear aD;have aD:=aq.kE (fun K:ax wr.heap.size wr=>(ai.below K.below ai.lt))
    refine ew (by kernel_rfl) (by kernel_rfl) ?_
    repeat (go_big_quiet_step (fail))
    go_big_quiet_step ((go_at_call 162;exact ax.same _ (iG sp _ hv.out _)))
    repeat (go_big_quiet_step (fail))
    go_big_quiet_step ((go_at_call 267;exact ax.call _ (by first | exact Nat.le_refl _ | omega) (vk af ae sp W ws.length wc S eV U aY sp _ eA.out _ (EZ.out.below (ax.below _)))))
    exact adG
   ·have NO:decide (st < af)= false:=decide_eq_false iS
    clear aD;have aD:=aq.kE (fun K:ax wr.heap.size wr=>(ai.below K.below ai.lt))
    refine ew (by kernel_rfl) (by kernel_rfl) ?_
    repeat (go_big_quiet_step (fail))
    go_big_quiet_step ((go_at_call 162;exact ax.same _ (iG sp _ hv.out _)))
    repeat (go_big_quiet_step (fail))
    go_big_quiet_step ((go_at_call 267;exact ax.call _ (by first | exact Nat.le_refl _ | omega) (vk af ae sp W ws.length wc S eV U aY sp _ eA.out _ (EZ.out.below (ax.below _)))))
    exact adw
theorem mR (af ae sp:Int) (W:Option Addr) (ws:List Int) (wc:Nat) (S:Option Addr) (eV:Nat) (U:List aI) (hw:ws.length≤1048576) (aY:U.length≤1048576) (aE:ws.length≤wc) (v:Bool) (aw:gp af ae sp ws U= v) (w:World) (bI:aH 1 bR w W ws) (bN:aH 3 aI.cells w S U):
 Calls Tryz.prog 184 #[.agg #[af,ae,sp,.slice W ws wc,.slice S U eV]] w fun e ag=>e= .returned v∧Below w w ag:=by
 subst aw
 cases h1:fc af 1 3
 ·have H1:=J h1
  go_in
  go_upto_region 1 with fail
  refine cR fun aF au ai=>?_
  replace bN:=bN.below au;replace bI:=bI.below au;have I:=au;have aD:=ai.aP
  go_wp2_with fail
  refine (jF af 1 3 _ H1.out _).mono ?_
  exact abG
 cases h2:fc ae 1 3600
 ·have H1:=J h1
  have gd:=J h2
  go_in
  go_upto_region 1 with fail
  refine cR fun aF au ai=>?_
  replace bN:=bN.below au;replace bI:=bI.below au;have I:=au;have aD:=ai.aP
  go_wp2_with fail
  refine (jF af 1 3 _ H1.out _).mono ?_
  rintro e w0 ⟨rfl,h0⟩
  rw [h0]
  clear h0 w0
  go_wp2_with fail
  refine (jF ae 1 3600 _ gd.out _).mono ?_
  exact abI
 cases h5:sS af ae U
 ·have H1:=J h1
  have gd:=J h2;have Ia:=J h5
  go_in
  go_upto_region 1 with fail
  refine cR fun aF au ai=>?_
  replace bN:=bN.below au;replace bI:=bI.below au;have I:=au;have aD:=ai.aP
  go_wp2_with fail
  refine (jF af 1 3 _ H1.out _).mono ?_
  rintro e w0 ⟨rfl,h0⟩
  rw [h0]
  clear h0 w0
  go_wp2_with fail
  refine (jF ae 1 3600 _ gd.out _).mono ?_
  rintro e w0 ⟨rfl,h0⟩
  rw [h0]
  clear h0 w0
  go_wp2_with fail
  refine (JS af ae sp W ws wc S eV U hw aY _ Ia.out _ (bI.below av) (bN.below av)).mono ?_
  rintro e aM ⟨rfl,aN⟩
  have ao:=be aF aN;replace I:=ah I ao;replace bN:=bN.below ao;replace bI:=bI.below ao;replace ai:=ai.to ao;clear aD;have aD:=ai.aP
  go_wp2
  go_ret
  exact⟨ek (FE Ia.out).symm,(ah I av)⟩
 by_cases h4:ws.length≤10
 case neg=>
  have H1:=J h1;have gd:=J h2;have Ia:=J h5
  go_in
  go_upto_region 1 with fail
  refine cR fun aF au ai=>?_
  replace bN:=bN.below au;replace bI:=bI.below au;have I:=au;have aD:=ai.aP
  go_wp2_with fail
  refine (jF af 1 3 _ H1.out _).mono ?_
  rintro e w0 ⟨rfl,h0⟩
  rw [h0]
  clear h0 w0
  go_wp2_with fail
  refine (jF ae 1 3600 _ gd.out _).mono ?_
  rintro e w0 ⟨rfl,h0⟩
  rw [h0]
  clear h0 w0
  go_wp2_with fail
  refine (JS af ae sp W ws wc S eV U hw aY _ Ia.out _ (bI.below av) (bN.below av)).mono ?_
  rintro e aM ⟨rfl,aN⟩
  have ao:=be aF aN;replace I:=ah I ao;replace bN:=bN.below ao;replace bI:=bI.below ao;replace ai:=ai.to ao;clear aD;have aD:=ai.aP
  go_wp2
  go_ret
  exact⟨ek (Uf h4).symm,(ah I av)⟩
 by_cases h0:sp= 0
 ·subst h0
  exact apF af ae W ws wc S eV U hw aY aE h1 h2 h4 h5 w bI bN
 ·exact apE af ae sp W ws wc S eV U hw aY aE h1 h2 h0 h4 h5 w bI bN
open Go.RowKit Go.G9
structure cz where
 br:List aJ
 bD:List aL
 cZ:Int
 cQ:Int
 dH:Int
 bE:List Int
 bK:List aI
 bt:List Out
def ho (rs:List aJ) (qs:List aL):Bool:=match qs[qs.length - 1]? with
 | some q=>(match hD rs q.fW with | some r=>!kt r q && r.lV | none=>false)
 | none=>false
def qu (rs:List aJ) (o:Out):Bool:=(hD rs o.fW).isSome && eG o.mover
def DF (sp:Int) (ws:List Int):Bool:=(sp == 0) && decide (ws.length= 0)
def rP (rs:List aJ) (qs:List aL) (af ae sp:Int) (ws:List Int) (U:List aI) (os:List Out):Bool:=
 dD rs qs && (gp af ae sp ws U && (decide (os.length≤12) && (!os.any (fun o=>!qu rs o) && (ho rs qs || DF sp ws))))
def pL (m:cz):Bool:=rP m.br m.bD m.cZ m.cQ m.dH m.bE m.bK m.bt
theorem TE {rs:List aJ} {qs:List aL} (h:qs.length= 0):ho rs qs= false:=by
 obtain rfl:=List.length_eq_zero_iff.1 h;rfl
theorem TC {rs:List aJ} {qs:List aL} {j:Nat} {q:aL} {r:aJ} (aS:qs.length= j + 1) (aZ:qs[j]? =some q) (bu:hD rs q.fW= some r):ho rs qs= (!kt r q && r.lV):=by
 have:qs.length - 1= j:=by omega
 simp only [ho,this,aZ,bu]
theorem abt {p:Prop} (h:p:=by
 repeat (go_big_quiet_step (fail))
 refine wpQuiet_nil ?_
 intro K
 go_wp2
 go_ret
 exact⟨ek (by rw [cH.out];rfl),ah I K.below⟩):p:=h
theorem Dj (rs:List aJ) (qs:List aL) (af ae sp:Int) (ws:List Int) (U:List aI) (os:List Out) (an ar aj ak aA:Option Addr) (c0 c1 c2 c3 c4:Nat) (h0:rs.length≤1048576) (h1:qs.length≤1048576) (h2:ws.length≤1048576) (h3:U.length≤1048576) (h4:os.length≤1048576) (aO:dD rs qs= true) (v:Bool) (aw:ho rs qs= v) (w:World) (aU:aH 7 aJ.cells w an rs) (aT:aH 3 aL.cells w ar qs) (bj:aH 1 bR w aj ws) (bh:aH 3 aI.cells w ak U) (bU:aH 3 Out.cells w aA os):
 Calls Tryz.prog 124 #[.agg #[.slice an rs c0,.slice ar qs c1,af,ae,sp,.slice aj ws c2,.slice ak U c3,.slice aA os c4]] w fun e ag=>e= .returned v∧Below w w ag:=by
 subst aw
 rcases Nat.eq_zero_or_pos qs.length with cc | cc
 ·rw [cc]
  have bf:=J cc;clear cc
  go_in
  go_upto_region 1 with fail
  refine cR fun aF au aW=>?_
  replace aU:=aU.below au;replace aT:=aT.below au;have I:=au;have cL:=aW.aG
  go_upto_region 2 with fail
  clear cL;have cL:=aq.qd (fun K:ax aF.heap.size aF=>(aW.below K.below aW.lt))
  refine ew (by kernel_rfl) (by kernel_rfl) ?_
  repeat (go_big_quiet_step (fail))
  refine wpQuiet_nil ?_
  intro K
  go_wp2
  go_ret
  exact⟨ek (TE bf.out).symm,ah I K.below⟩
 ·obtain⟨j,bH⟩ :∃j,qs.length= j + 1:=⟨qs.length - 1,by omega⟩
  have ie:j < qs.length:=by omega
  have ajn:j≤1048576:=by omega
  have wh:decide ((0:Int)≤(j:Int))= true:=decide_eq_true (by omega)
  obtain⟨q,aZ⟩ :∃q,qs[j]? =some q:=⟨qs[j],List.getElem?_eq_getElem ie⟩
  obtain⟨r,bu⟩:=oA aO aZ
  have bO:=TC bH aZ bu
  rw [bO,bH]
  have cV:=J aZ;have bJ:=J bu;have ue:=J ie;clear aO bO bu aZ cc bH ie
  obtain⟨id,nm,rk,yg,fw,am,ef,aX⟩:=r
  obtain⟨qr,cg,rW⟩:=q
  go_in
  go_upto_region 1 with fail
  refine cR fun aF au aW=>?_
  replace aU:=aU.below au;replace aT:=aT.below au;have I:=au;have cL:=aW.aG
  go_upto_region 2 with fail
  obtain⟨gJ,gL,fy,rfl,dU,ay,bk⟩:=aT.at_ (Below.refl _ _) ue.out
  obtain rfl:=Option.some.inj (cV.out.symm.trans ay)
  clear cL;have cL:=aW.aG;have cu:=bk 0 _ rfl;have dI:=bk 1 _ rfl;have dj:=bk 2 _ rfl
  simp only [Nat.add_zero] at cu
  clear ay bk;have jx:=J aU
  have sD:∀W:World,(Instr.field 89 (.agg #[id,nm,rk,yg,fw,am,ef]) 4).run Tryz.prog W= .ok (.bool fw) W:=fun _=>by kernel_rfl
  cases aS:kt ⟨id,nm,rk,yg,fw,am,ef,aX⟩ ⟨qr,cg,rW⟩
  ·have cH:=J aS;clear aS
   clear cL;have cL:=aq.qd (fun K:ax aF.heap.size aF=>(aW.below K.below aW.lt))
   refine ew (by kernel_rfl) (by kernel_rfl) ?_
   repeat (go_big_quiet_step (fail))
   go_big_quiet_step ((go_at_call 198;exact ax.call _ (by first | exact Nat.le_refl _ | omega) (vl an c0 rs h0 ⟨qr,cg,rW⟩ ⟨id,nm,rk,yg,fw,am,ef,aX⟩ bJ.out _ cH.out _ (jx.out.below (ax.below _)))))
   repeat (go_big_quiet_step (fail))
   go_big_quiet_step ((go_at_call 69;exact ax.call _ (by first | exact Nat.le_refl _ | omega) (rq an c0 rs h0 ⟨qr,cg,rW⟩ ⟨id,nm,rk,yg,fw,am,ef,aX⟩ bJ.out _ (jx.out.below (ax.below _)))))
   exact abt
  ·have cH:=J aS;clear aS
   clear cL;have cL:=aq.qd (fun K:ax aF.heap.size aF=>(aW.below K.below aW.lt))
   refine ew (by kernel_rfl) (by kernel_rfl) ?_
   repeat (go_big_quiet_step (fail))
   go_big_quiet_step ((go_at_call 198;exact ax.call _ (by first | exact Nat.le_refl _ | omega) (vl an c0 rs h0 ⟨qr,cg,rW⟩ ⟨id,nm,rk,yg,fw,am,ef,aX⟩ bJ.out _ cH.out _ (jx.out.below (ax.below _)))))
   exact abt
theorem AV (rs:List aJ) (qs:List aL) (an ar:Option Addr) (c0 c1:Nat) (h0:rs.length≤1048576) (h1:qs.length≤1048576) (aO:dD rs qs= true) (v:Bool) (aw:ho rs qs= v) (w:World) (aU:aH 7 aJ.cells w an rs) (aT:aH 3 aL.cells w ar qs):
 Calls Tryz.prog 185 #[.slice an rs c0,.slice ar qs c1] w fun e ag=>e= .returned v∧Below w w ag:=by
 subst aw
 rcases Nat.eq_zero_or_pos qs.length with cc | cc
 ·rw [cc]
  have bf:=J cc;clear cc
  go_in
  go_wp2
  go_ret
  exact⟨ek (TE bf.out).symm,Below.refl _ _⟩
 ·obtain⟨j,bH⟩ :∃j,qs.length= j + 1:=⟨qs.length - 1,by omega⟩
  have ie:j < qs.length:=by omega
  have ajn:j≤1048576:=by omega
  have wh:decide ((0:Int)≤(j:Int))= true:=decide_eq_true (by omega)
  obtain⟨q,aZ⟩ :∃q,qs[j]? =some q:=⟨qs[j],List.getElem?_eq_getElem ie⟩
  obtain⟨r,bu⟩:=oA aO aZ
  have bO:=TC bH aZ bu
  obtain⟨m,hm,uW⟩:=rL bu
  have jE:m < rs.length:=(List.getElem?_eq_some_iff.1 uW).1
  rw [bO,bH]
  have cV:=J aZ;have bJ:=J bu;have ue:=J ie;have dR:=J hm;have aen:=J uW;have Ik:=J jE;clear aO bO bu aZ cc bH ie hm uW jE
  obtain⟨id,nm,rk,yg,fw,am,ef,aX⟩:=r
  obtain⟨qr,cg,rW⟩:=q
  obtain⟨gJ,gL,fy,rfl,dU,ay,bk⟩:=aT.at_ (Below.refl _ _) ue.out
  obtain rfl:=Option.some.inj (cV.out.symm.trans ay)
  have cu:=bk 0 _ rfl;have dI:=bk 1 _ rfl;have dj:=bk 2 _ rfl
  simp only [Nat.add_zero] at cu
  have g0:=cu (ax.self _);have g1:=dI (ax.self _);have g2:=dj (ax.self _)
  simp only [ax.self] at g0
  simp only [ax.self] at g1
  simp only [ax.self] at g2
  clear ay bk
  cases aS:kt ⟨id,nm,rk,yg,fw,am,ef,aX⟩ ⟨qr,cg,rW⟩
  ·have cH:=J aS;clear aS
   go_in
   go_wp2_with fail
   refine (pK an c0 rs h0 ⟨qr,cg,rW⟩ ⟨id,nm,rk,yg,fw,am,ef,aX⟩ bJ.out _ cH.out _ aU).mono ?_
   rintro e bd ⟨rfl,bz⟩
   obtain⟨dz,fk,fT,rfl,uM,Wl,Vi⟩:=aU.at_ bz Ik.out
   obtain rfl:=Option.some.inj (aen.out.symm.trans Wl)
   obtain⟨eu,fJ,ns,e3,att,Wm,Vj⟩:=aT.at_ bz ue.out
   simp only [Option.some.injEq,Addr.mk.injEq,and_true] at e3
   obtain⟨rfl,rfl⟩:=e3
   obtain rfl:=Option.some.inj (cV.out.symm.trans Wm)
   have KS:=Vi 4 _ rfl (ax.self _);have kQ:=Vj 0 _ rfl (ax.self _)
   simp only [Nat.add_zero,ax.self] at KS kQ
   clear Wl Vi Wm Vj cu dI dj g0 g1 g2
   go_wp2_with fail
   refine (vj _ c0 rs h0 qr _ dR.out _ (aU.below bz)).mono ?_
   rintro e w0 ⟨rfl,Gr⟩
   rw [Gr]
   clear Gr w0
   go_wp2
   go_ret
   exact⟨rfl,bz⟩
  ·have cH:=J aS;clear aS
   go_in
   go_wp2_with fail
   refine (pK an c0 rs h0 ⟨qr,cg,rW⟩ ⟨id,nm,rk,yg,fw,am,ef,aX⟩ bJ.out _ cH.out _ aU).mono ?_
   rintro e bd ⟨rfl,bz⟩
   go_wp2
   go_ret
   exact⟨rfl,bz⟩
theorem alJ (A:Option Addr) (c:Nat) (xs:List Out) (aY:xs.length≤1048576) (f:FuncId) (qf:Array Value) (CT:∀args W,(callFunc f args).run Tryz.prog W= .ok (.enter f args) W) (p:Out→Bool) (v:Int) (aw:oS p xs= v) (w:World) (bL:aH 3 Out.cells w A xs)
  (hf:∀x,x ∈ xs→∀W,Below w w W→Calls Tryz.prog f (#[.agg #[.int .i64 x.fW,.int .i64 x.mover,.bool x.hB]] ++ qf) W fun e ag=>e= .returned (.bool (p x))∧Below W W ag):
 Calls Tryz.prog 202 #[.slice A xs c,.func (.func f) #[] qf] w fun e ag=>e= .returned v∧Below w w ag:=by
 subst aw
 have cB:=J hf;clear hf
 go_in
 go_wp2
 go_loopw [8] (fun i wr=>∃k:Nat,k≤xs.length∧i= .int .i64 k∧hH (fun i=>!jm p xs i) k= true∧Below w w wr) (fun i _=>xs.length - (intOf i).toNat)
 case atStart=>exact⟨0,Nat.zero_le _,rfl,rfl,Below.refl _ _⟩
 case round=>
  obtain⟨k,az,rfl,aS,aB⟩:=hrel
  have cH:=J aS;clear aS
  by_cases bl:k < xs.length
  ·obtain⟨b,off,x,rfl,dU,ay,bk⟩:=bL.at_ aB bl
   have Ej:=J (cB.out x (List.mem_of_getElem? ay))
   obtain⟨or,anC,Pw⟩:=x
   have f0:=bk 0 _ rfl;have f1:=bk 1 _ rfl;have f2:=bk 2 _ rfl
   simp only [Nat.add_zero] at f0
   have g0:=f0 (ax.self _);have g1:=f1 (ax.self _);have g2:=f2 (ax.self _)
   simp only [ax.self] at g0
   simp only [ax.self] at g1
   simp only [ax.self] at g2
   have cb:=J ay;clear ay bk
   go_wp2_with fail
   refine (Ej.out _ aB).mono ?_
   rintro e ag ⟨rfl,eW⟩
   cases aO:p ⟨or,anC,Pw⟩
   ·exact QT
   ·exact QX
  ·exact KW
theorem afZ (A:Option Addr) (c:Nat) (xs:List Out) (aY:xs.length≤1048576) (f:FuncId) (qf:Array Value) (CT:∀args W,(callFunc f args).run Tryz.prog W= .ok (.enter f args) W) (p:Out→Bool) (v:Bool) (aw:xs.any p= v) (w:World) (bL:aH 3 Out.cells w A xs)
  (hf:∀x,x ∈ xs→∀W,Below w w W→Calls Tryz.prog f (#[.agg #[.int .i64 x.fW,.int .i64 x.mover,.bool x.hB]] ++ qf) W fun e ag=>e= .returned (.bool (p x))∧Below W W ag):
 Calls Tryz.prog 120 #[.slice A xs c,.func (.func f) #[] qf] w fun e ag=>e= .returned v∧Below w w ag:=by
 subst aw
 have cB:=J hf;clear hf;have cw:=JK p xs;have hO:=J cw;clear cw
 go_in
 go_wp2_with fail
 refine (alJ A c xs aY f qf CT p _ rfl _ bL cB.out).mono ?_
 rintro e ag ⟨rfl,aB⟩
 go_wp2
 go_ret
 exact⟨ek hO.out,aB⟩
theorem Yc {rs:List aJ} {o:Out} (h:hD rs o.fW= none):qu rs o= false:=by simp [qu,h]
theorem PA {rs:List aJ} {o:Out} {r:aJ} (h:hD rs o.fW= some r):qu rs o= eG o.mover:=by simp [qu,h]
theorem anD (rs:List aJ) (an:Option Addr) (c0:Nat) (h0:rs.length≤1048576) (g:Nat) (x:Out) (W:World) (cw:W.cell? ⟨g,0,none⟩ =some (.slice an rs c0)) (aS:g < W.heap.size) (aU:aH 7 aJ.cells W an rs):
 Calls Tryz.prog 121 (#[.agg #[x.fW,x.mover,x.hB]] ++ #[.pointer (some ⟨g,0,none⟩)]) W fun e ag=>e= .returned (.bool (!qu rs x))∧Below W W ag:=by
 obtain⟨hb,dW,jv⟩:=x
 cases hf:hD rs hb with
 | none=>
  have cB:=J hf;clear hf
  rw [Yc (o:=⟨hb,dW,jv⟩) cB.out]
  go_in
  go_wp2_with fail
  refine (DI an c0 rs h0 hb _ (Di cB.out) _ (aU.below (bZ _ _))).mono ?_
  rintro e bd ⟨rfl,bz⟩
  go_wp2
  go_ret
  exact⟨rfl,ah (bZ _ _) bz⟩
 | some r=>
  obtain⟨m,hm,_⟩:=rL hf
  have dR:=J hm;clear hm
  rw [PA (o:=⟨hb,dW,jv⟩) hf]
  have jE:=alH (fun r:aJ=>r.id == hb) rs;clear jE
  cases aB:eG dW
  all_goals
   have na:=J aB
   go_in
   go_wp2_with fail
   refine (DI an c0 rs h0 hb _ dR.out _ (aU.below (bZ _ _))).mono ?_
   rintro e bd ⟨rfl,bz⟩
   have aQ:=(aq.new W 163 #[hb,dW,jv]).below bz (by simp);have dV:=(aQ.cell 1).trans (show _= some (.int .i64 dW) from rfl);have UQ:=aQ.lt
   go_wp2_with fail
   refine (iT dW _ na.out _).mono ?_
   rintro e w0 ⟨rfl,Gr⟩
   rw [Gr]
   clear Gr w0
   go_wp2
   go_ret
   exact⟨rfl,ah (bZ _ _) bz⟩
theorem amX {rs:List aJ} {qs:List aL} {af ae sp:Int} {ws:List Int} {U:List aI} {os:List Out} (h:dD rs qs= false):rP rs qs af ae sp ws U os= false:=by rw [rP,h];rfl
theorem amY {rs:List aJ} {qs:List aL} {af ae sp:Int} {ws:List Int} {U:List aI} {os:List Out} (h:gp af ae sp ws U= false):rP rs qs af ae sp ws U os= false:=by rw [rP,h];simp
theorem amZ {rs:List aJ} {qs:List aL} {af ae sp:Int} {ws:List Int} {U:List aI} {os:List Out} (h:¬os.length≤12):rP rs qs af ae sp ws U os= false:=by rw [rP,decide_eq_false h];simp
theorem Pp {rs:List aJ} {qs:List aL} {af ae sp:Int} {ws:List Int} {U:List aI} {os:List Out} (h:os.any (fun o=>!qu rs o)= true):rP rs qs af ae sp ws U os= false:=by rw [rP,h];simp
theorem JY {rs:List aJ} {qs:List aL} {af ae sp:Int} {ws:List Int} {U:List aI} {os:List Out} (h1:dD rs qs= true) (h2:gp af ae sp ws U= true) (h3:os.length≤12) (h4:os.any (fun o=>!qu rs o)= false):rP rs qs af ae sp ws U os= (ho rs qs || DF sp ws):=by rw [rP,h1,h2,h4,decide_eq_true h3];simp
theorem ado {p:Prop} (h:p:=by
 rintro e aM ⟨rfl,aN⟩
 have ao:=be aF aN;replace I:=ah I ao;replace aU:=aU.below ao;replace aT:=aT.below ao;replace bj:=bj.below ao;replace bh:=bh.below ao;replace bU:=bU.below ao;replace aW:=aW.to ao;clear cL;have cL:=aW.aG
 go_wp2
 go_ret
 exact⟨ek (amX hG.out).symm,(ah I av)⟩):p:=h
theorem adp {p:Prop} (h:p:=by
 rintro e bB ⟨rfl,bG⟩
 have aK:=be aM bG;replace I:=ah I aK;replace aU:=aU.below aK;replace aT:=aT.below aK;replace bj:=bj.below aK;replace bh:=bh.below aK;replace bU:=bU.below aK;replace aW:=aW.to aK;clear cL;have cL:=aW.aG
 go_wp2
 go_ret
 exact⟨ek (amY mC.out).symm,(ah I av)⟩):p:=h
theorem ads {p:Prop} (h:p:=by
 rintro e bB ⟨rfl,bG⟩
 have aK:=be aM bG;replace I:=ah I aK;replace aU:=aU.below aK;replace aT:=aT.below aK;replace bj:=bj.below aK;replace bh:=bh.below aK;replace bU:=bU.below aK;replace aW:=aW.to aK;clear cL;have cL:=aW.aG
 go_wp2
 go_ret
 exact⟨ek (amZ sx).symm,(ah I av)⟩):p:=h
theorem adt {p:Prop} (h:p:=by
 replace I:=ah I cx;replace aU:=aU.below cx;replace aT:=aT.below cx;replace bj:=bj.below cx;replace bh:=bh.below cx;replace bU:=bU.below cx;replace aW:=aW.to cx;clear cL;have cL:=aW.aG
 go_wp2
 go_ret
 exact⟨ek (by rw [JY H1.out gd.out hv.out wU.out,fG.out];rfl),(ah I av)⟩):p:=h
theorem adj {p:Prop} (h:p:=by
 replace I:=ah I cx;replace aU:=aU.below cx;replace aT:=aT.below cx;replace bj:=bj.below cx;replace bh:=bh.below cx;replace bU:=bU.below cx;replace aW:=aW.to cx;clear cL;have cL:=aW.aG
 go_wp2
 go_ret
 exact⟨ek (by rw [JY H1.out gd.out hv.out wU.out,fG.out,DF,BW.out,decide_eq_true nN.out];rfl),(ah I av)⟩):p:=h
theorem adh {p:Prop} (h:p:=by
 replace I:=ah I cx;replace aU:=aU.below cx;replace aT:=aT.below cx;replace bj:=bj.below cx;replace bh:=bh.below cx;replace bU:=bU.below cx;replace aW:=aW.to cx;clear cL;have cL:=aW.aG
 go_wp2
 go_ret
 exact⟨ek (by rw [JY H1.out gd.out hv.out wU.out,fG.out,DF,BW.out,decide_eq_false nN.out];rfl),(ah I av)⟩):p:=h
theorem adm {p:Prop} (h:p:=by
 replace I:=ah I cx;replace aU:=aU.below cx;replace aT:=aT.below cx;replace bj:=bj.below cx;replace bh:=bh.below cx;replace bU:=bU.below cx;replace aW:=aW.to cx;clear cL;have cL:=aW.aG
 go_wp2
 go_ret
 exact⟨ek (by rw [JY H1.out gd.out hv.out wU.out,fG.out,DF,BW.out];rfl),(ah I av)⟩):p:=h
theorem ala (rs:List aJ) (qs:List aL) (af ae sp:Int) (ws:List Int) (U:List aI) (os:List Out) (an ar aj ak aA:Option Addr) (c0 c1 c2 c3 c4:Nat) (h0:rs.length≤1048576) (h1:qs.length≤1048576) (h2:ws.length≤1048576) (h3:U.length≤1048576) (h4:os.length≤1048576) (v:Bool) (aw:rP rs qs af ae sp ws U os= v) (w:World) (aU:aH 7 aJ.cells w an rs) (aT:aH 3 aL.cells w ar qs) (bj:aH 1 bR w aj ws) (bh:aH 3 aI.cells w ak U) (bU:aH 3 Out.cells w aA os) (dY:rs.length≤c0) (cp:ws.length≤c2):
 Calls Tryz.prog 63 #[.agg #[.slice an rs c0,.slice ar qs c1,af,ae,sp,.slice aj ws c2,.slice ak U c3,.slice aA os c4]] w fun e ag=>e= .returned v∧Below w w ag:=by
 subst aw
 cases qh:dD rs qs
 ·have hG:=J qh;clear qh
  go_in
  go_upto_region 1 with fail
  refine cR fun aF au aW=>?_
  replace aU:=aU.below au;replace aT:=aT.below au;replace bj:=bj.below au;replace bh:=bh.below au;replace bU:=bU.below au;have I:=au;have cL:=aW.aG
  go_wp2_with fail
  refine (nA an c0 rs h0 dY ar c1 qs h1 _ hG.out _ (aU.below av) (aT.below av)).mono ?_
  exact ado
 have H1:=J qh;have hG:=J qh;clear qh
 cases sw:gp af ae sp ws U
 ·have mC:=J sw;clear sw
  go_in
  go_upto_region 1 with fail
  refine cR fun aF au aW=>?_
  replace aU:=aU.below au;replace aT:=aT.below au;replace bj:=bj.below au;replace bh:=bh.below au;replace bU:=bU.below au;have I:=au;have cL:=aW.aG
  go_wp2_with fail
  refine (nA an c0 rs h0 dY ar c1 qs h1 _ hG.out _ (aU.below av) (aT.below av)).mono ?_
  rintro e aM ⟨rfl,aN⟩
  have ao:=be aF aN;replace I:=ah I ao;replace aU:=aU.below ao;replace aT:=aT.below ao;replace bj:=bj.below ao;replace bh:=bh.below ao;replace bU:=bU.below ao;replace aW:=aW.to ao;clear cL;have cL:=aW.aG
  go_wp2_with fail
  refine (mP af ae sp aj ws c2 ak c3 U h2 h3 cp _ mC.out _ (bj.below av) (bh.below av)).mono ?_
  exact adp
 have gd:=J sw;have mC:=J sw;clear sw
 by_cases sx:os.length≤12
 case neg=>
  go_in
  go_upto_region 1 with fail
  refine cR fun aF au aW=>?_
  replace aU:=aU.below au;replace aT:=aT.below au;replace bj:=bj.below au;replace bh:=bh.below au;replace bU:=bU.below au;have I:=au;have cL:=aW.aG
  go_wp2_with fail
  refine (nA an c0 rs h0 dY ar c1 qs h1 _ hG.out _ (aU.below av) (aT.below av)).mono ?_
  rintro e aM ⟨rfl,aN⟩
  have ao:=be aF aN;replace I:=ah I ao;replace aU:=aU.below ao;replace aT:=aT.below ao;replace bj:=bj.below ao;replace bh:=bh.below ao;replace bU:=bU.below ao;replace aW:=aW.to ao;clear cL;have cL:=aW.aG
  go_wp2_with fail
  refine (mP af ae sp aj ws c2 ak c3 U h2 h3 cp _ mC.out _ (bj.below av) (bh.below av)).mono ?_
  exact ads
 have hv:=J sx
 go_in
 go_upto_region 1 with fail
 refine cR fun aF au aW=>?_
 replace aU:=aU.below au;replace aT:=aT.below au;replace bj:=bj.below au;replace bh:=bh.below au;replace bU:=bU.below au;have I:=au;have cL:=aW.aG
 go_wp2_with fail
 refine (nA an c0 rs h0 dY ar c1 qs h1 _ hG.out _ (aU.below av) (aT.below av)).mono ?_
 rintro e aM ⟨rfl,aN⟩
 have ao:=be aF aN;replace I:=ah I ao;replace aU:=aU.below ao;replace aT:=aT.below ao;replace bj:=bj.below ao;replace bh:=bh.below ao;replace bU:=bU.below ao;replace aW:=aW.to ao;clear cL;have cL:=aW.aG
 go_wp2_with fail
 refine (mP af ae sp aj ws c2 ak c3 U h2 h3 cp _ mC.out _ (bj.below av) (bh.below av)).mono ?_
 rintro e bB ⟨rfl,bG⟩
 have aK:=be aM bG;replace I:=ah I aK;replace aU:=aU.below aK;replace aT:=aT.below aK;replace bj:=bj.below aK;replace bh:=bh.below aK;replace bU:=bU.below aK;replace aW:=aW.to aK;clear cL;have cL:=aW.aG
 have zW:Hid (∀d,os.any (fun o=>!qu rs o)= d→Calls Tryz.prog 120 #[.slice aA os c4,.func (.func 121) #[] #[.pointer (some ⟨w.heap.size,0,none⟩)]] bB fun e ag=>e= .returned (.bool d)∧Below bB bB ag):=J fun d bO=>
  afZ aA c4 os h4 121 #[.pointer (some ⟨w.heap.size,0,none⟩)] (Bt Tryz.func121 (by kernel_rfl) (by kernel_rfl)) (fun o=>!qu rs o) d bO bB bU (fun x _ V ic=>anD rs an c0 h0 w.heap.size x V ((aW.to ic).cell 0) (aW.to ic).lt (aU.below ic))
 by_cases xr:os.any (fun o=>!qu rs o)= true
 ·have wU:=J xr;clear xr
  go_wp2_with fail
  refine (zW.out _ wU.out).mono ?_
  rintro e ca ⟨rfl,cU⟩
  have bS:=be bB cU;replace I:=ah I bS;replace aU:=aU.below bS;replace aT:=aT.below bS;replace bj:=bj.below bS;replace bh:=bh.below bS;replace bU:=bU.below bS;replace aW:=aW.to bS;clear cL;have cL:=aW.aG
  go_wp2
  go_ret
  exact⟨ek (Pp wU.out).symm,(ah I av)⟩
 replace xr:=Bool.eq_false_iff.2 xr;have wU:=J xr;clear xr
 go_wp2_with fail
 refine (zW.out _ wU.out).mono ?_
 rintro e ca ⟨rfl,cU⟩
 have bS:=be bB cU;replace I:=ah I bS;replace aU:=aU.below bS;replace aT:=aT.below bS;replace bj:=bj.below bS;replace bh:=bh.below bS;replace bU:=bU.below bS;replace aW:=aW.to bS;clear cL;have cL:=aW.aG
 by_cases bO:ho rs qs= true
 ·have fG:=J bO;clear bO
  go_wp2_with fail
  refine (Dj rs qs af ae sp ws U os an ar aj ak aA c0 c1 c2 c3 c4 h0 h1 h2 h3 h4 H1.out _ fG.out _ (aU.below av) (aT.below av) (bj.below av) (bh.below av) (bU.below av)).mono ?_
  rintro e dc ⟨rfl,ei⟩
  have cx:=be ca ei
  exact adt
 replace bO:=Bool.eq_false_iff.2 bO;have fG:=J bO;clear bO
 by_cases aX:sp= 0
 ·have uY:(sp == 0)= true:=beq_iff_eq.2 aX
  have BW:=J uY;clear aX
  by_cases hw:ws.length= 0
  ·have xM:((ws.length:Int) == 0)= true:=by simp [hw]
   have nN:=J hw;clear hw
   go_wp2_with fail
   refine (Dj rs qs af ae sp ws U os an ar aj ak aA c0 c1 c2 c3 c4 h0 h1 h2 h3 h4 H1.out _ fG.out _ (aU.below av) (aT.below av) (bj.below av) (bh.below av) (bU.below av)).mono ?_
   rintro e dc ⟨rfl,ei⟩
   have cx:=be ca ei
   exact adj
  ·have xM:((ws.length:Int) == 0)= false:=by simpa using hw
   have nN:=J hw;clear hw
   go_wp2_with fail
   refine (Dj rs qs af ae sp ws U os an ar aj ak aA c0 c1 c2 c3 c4 h0 h1 h2 h3 h4 H1.out _ fG.out _ (aU.below av) (aT.below av) (bj.below av) (bh.below av) (bU.below av)).mono ?_
   rintro e dc ⟨rfl,ei⟩
   have cx:=be ca ei
   exact adh
 ·have uY:(sp == 0)= false:=beq_eq_false_iff_ne.2 aX
  have BW:=J uY;clear aX
  go_wp2_with fail
  refine (Dj rs qs af ae sp ws U os an ar aj ak aA c0 c1 c2 c3 c4 h0 h1 h2 h3 h4 H1.out _ fG.out _ (aU.below av) (aT.below av) (bj.below av) (bh.below av) (bU.below av)).mono ?_
  rintro e dc ⟨rfl,ei⟩
  have cx:=be ca ei
  exact adm
theorem apJ (rs:List aJ) (qs:List aL) (af ae sp:Int) (ws:List Int) (U:List aI) (os:List Out) (an ar aj ak aA:Option Addr) (c0 c1 c2 c3 c4:Nat) (h0:rs.length≤1048576) (h1:qs.length≤1048576) (h2:ws.length≤1048576) (h3:U.length≤1048576) (h4:os.length≤1048576) (v:Bool) (aw:rP rs qs af ae sp ws U os= v) (w:World) (aU:aH 7 aJ.cells w an rs) (aT:aH 3 aL.cells w ar qs) (bj:aH 1 bR w aj ws) (bh:aH 3 aI.cells w ak U) (bU:aH 3 Out.cells w aA os) (dY:rs.length≤c0) (cp:ws.length≤c2):
 Calls Tryz.prog 107 #[.agg #[.slice an rs c0,.slice ar qs c1,af,ae,sp,.slice aj ws c2,.slice ak U c3,.slice aA os c4]] w fun e ag=>e= .returned v∧Below w w ag:=by
 subst aw
 cases qh:dD rs qs
 ·have hG:=J qh;clear qh
  go_in
  go_upto_region 1 with fail
  refine cR fun aF au aW=>?_
  replace aU:=aU.below au;replace aT:=aT.below au;replace bj:=bj.below au;replace bh:=bh.below au;replace bU:=bU.below au;have I:=au;have cL:=aW.aG
  go_wp2_with fail
  refine (ox an c0 rs h0 ar c1 qs h1 _ hG.out _ (aU.below av) (aT.below av)).mono ?_
  exact ado
 have H1:=J qh;have hG:=J qh;clear qh
 cases sw:gp af ae sp ws U
 ·have mC:=J sw;clear sw
  go_in
  go_upto_region 1 with fail
  refine cR fun aF au aW=>?_
  replace aU:=aU.below au;replace aT:=aT.below au;replace bj:=bj.below au;replace bh:=bh.below au;replace bU:=bU.below au;have I:=au;have cL:=aW.aG
  go_wp2_with fail
  refine (ox an c0 rs h0 ar c1 qs h1 _ hG.out _ (aU.below av) (aT.below av)).mono ?_
  rintro e aM ⟨rfl,aN⟩
  have ao:=be aF aN;replace I:=ah I ao;replace aU:=aU.below ao;replace aT:=aT.below ao;replace bj:=bj.below ao;replace bh:=bh.below ao;replace bU:=bU.below ao;replace aW:=aW.to ao;clear cL;have cL:=aW.aG
  go_wp2_with fail
  refine (mR af ae sp aj ws c2 ak c3 U h2 h3 cp _ mC.out _ (bj.below av) (bh.below av)).mono ?_
  exact adp
 have gd:=J sw;have mC:=J sw;clear sw
 by_cases sx:os.length≤12
 case neg=>
  go_in
  go_upto_region 1 with fail
  refine cR fun aF au aW=>?_
  replace aU:=aU.below au;replace aT:=aT.below au;replace bj:=bj.below au;replace bh:=bh.below au;replace bU:=bU.below au;have I:=au;have cL:=aW.aG
  go_wp2_with fail
  refine (ox an c0 rs h0 ar c1 qs h1 _ hG.out _ (aU.below av) (aT.below av)).mono ?_
  rintro e aM ⟨rfl,aN⟩
  have ao:=be aF aN;replace I:=ah I ao;replace aU:=aU.below ao;replace aT:=aT.below ao;replace bj:=bj.below ao;replace bh:=bh.below ao;replace bU:=bU.below ao;replace aW:=aW.to ao;clear cL;have cL:=aW.aG
  go_wp2_with fail
  refine (mR af ae sp aj ws c2 ak c3 U h2 h3 cp _ mC.out _ (bj.below av) (bh.below av)).mono ?_
  exact ads
 have hv:=J sx
 go_in
 go_upto_region 1 with fail
 refine cR fun aF au aW=>?_
 replace aU:=aU.below au;replace aT:=aT.below au;replace bj:=bj.below au;replace bh:=bh.below au;replace bU:=bU.below au;have I:=au;have cL:=aW.aG
 go_wp2_with fail
 refine (ox an c0 rs h0 ar c1 qs h1 _ hG.out _ (aU.below av) (aT.below av)).mono ?_
 rintro e aM ⟨rfl,aN⟩
 have ao:=be aF aN;replace I:=ah I ao;replace aU:=aU.below ao;replace aT:=aT.below ao;replace bj:=bj.below ao;replace bh:=bh.below ao;replace bU:=bU.below ao;replace aW:=aW.to ao;clear cL;have cL:=aW.aG
 go_wp2_with fail
 refine (mR af ae sp aj ws c2 ak c3 U h2 h3 cp _ mC.out _ (bj.below av) (bh.below av)).mono ?_
 rintro e bB ⟨rfl,bG⟩
 have aK:=be aM bG;replace I:=ah I aK;replace aU:=aU.below aK;replace aT:=aT.below aK;replace bj:=bj.below aK;replace bh:=bh.below aK;replace bU:=bU.below aK;replace aW:=aW.to aK;clear cL;have cL:=aW.aG
 go_wp2
 have dR:=J aW;have Mi:=J aU;have Mj:=J aT;have Fc:=J bj;have Fe:=J bh;have Ff:=J bU;clear cL
 go_loopw [3] (fun i wr=>∃k:Nat,k≤os.length∧i= .int .i64 k∧hH (jm (qu rs) os) k= true∧Below w w wr∧Below bB bB wr) (fun i _=>os.length - (intOf i).toNat)
 case atStart=>exact⟨0,Nat.zero_le _,rfl,rfl,I,Below.refl _ _⟩
 case round=>
  obtain⟨k,az,rfl,aS,wb,aB⟩:=hrel
  have cH:=J aS;clear aS aU aT bj bh bU aW;have aU:=Mi.out;have aT:=Mj.out;have bj:=Fc.out;have bh:=Fe.out;have bU:=Ff.out;have aW:=dR.out;have bS:=be bB aB;replace I:=ah I bS;replace aU:=aU.below bS;replace aT:=aT.below bS;replace bj:=bj.below bS;replace bh:=bh.below bS;replace bU:=bU.below bS;replace aW:=aW.to aB;have cL:=aW.aG
  by_cases bl:k < os.length
  ·obtain⟨gJ,gL,x,rfl,dU,ay,bk⟩:=bU.at_ (Below.refl _ _) bl
   obtain⟨hb,dW,jv⟩:=x
   clear cL;have cL:=aW.aG;have cu:=bk 0 _ rfl;have dI:=bk 1 _ rfl
   simp only [Nat.add_zero] at cu
   have cb:=J ay;clear ay bk;have jx:=J aU
   cases hf:hD rs hb with
   | none=>
    have cB:=J hf;clear hf
    go_upto_region 6 with fail
    clear cL;have cL:=aq.qd (fun K:ax wr.heap.size wr=>(aW.below K.below aW.lt))
    refine ew (by kernel_rfl) (by kernel_rfl) ?_
    repeat (go_big_quiet_step (fail))
    go_big_quiet_step ((go_at_call 72;exact ax.same _ (vj an c0 rs h0 hb _ (Di cB.out) _ (jx.out.below (ax.below _)))))
    repeat (go_big_quiet_step (fail))
    refine wpQuiet_nil ?_
    intro K
    go_wp2
    go_ret
    exact⟨ek (Pp (List.any_eq_true.2 ⟨⟨hb,dW,jv⟩,List.mem_of_getElem? cb.out,by rw [Yc (o:=⟨hb,dW,jv⟩) cB.out];rfl⟩)).symm,ah wb K.below⟩
   | some r=>
    have cB:=J hf;clear hf
    obtain⟨m,hm,_⟩:=rL cB.out
    have BP:=J hm;clear hm;have Om:decide ((m:Int) < 0)= false:=decide_eq_false (by omega)
    cases aN:eG dW
    ·have na:=J aN;clear aN
     go_upto_region 6 with fail
     clear cL;have cL:=aq.qd (fun K:ax wr.heap.size wr=>(aW.below K.below aW.lt))
     refine ew (by kernel_rfl) (by kernel_rfl) ?_
     repeat (go_big_quiet_step (fail))
     go_big_quiet_step ((go_at_call 72;exact ax.same _ (vj an c0 rs h0 hb _ BP.out _ (jx.out.below (ax.below _)))))
     repeat (go_big_quiet_step (fail))
     go_big_quiet_step ((go_at_call 162;exact ax.same _ (iG dW _ na.out _)))
     repeat (go_big_quiet_step (fail))
     refine wpQuiet_nil ?_
     intro K
     go_wp2
     go_ret
     exact⟨ek (Pp (List.any_eq_true.2 ⟨⟨hb,dW,jv⟩,List.mem_of_getElem? cb.out,by rw [PA (o:=⟨hb,dW,jv⟩) cB.out];simp only [na.out];rfl⟩)).symm,ah wb K.below⟩
    ·have na:=J aN;clear aN
     go_upto_region 6 with fail
     clear cL;have cL:=aq.qd (fun K:ax wr.heap.size wr=>(aW.below K.below aW.lt))
     refine ew (by kernel_rfl) (by kernel_rfl) ?_
     repeat (go_big_quiet_step (fail))
     go_big_quiet_step ((go_at_call 72;exact ax.same _ (vj an c0 rs h0 hb _ BP.out _ (jx.out.below (ax.below _)))))
     repeat (go_big_quiet_step (fail))
     go_big_quiet_step ((go_at_call 162;exact ax.same _ (iG dW _ na.out _)))
     repeat (go_big_quiet_step (fail))
     refine wpQuiet_nil ?_
     intro K
     go_wp2
     go_roundw
     case rel=>exact⟨k + 1,by omega,by go_num,nz cH.out (by simp only [jm,cb.out];rw [PA (o:=⟨hb,dW,jv⟩) cB.out];exact na.out),ah wb K.below,ah aB K.below⟩
     case measure=>simp [intOf];omega
  ·obtain rfl:k= os.length:=by omega
   have wU:Hid (os.any (fun o=>!qu rs o)= false):=J (by
    rw [Bool.eq_false_iff]
    intro aE
    obtain⟨x,ay,aO⟩:=List.any_eq_true.1 aE
    obtain⟨i,hi⟩:=List.mem_iff_getElem?.1 ay
    have:=oZ.1 cH.out i (List.getElem?_eq_some_iff.1 hi).1
    simp only [jm,hi] at this
    rw [this] at aO;cases aO)
   by_cases bO:ho rs qs= true
   ·have fG:=J bO;clear bO
    go_wp2_with fail
    refine (AV rs qs an ar c0 c1 h0 h1 H1.out _ fG.out _ (aU.below av) (aT.below av)).mono ?_
    rintro e dc ⟨rfl,ei⟩
    have cx:=be wr ei
    exact adt
   replace bO:=Bool.eq_false_iff.2 bO;have fG:=J bO;clear bO
   by_cases aX:sp= 0
   ·have uY:(sp == 0)= true:=beq_iff_eq.2 aX
    have BW:=J uY;clear aX
    by_cases hw:ws.length= 0
    ·have xM:((ws.length:Int) == 0)= true:=by simp [hw]
     have nN:=J hw;clear hw
     go_wp2_with fail
     refine (AV rs qs an ar c0 c1 h0 h1 H1.out _ fG.out _ (aU.below av) (aT.below av)).mono ?_
     rintro e dc ⟨rfl,ei⟩
     have cx:=be wr ei
     exact adj
    ·have xM:((ws.length:Int) == 0)= false:=by simpa using hw
     have nN:=J hw;clear hw
     go_wp2_with fail
     refine (AV rs qs an ar c0 c1 h0 h1 H1.out _ fG.out _ (aU.below av) (aT.below av)).mono ?_
     rintro e dc ⟨rfl,ei⟩
     have cx:=be wr ei
     exact adh
   ·have uY:(sp == 0)= false:=beq_eq_false_iff_ne.2 aX
    have BW:=J uY;clear aX
    go_wp2_with fail
    refine (AV rs qs an ar c0 c1 h0 h1 H1.out _ fG.out _ (aU.below av) (aT.below av)).mono ?_
    rintro e dc ⟨rfl,ei⟩
    have cx:=be wr ei
    exact adm
open Go.RowKit Go.G9
structure oG where
 kind:Int
 mem:Int
 val:Int
 yes:Int
 no:Int
 bx:Int
def cz.gD (m:cz):ey:=⟨m.cZ,m.cQ,m.dH,m.bE,m.bK⟩
def cz.KO (m:cz) (qs:List aL):cz:={m with bD:=qs,dH:=0,bE:=[],bK:=[]}
def cz.HN (m:cz) (f:ey):cz:={m with cZ:=f.af,cQ:=f.ae,dH:=f.sp,bE:=f.ws,bK:=f.U}
def cz.arH (m:cz) (qs:List aL):cz:={m with bD:=qs}
def cz.DR (m:cz) (qs:List aL) (o:Out):cz:={m with bD:=qs,dH:=0,bE:=[],bK:=[],bt:=m.bt ++ [o]}
def tG (rs:List aJ) (q:aL):Int:=match hD rs q.fW with | some r=>r.hA | none=>0
def pw (m:cz) (a:oG):Option cz:=match rC m.br m.bD with
 | some (ps,q)=>if tQ a.yes a.no a.bx && !decide (m.bt.length= 12) then some (m.DR ps ⟨q.fW,q.mover,pC (tG m.br q) a.yes a.no⟩) else none
 | none=>none
def tq (m:cz) (a:oG):Option cz:=
 if a.kind= 3 then if ob m.gD a.mem && ho m.br m.bD then some (m.HN (qF m.gD a.mem)) else none
 else if a.kind= 4 then if mT m.gD && ho m.br m.bD then (sM m.gD).map (fun p=>m.HN (rR m.gD p)) else none
 else if a.kind= 5 then if oB m.gD a.val && ho m.br m.bD then some (m.HN (jG m.gD a.val)) else none
 else if a.kind= 6 then if mB m.gD && ho m.br m.bD then some (m.HN (mZ m.gD)) else none
 else none
def gF (m:cz) (a:oG):Option cz:=
 if a.kind= 1 then if m.dH == 0 then (jO m.br m.bD a.val a.mem).map m.KO else none
 else if a.kind= 2 then (jX m.br m.bD a.mem).map m.arH
 else if a.kind= 7 then if m.dH == 0 then pw m a else none
 else if a.kind= 8 then if m.dH == 0 then (kz m.br m.bD a.mem).map m.KO else none
 else if a.kind= 9 then if (m.dH == 0) && (dD m.br m.bD && jN m.br m.bD) then some (m.KO (vX m.br m.bD)) else none
 else tq m a
structure gM (m:cz):Prop where
 hq:dD m.br m.bD= true
 gD:m.gD.ok= true
 ol:m.bt.length≤12
 Ho:∀o,o ∈ m.bt→qu m.br o= true
 IW:ho m.br m.bD= true∨(m.dH= 0∧m.bE= [])
theorem Dv {m:cz}:pL m= true↔gM m:=by
 unfold pL rP DF
 simp only [Bool.and_eq_true,Bool.or_eq_true,beq_iff_eq,decide_eq_true_eq,Bool.not_eq_true',List.length_eq_zero_iff]
 constructor
 ·rintro ⟨h1,h2,h3,h4,h5⟩
  refine⟨h1,h2,h3,fun o cY=>?_,h5⟩
  rw [List.any_eq_false] at h4
  have:=h4 o cY
  simpa using this
 ·rintro ⟨h1,h2,h3,h4,h5⟩
  refine⟨h1,h2,h3,?_,h5⟩
  rw [List.any_eq_false]
  intro o cY
  simp [h4 o cY]
theorem Uh {af ae:Int} (h1:1≤af∧af≤3) (h2:1≤ae∧ae≤3600):gp af ae 0 [] []= true:=
 Jd.2 ⟨h1,h2,Or.inl rfl,by simp,by simp,List.Pairwise.nil,by simp,List.Pairwise.nil,Or.inl rfl⟩
theorem Qx {m:cz} {qs:List aL} (h:gM m) (aO:dD m.br qs= true):gM (m.KO qs):=by
 have H:=ln.1 h.gD
 exact⟨aO,Uh H.t H.s,h.ol,h.Ho,Or.inr ⟨rfl,rfl⟩⟩
theorem KN {m:cz} {f:ey} (h:gM m) (hf:f.ok= true) (bO:ho m.br m.bD= true):gM (m.HN f):=by
 exact⟨h.hq,hf,h.ol,h.Ho,Or.inl bO⟩
theorem TD {rs:List aJ} {qs:List aL} (h:jN rs qs= true):ho rs qs= false:=by
 unfold jN at h;unfold ho
 cases aZ:qs[qs.length - 1]? with
 | none=>rfl
 | some q=>
  rw [aZ] at h
  dsimp only at h ⊢
  cases bu:hD rs q.fW with
  | none=>rfl
  | some r=>rw [bu] at h;dsimp only at h ⊢;rw [h];rfl
theorem KK {m n:cz} {a:oG} (h:pw m a= some n):∃ps q,rC m.br m.bD= some (ps,q)∧tQ a.yes a.no a.bx= true∧m.bt.length≠12∧n= m.DR ps ⟨q.fW,q.mover,pC (tG m.br q) a.yes a.no⟩:=by
 unfold pw at h
 split at h
 ·rename_i ps q bO
  split at h
  ·rename_i aE
   simp only [Bool.and_eq_true,Bool.not_eq_true',decide_eq_false_iff_not] at aE
   cases h
   exact⟨ps,q,bO,aE.1,aE.2,rfl⟩
  ·cases h
 ·cases h
theorem ary {m n:cz} {a:oG} (h:gM m) (aw:pw m a= some n):gM n:=by
 obtain⟨ps,q,bO,cE,cY,rfl⟩:=KK aw
 obtain⟨h1,h2,j,bH,aZ,rfl⟩:=TK bO
 have H:=ln.1 h.gD
 obtain⟨r,bu⟩:=oA h.hq aZ
 refine⟨h1,Uh H.t H.s,?_,?_,Or.inr ⟨rfl,rfl⟩⟩
 ·have:=h.ol;simp only [cz.DR,List.length_append,List.length_cons,List.length_nil];omega
 ·intro o hm
  simp only [cz.DR,List.mem_append,List.mem_cons,List.not_mem_nil,or_false] at hm
  rcases hm with hm | rfl
  ·exact h.Ho o hm
  ·simp only [qu,cz.DR,bu,Option.isSome_some,Bool.true_and]
   exact Yk h.hq aZ
theorem ahG {m n:cz} {a:oG} (h:gM m) (aw:tq m a= some n):gM n:=by
 unfold tq at aw
 split at aw
 ·split at aw
  ·rename_i aE;simp only [Bool.and_eq_true] at aE
   cases aw;exact KN h (afk aE.1) aE.2
  ·cases aw
 split at aw
 ·split at aw
  ·rename_i aE;simp only [Bool.and_eq_true] at aE
   cases hm:sM m.gD with
   | none=>rw [hm] at aw;cases aw
   | some p=>
    rw [hm] at aw;cases aw
    exact KN h (anx aE.1 (List.mem_of_getElem? hm)) aE.2
  ·cases aw
 split at aw
 ·split at aw
  ·rename_i aE;simp only [Bool.and_eq_true] at aE
   cases aw;exact KN h (aqs aE.1) aE.2
  ·cases aw
 split at aw
 ·split at aw
  ·rename_i aE;simp only [Bool.and_eq_true] at aE
   cases aw;exact KN h (aav aE.1) aE.2
  ·cases aw
 ·cases aw
theorem JZ {m n:cz} {a:oG} (h:gM m) (aw:gF m a= some n):gM n:=by
 unfold gF at aw
 split at aw
 ·split at aw
  ·cases aZ:jO m.br m.bD a.val a.mem with
   | none=>rw [aZ] at aw;cases aw
   | some qs=>rw [aZ] at aw;cases aw;exact Qx h (ank aZ)
  ·cases aw
 split at aw
 ·cases aZ:jX m.br m.bD a.mem with
  | none=>rw [aZ] at aw;cases aw
  | some qs=>
   rw [aZ] at aw;cases aw
   have aS:jN m.br m.bD= true:=by
    unfold jX at aZ
    split at aZ
    ·rename_i aE;simp only [Bool.and_eq_true] at aE;exact aE.2.1
    ·cases aZ
   refine⟨aql aZ,h.gD,h.ol,h.Ho,Or.inr (h.IW.resolve_left ?_)⟩
   rw [TD aS];simp
 split at aw
 ·split at aw
  ·exact ary h aw
  ·cases aw
 split at aw
 ·split at aw
  ·cases aZ:kz m.br m.bD a.mem with
   | none=>rw [aZ] at aw;cases aw
   | some qs=>rw [aZ] at aw;cases aw;exact Qx h (arG aZ)
  ·cases aw
 split at aw
 ·split at aw
  ·rename_i aE;simp only [Bool.and_eq_true] at aE
   cases aw
   exact Qx h (agk (show lI m.br m.bD= some _ by rw [lI,if_pos aE.2.1]))
  ·cases aw
 ·exact ahG h aw
theorem agf {m:cz} (h:gM m) (hw:0 < m.bE.length):ho m.br m.bD= true:=by
 rcases h.IW with h1 | h1
 ·exact h1
 ·rw [h1.2] at hw;simp at hw
theorem TF {m:cz} (h:gM m) (hw:m.dH≠0):ho m.br m.bD= true:=by
 rcases h.IW with h1 | h1
 ·exact h1
 ·exact absurd h1.1 hw
theorem aqy {m:cz} (h:gM m) (aS:jN m.br m.bD= true):m.dH= 0:=by
 rcases h.IW with h1 | h1
 ·rw [TD aS] at h1;cases h1
 ·exact h1.1
theorem Pl {N:Nat}:∀{xs:List aI} {lo:Int},xs.Pairwise (fun a b=>a.mem < b.mem)→(∀x,x ∈ xs→lo < x.mem∧x.mem≤lo + N)→xs.length≤N
 | [],_,_,_=>by simp
 | x ::xs,lo,h,aB=>by
  obtain⟨h1,h2⟩:=List.pairwise_cons.1 h
  have ay:=aB x List.mem_cons_self
  cases N with
  | zero=>omega
  | succ N=>
   have:=Pl (N:=N) (lo:=lo + 1) h2 (fun y hy=>by
    have a:=h1 y hy;have b:=aB y (List.mem_cons_of_mem _ hy)
    constructor <;> omega)
   simp;omega
theorem tE {m:cz} (h:gM m):m.br.length≤8∧m.bD.length≤6∧m.bE.length≤10∧m.bK.length≤99∧m.bt.length≤12:=by
 obtain⟨bu,aZ,_⟩:=nr h.hq
 have H:=ln.1 h.gD
 refine⟨?_,aZ,H.l,?_,h.ol⟩
 ·unfold kx at bu;simp only [Bool.and_eq_true,decide_eq_true_eq] at bu;exact bu.2
 ·refine Pl (N:=99) (lo:=0) H.ord fun x ay=>?_
  have:=vr.1 (H.ok x ay);have:=rM.1 this.1
  omega
open Go.RowKit Go.G9
theorem aqN (af ae sp:Int) (W:Option Addr) (ws:List Int) (wc:Nat) (S:Option Addr) (eV:Nat) (U:List aI) (hw:ws.length≤maxLen) (aY:U.length≤maxLen) (l:Int) (js:0≤l) (jo:l≤1048576) (w:World):
 Calls Tryz.prog 137 #[.agg #[af,ae,sp,.slice W ws wc,.slice S U eV],l] w fun e ag=>∃r:Int,e= .returned r∧-1≤r∧r≤l∧(r < 0∨ws.length≤1048576∧U.length≤1048576)∧Below w w ag:=by
 go_in
 go_wp2_with fail
 refine (aqO W wc ws hw l js jo _).mono ?_
 rintro e bd ⟨r,rfl,a1,a2,a3,rfl⟩
 by_cases bu:r < 0
 ·go_wp2
  go_ret
  exact⟨_,rfl,by omega,by omega,.inl (by omega),bZ _ _⟩
 ·have a4:ws.length≤1048576:=by omega
  clear a3
  go_wp2_with fail
  refine (aqW S eV U aY r (by omega) (by omega) _).mono ?_
  rintro e bd ⟨fT,rfl,dx,dz,eu,aB⟩
  by_cases pg:fT < 0
  ·go_wp2
   go_ret
   exact⟨_,rfl,by omega,by omega,.inl (by omega),ah (bZ _ _) aB⟩
  ·have fo:U.length≤1048576:=by omega
   clear eu
   go_wp2
   go_ret
   exact⟨_,rfl,by omega,by omega,.inr ⟨a4,fo⟩,ah (bZ _ _) aB⟩
theorem agA (af ae sp:Int) (W eE:Option Addr) (ws:List Int) (wc aag:Nat) (S Mh:Option Addr) (eV Zj:Nat) (U:List aI) (hw:ws.length≤1048576) (aY:U.length≤1048576) (w:World) (bj:aH 1 bR w W ws) (bh:aH 3 aI.cells w S U) (jS:aH 1 bR w eE ws) (jT:aH 3 aI.cells w Mh U):
 Calls Tryz.prog 143 #[.agg #[af,ae,sp,.slice W ws wc,.slice S U eV],.agg #[af,ae,sp,.slice eE ws aag,.slice Mh U Zj]] w fun e ag=>e= .returned true∧Below w w ag:=by
 go_in
 go_upto_region 1 with fail
 refine fm fun aF au aR bm=>?_
 replace bj:=bj.below au;replace bh:=bh.below au;replace jS:=jS.below au;replace jT:=jT.below au;have I:=au;have a':=aR.aP;have cL:=bm.aP
 go_wp2_with fail
 refine (agB W eE wc aag ws hw _ (bj.below av) (jS.below av)).mono ?_
 rintro e aM ⟨rfl,aN⟩
 have ao:=be aF aN;replace I:=ah I ao;replace bh:=bh.below ao;replace jT:=jT.below ao;replace aR:=aR.to ao;clear a';have a':=aR.aP;replace bm:=bm.to ao;clear cL;have cL:=bm.aP
 go_wp2_with fail
 refine (agL S Mh eV Zj U aY _ (bh.below av) (jT.below av)).mono ?_
 rintro e bB ⟨rfl,bG⟩
 have aK:=be aM bG;replace I:=ah I aK;clear a';clear cL
 go_wp2
 go_ret
 exact⟨rfl,(ah I av)⟩
theorem agD (rs:List aJ) (qs:List aL) (af ae sp:Int) (ws:List Int) (U:List aI) (os:List Out) (an ar aj ak aA:Option Addr) (c0 c1 c2 c3 c4:Nat) (cq cK bg bn ct:Option Addr) (d0 d1 d2 d3 d4:Nat) (h0:rs.length≤1048576) (h1:qs.length≤1048576) (h2:ws.length≤1048576) (h3:U.length≤1048576) (h4:os.length≤1048576) (w:World) (aU:aH 7 aJ.cells w an rs) (aT:aH 3 aL.cells w ar qs) (bj:aH 1 bR w aj ws) (bh:aH 3 aI.cells w ak U) (bU:aH 3 Out.cells w aA os) (nw:aH 7 aJ.cells w cq rs) (lR:aH 3 aL.cells w cK qs) (jS:aH 1 bR w bg ws) (jT:aH 3 aI.cells w bn U) (lk:aH 3 Out.cells w ct os):
 Calls Tryz.prog 82 #[.agg #[.slice an rs c0,.slice ar qs c1,af,ae,sp,.slice aj ws c2,.slice ak U c3,.slice aA os c4],.agg #[.slice cq rs d0,.slice cK qs d1,af,ae,sp,.slice bg ws d2,.slice bn U d3,.slice ct os d4]] w fun e ag=>e= .returned true∧Below w w ag:=by
 go_in
 go_upto_region 1 with fail
 refine fm fun aF au aR bm=>?_
 replace aU:=aU.below au;replace aT:=aT.below au;replace bj:=bj.below au;replace bh:=bh.below au;replace bU:=bU.below au;replace nw:=nw.below au;replace lR:=lR.below au;replace jS:=jS.below au;replace jT:=jT.below au;replace lk:=lk.below au;have I:=au;have a':=aR.aG;have cL:=bm.aG
 go_wp2_with fail
 refine (agJ an cq c0 d0 rs h0 _ (aU.below av) (nw.below av)).mono ?_
 rintro e aM ⟨rfl,aN⟩
 have ao:=be aF aN;replace I:=ah I ao;replace aT:=aT.below ao;replace bj:=bj.below ao;replace bh:=bh.below ao;replace bU:=bU.below ao;replace lR:=lR.below ao;replace jS:=jS.below ao;replace jT:=jT.below ao;replace lk:=lk.below ao;replace aR:=aR.to ao;clear a';have a':=aR.aG;replace bm:=bm.to ao;clear cL;have cL:=bm.aG
 go_wp2_with fail
 refine (agH ar cK c1 d1 qs h1 _ (aT.below av) (lR.below av)).mono ?_
 rintro e bB ⟨rfl,bG⟩
 have aK:=be aM bG;replace I:=ah I aK;replace bj:=bj.below aK;replace bh:=bh.below aK;replace bU:=bU.below aK;replace jS:=jS.below aK;replace jT:=jT.below aK;replace lk:=lk.below aK;replace aR:=aR.to aK;clear a';have a':=aR.aG;replace bm:=bm.to aK;clear cL;have cL:=bm.aG
 go_wp2_with fail
 refine (agA af ae sp aj bg ws c2 d2 ak bn c3 d3 U h2 h3 _ (bj.below av) (bh.below av) (jS.below av) (jT.below av)).mono ?_
 rintro e ca ⟨rfl,cU⟩
 have bS:=be bB cU;replace I:=ah I bS;replace bU:=bU.below bS;replace lk:=lk.below bS;replace aR:=aR.to bS;clear a';have a':=aR.aG;replace bm:=bm.to bS;clear cL;have cL:=bm.aG
 go_wp2_with fail
 refine (agF aA ct c4 d4 os h4 _ (bU.below av) (lk.below av)).mono ?_
 rintro e dc ⟨rfl,ei⟩
 have cx:=be ca ei;replace I:=ah I cx;clear a';clear cL
 go_wp2
 go_ret
 exact⟨rfl,(ah I av)⟩
theorem aqQ (rs:List aJ) (qs:List aL) (af ae sp:Int) (ws:List Int) (U:List aI) (os:List Out) (an ar aj ak aA:Option Addr) (c0 c1 c2 c3 c4:Nat) (h0:rs.length≤maxLen) (h1:qs.length≤maxLen) (h2:ws.length≤maxLen) (h3:U.length≤maxLen) (h4:os.length≤maxLen) (l:Int) (js:0≤l) (jo:l≤1048576) (w:World) (aU:aH 7 aJ.cells w an rs):
 Calls Tryz.prog 80 #[.agg #[.slice an rs c0,.slice ar qs c1,af,ae,sp,.slice aj ws c2,.slice ak U c3,.slice aA os c4],l] w fun e ag=>∃r:Int,e= .returned r∧-1≤r∧r≤l∧(r < 0∨rs.length≤1048576∧qs.length≤1048576∧ws.length≤1048576∧U.length≤1048576∧os.length≤1048576)∧Below w w ag:=by
 go_in
 go_upto_region 1 with fail
 refine cR fun aF au aR=>?_
 replace aU:=aU.below au;have I:=au;have a':=aR.aG
 go_wp2_with fail
 refine (aqU an c0 rs h0 l js jo _ (aU.below av)).mono ?_
 rintro e aM ⟨dJ,rfl,dd,kQ,z0,aN⟩
 have ao:=be aF aN;replace I:=ah I ao;replace aR:=aR.to ao;clear a';have a':=aR.aG
 by_cases n0:dJ < 0
 ·go_wp2
  go_ret
  exact⟨_,rfl,by omega,by omega,.inl (by omega),(ah I av)⟩
 go_wp2_with fail
 refine (aqT ar c1 qs h1 dJ (by omega) (by omega) _).mono ?_
 rintro e bB ⟨r2,rfl,dV,ym,bw,bG⟩
 have aK:=be aM bG;replace I:=ah I aK;replace aR:=aR.to aK;clear a';have a':=aR.aG
 by_cases n1:r2 < 0
 ·go_wp2
  go_ret
  exact⟨_,rfl,by omega,by omega,.inl (by omega),(ah I av)⟩
 go_wp2_with fail
 refine (aqN af ae sp aj ws c2 ak c3 U h2 h3 r2 (by omega) (by omega) _).mono ?_
 rintro e ca ⟨hr,rfl,dT,kA,z2,cU⟩
 have bS:=be bB cU;replace I:=ah I bS;replace aR:=aR.to bS;clear a';have a':=aR.aG
 by_cases n2:hr < 0
 ·go_wp2
  go_ret
  exact⟨_,rfl,by omega,by omega,.inl (by omega),(ah I av)⟩
 go_wp2_with fail
 refine (aqS aA c4 os h4 hr (by omega) (by omega) _).mono ?_
 rintro e dc ⟨nJ,rfl,en,HT,z3,ei⟩
 have cx:=be ca ei;replace I:=ah I cx;clear a'
 by_cases n3:nJ < 0
 ·go_wp2
  go_ret
  exact⟨_,rfl,by omega,by omega,.inl (by omega),(ah I av)⟩
 go_wp2
 go_ret
 exact⟨_,rfl,by omega,by omega,.inr ⟨by omega,by omega,by omega,by omega,by omega⟩,(ah I av)⟩
theorem arc (af ae sp:Int) (W:Option Addr) (ws:List Int) (wc:Nat) (S:Option Addr) (eV:Nat) (U:List aI) (hw:ws.length≤1048576) (aY:U.length≤1048576) (w:World) (bj:aH 1 bR w W ws) (bh:aH 3 aI.cells w S U):
 Calls Tryz.prog 140 #[.agg #[af,ae,sp,.slice W ws wc,.slice S U eV]] w fun e ag=>∃fi fA,e= .returned (.agg #[af,ae,sp,.slice fi ws ws,.slice fA U U])∧aV w 3 1 bR ag (.slice fi ws ws) ws∧aV w 214 3 aI.cells ag (.slice fA U U) U∧(∀k,(Value.slice fi ws ws).ownBlock= some k→some k≠(Value.slice fA U U).ownBlock)∧Below w w ag:=by
 have Fc:=J bj;have Fe:=J bh;clear bj bh
 go_in
 go_upto_region 2 with fail
 refine fr fun aF au aR ad bT=>?_
 have I:=au;have a':=aR.aP;have al:=ad.aP;have bo:=bT.aP;have MM:=bT.frozen 0
 go_upto_region 3 with fail
 clear MM;clear a' al bo
 refine kN 0 fun lT vv=>?_
 replace I:=vv.aE I;replace aR:=vv.dM aR;replace ad:=vv.dM ad;replace bT:=vv.anX bT;have a':=aR.aP;have al:=ad.aP;have bo:=bT.aP;have MN:=bT.frozen 1
 go_upto_region 4 with fail
 clear MN;clear a' al bo
 refine kN 1 fun kb lz=>?_
 replace I:=lz.aE I;replace aR:=lz.dM aR;replace ad:=lz.dM ad;replace bT:=lz.anZ bT;have a':=aR.aP;have al:=ad.aP;have bo:=bT.aP;have MO:=bT.frozen 2
 go_upto_region 5 with fail
 clear MO;clear a' al bo
 refine kN 2 fun xb gI=>?_
 replace I:=gI.aE I;replace aR:=gI.dM aR;replace ad:=gI.dM ad;replace bT:=gI.Kp bT;have a':=aR.aP;have al:=ad.aP;have bo:=bT.aP;have q1:=bT.lt
 go_wp2_with fail
 refine (ard W wc ws hw _ (Fc.out.below I)).mono ?_
 rintro e aM ⟨fi,rfl,bA,aN⟩
 have ao:=be xb aN;replace I:=ah I ao;replace aR:=aR.to ao;clear a';have a':=aR.aP;replace ad:=ad.to ao;clear al;have al:=ad.aP;replace bT:=bT.to ao;clear bo;have bo:=bT.aP;have m2:=bA.lt;have MP:=bT.frozen 3
 go_upto_region 6 with fail
 clear MP;clear a' al bo
 refine kN 3 fun nx eS=>?_
 replace I:=eS.aE I;replace aR:=eS.dM aR;replace ad:=eS.dM ad;replace bT:=eS.DD bT;have aum:=eS.sz;replace bA:=bA.bW eS (fun k az=>by first | exact ej k az | (have:=bA.lt k az;omega));have a':=aR.aP;have al:=ad.aP;have bo:=bT.aP
 have gr:=bT.lt
 go_wp2_with fail
 refine (arq S eV U aY _ (Fe.out.below I)).mono ?_
 rintro e bB ⟨fA,rfl,bq,bG⟩
 have aK:=be nx bG;replace I:=ah I aK;replace bA:=bA.later aK;clear a';replace ad:=ad.to aK;clear al;have al:=ad.aP;replace bT:=bT.to aK;clear bo;have bo:=bT.aP
 have ap:∀k,(Value.slice fi ws ws).ownBlock= some k→some k≠(Value.slice fA U U).ownBlock:=fun k az kZ=>by
  have e1:=(m2 k az).2;have e2:=(bq.lt k kZ.symm).1
  omega
 have MQ:=bT.frozen 4
 go_upto_region 7 with fail
 clear MQ;clear al bo
 refine kN 4 fun ux gg=>?_
 replace I:=gg.aE I;replace ad:=gg.dM ad;replace bT:=gg.PJ bT;replace bA:=bA.bW gg (fun k az=>by first | exact ej k az | (have:=bA.lt k az;omega));replace bq:=bq.bW gg (fun k az=>by first | exact dK k az | (have:=bq.lt k az;omega))
 have al:=ad.aP;have bo:=bT.aP;have ep:=ad.jn
 go_wp2
 clear al bo
 refine gR 0 fun cS aC=>?_
 replace I:=aC.aE I;replace ad:=aC.iP ad;replace bA:=bA.bW aC (fun k az=>by first | exact ej k az | (have:=bA.lt k az;omega));replace bq:=bq.bW aC (fun k az=>by first | exact dK k az | (have:=bq.lt k az;omega));have al:=ad.aP
 exact hg ⟨fi,fA,rfl,bA.base (by omega),bq.base (by omega),ap,I⟩ (by simp [results,Tryz.results140,go_sem,al])
theorem arf (rs:List aJ) (qs:List aL) (af ae sp:Int) (ws:List Int) (U:List aI) (os:List Out) (an ar aj ak aA:Option Addr) (c0 c1 c2 c3 c4:Nat) (h0:rs.length≤1048576) (h1:qs.length≤1048576) (h2:ws.length≤1048576) (h3:U.length≤1048576) (h4:os.length≤1048576) (w:World) (aU:aH 7 aJ.cells w an rs) (aT:aH 3 aL.cells w ar qs) (bj:aH 1 bR w aj ws) (bh:aH 3 aI.cells w ak U) (bU:aH 3 Out.cells w aA os):
 Calls Tryz.prog 81 #[.agg #[.slice an rs c0,.slice ar qs c1,af,ae,sp,.slice aj ws c2,.slice ak U c3,.slice aA os c4]] w fun e ag=>∃ny ee fi fA gv,e= .returned (.agg #[.slice ny rs rs,.slice ee qs qs,af,ae,sp,.slice fi ws ws,.slice fA U U,.slice gv os os])∧aV w 89 7 aJ.cells ag (.slice ny rs rs) rs∧aV w 115 3 aL.cells ag (.slice ee qs qs) qs∧aV w 3 1 bR ag (.slice fi ws ws) ws∧aV w 214 3 aI.cells ag (.slice fA U U) U∧aV w 163 3 Out.cells ag (.slice gv os os) os∧qy [.slice ny rs rs,.slice ee qs qs,.slice fi ws ws,.slice fA U U,.slice gv os os]∧Below w w ag:=by
 have Mi:=J aU;have Mj:=J aT;have Fc:=J bj;have Fe:=J bh;have Ff:=J bU;clear aU aT bj bh bU
 go_in
 go_upto_region 2 with fail
 refine fr fun aF au aR ad bT=>?_
 have I:=au;have a':=aR.aG;have al:=ad.aG;have bo:=bT.aG;have iH:=bT.lt
 go_wp2_with fail
 refine (aro an c0 rs h0 _ (Mi.out.below I)).mono ?_
 rintro e aM ⟨ny,rfl,ch,aN⟩
 have ao:=be aF aN;replace I:=ah I ao;replace aR:=aR.to ao;clear a';have a':=aR.aG;replace ad:=ad.to ao;clear al;have al:=ad.aG;replace bT:=bT.to ao;clear bo;have bo:=bT.aG;have m0:=ch.lt;have MM:=bT.frozen 0
 go_upto_region 3 with fail
 clear MM;clear a' al bo
 refine kN 0 fun lT vv=>?_
 replace I:=vv.aE I;replace aR:=vv.dM aR;replace ad:=vv.dM ad;replace bT:=vv.anY bT;have auj:=vv.sz;replace ch:=ch.bW vv (fun k az=>by first | exact fC k az | (have:=ch.lt k az;omega));have a':=aR.aG
 have al:=ad.aG;have bo:=bT.aG;have q1:=bT.lt
 go_wp2_with fail
 refine (arl ar c1 qs h1 _ (Mj.out.below I)).mono ?_
 rintro e bB ⟨ee,rfl,cm,bG⟩
 have aK:=be lT bG;replace I:=ah I aK;replace ch:=ch.later aK;replace aR:=aR.to aK;clear a';have a':=aR.aG;replace ad:=ad.to aK;clear al;have al:=ad.aG;replace bT:=bT.to aK;clear bo;have bo:=bT.aG;have m1:=cm.lt;have auK:=aK.size;have MN:=bT.frozen 1
 go_upto_region 4 with fail
 clear MN;clear a' al bo
 refine kN 1 fun kb lz=>?_
 replace I:=lz.aE I;replace aR:=lz.dM aR;replace ad:=lz.dM ad;replace bT:=lz.Hs bT;have auk:=lz.sz;replace ch:=ch.bW lz (fun k az=>by first | exact fC k az | (have:=ch.lt k az;omega))
 replace cm:=cm.bW lz (fun k az=>by first | exact ih k az | (have:=cm.lt k az;omega));have a':=aR.aG;have al:=ad.aG;have bo:=bT.aG;have gr:=bT.lt
 go_wp2_with fail
 refine (arc af ae sp aj ws c2 ak c3 U h2 h3 _ (Fc.out.below I) (Fe.out.below I)).mono ?_
 rintro e ca ⟨fi,fA,rfl,bA,bq,afq,cU⟩
 have bS:=be kb cU;replace I:=ah I bS;replace ch:=ch.later bS;replace cm:=cm.later bS;replace aR:=aR.to bS;clear a';have a':=aR.aG;replace ad:=ad.to bS;clear al;have al:=ad.aG;replace bT:=bT.to bS;clear bo;have bo:=bT.aG;have m2:=bA.lt;have m3:=bq.lt;have auL:=bS.size;have MO:=bT.frozen 2;have MP:=bT.frozen 3;have MQ:=bT.frozen 4
 have ahu:=bT.frozen 5;have ahv:=bT.frozen 6
 go_upto_region 5 with fail
 clear MO MP MQ ahu ahv;clear a' al bo
 refine gR 2 fun xb gI=>?_
 replace I:=gI.aE I;replace aR:=gI.dM aR;replace ad:=gI.dM ad;replace bT:=gI.DC bT;have aul:=gI.sz;replace ch:=ch.bW gI (fun k az=>by first | exact fC k az | (have:=ch.lt k az;omega))
 replace cm:=cm.bW gI (fun k az=>by first | exact ih k az | (have:=cm.lt k az;omega));replace bA:=bA.bW gI (fun k az=>by first | exact ej k az | (have:=bA.lt k az;omega));replace bq:=bq.bW gI (fun k az=>by first | exact dK k az | (have:=bq.lt k az;omega));have a':=aR.aG;have al:=ad.aG;have bo:=bT.aG;have DE:=bT.lt
 go_wp2_with fail
 refine (arj aA c4 os h4 _ (Ff.out.below I)).mono ?_
 rintro e dc ⟨gv,rfl,cv,ei⟩
 have cx:=be xb ei;replace I:=ah I cx;replace ch:=ch.later cx;replace cm:=cm.later cx;replace bA:=bA.later cx;replace bq:=bq.later cx;clear a';replace ad:=ad.to cx;clear al;have al:=ad.aG;replace bT:=bT.to cx;clear bo;have bo:=bT.aG;have m4:=cv.lt
 have ap:qy [.slice ny rs rs,.slice ee qs qs,.slice fi ws ws,.slice fA U U,.slice gv os os]:=by
  refine List.Pairwise.cons ?_ (List.Pairwise.cons ?_ (List.Pairwise.cons ?_ (List.Pairwise.cons ?_ (List.Pairwise.cons ?_ List.Pairwise.nil))))
  ·intro v aw k az kZ
   have e1:=(m0 k az).2
   simp only [List.mem_cons,List.not_mem_nil,or_false] at aw
   rcases aw with rfl | rfl | rfl | rfl
   ·have e2:=(m1 k kZ.symm).1;omega
   ·have e2:=(m2 k kZ.symm).1;omega
   ·have e2:=(m3 k kZ.symm).1;omega
   ·have e2:=(m4 k kZ.symm).1;omega
  ·intro v aw k az kZ
   have e1:=(m1 k az).2
   simp only [List.mem_cons,List.not_mem_nil,or_false] at aw
   rcases aw with rfl | rfl | rfl
   ·have e2:=(m2 k kZ.symm).1;omega
   ·have e2:=(m3 k kZ.symm).1;omega
   ·have e2:=(m4 k kZ.symm).1;omega
  ·intro v aw k az kZ
   have e1:=(m2 k az).2
   simp only [List.mem_cons,List.not_mem_nil,or_false] at aw
   rcases aw with rfl | rfl
   ·exact afq k az kZ
   ·have e2:=(m4 k kZ.symm).1;omega
  ·intro v aw k az kZ
   have e1:=(m3 k az).2
   simp only [List.mem_cons,List.not_mem_nil,or_false] at aw
   subst aw
   have e2:=(m4 k kZ.symm).1
   omega
  ·intro v aw;simp at aw
 have ahw:=bT.frozen 7
 go_upto_region 6 with fail
 clear ahw;clear al bo
 refine kN 7 fun nx eS=>?_
 replace I:=eS.aE I;replace ad:=eS.dM ad;replace bT:=eS.PK bT;replace ch:=ch.bW eS (fun k az=>by first | exact fC k az | (have:=ch.lt k az;omega))
 replace cm:=cm.bW eS (fun k az=>by first | exact ih k az | (have:=cm.lt k az;omega));replace bA:=bA.bW eS (fun k az=>by first | exact ej k az | (have:=bA.lt k az;omega));replace bq:=bq.bW eS (fun k az=>by first | exact dK k az | (have:=bq.lt k az;omega));replace cv:=cv.bW eS (fun k az=>by first | exact fI k az | (have:=cv.lt k az;omega));have al:=ad.aG
 have bo:=bT.aG;have ep:=ad.jh
 go_wp2
 clear al bo
 refine iK 0 fun cS aC=>?_
 replace I:=aC.aE I;replace ad:=aC.jg ad;replace ch:=ch.bW aC (fun k az=>by first | exact fC k az | (have:=ch.lt k az;omega));replace cm:=cm.bW aC (fun k az=>by first | exact ih k az | (have:=cm.lt k az;omega));replace bA:=bA.bW aC (fun k az=>by first | exact ej k az | (have:=bA.lt k az;omega));replace bq:=bq.bW aC (fun k az=>by first | exact dK k az | (have:=bq.lt k az;omega))
 replace cv:=cv.bW aC (fun k az=>by first | exact fI k az | (have:=cv.lt k az;omega));have al:=ad.aG
 exact hg ⟨ny,ee,fi,fA,gv,rfl,ch.base (by omega),cm.base (by omega),bA.base (by omega),bq.base (by omega),cv.base (by omega),ap,I⟩ (by simp [results,Tryz.results81,go_sem,al])
theorem aqR (m:cz) (an ar aj ak aA:Option Addr) (c0 c1 c2 c3 c4:Nat) (h0:m.br.length≤maxLen) (h1:m.bD.length≤maxLen) (h2:m.bE.length≤maxLen) (h3:m.bK.length≤maxLen) (h4:m.bt.length≤maxLen) (l:Int) (js:0≤l) (jo:l≤1048576) (w:World) (aU:aH 7 aJ.cells w an m.br):
 Calls Tryz.prog 80 #[.agg #[.slice an m.br c0,.slice ar m.bD c1,m.cZ,m.cQ,m.dH,.slice aj m.bE c2,.slice ak m.bK c3,.slice aA m.bt c4],l] w fun e ag=>∃r:Int,e= .returned r∧-1≤r∧r≤l∧(r < 0∨m.br.length≤1048576∧m.bD.length≤1048576∧m.bE.length≤1048576∧m.bK.length≤1048576∧m.bt.length≤1048576)∧Below w w ag:=
 aqQ m.br m.bD m.cZ m.cQ m.dH m.bE m.bK m.bt an ar aj ak aA c0 c1 c2 c3 c4 h0 h1 h2 h3 h4 l js jo w aU
theorem agE (m:cz) (an ar aj ak aA cq cK bg bn ct:Option Addr) (c0 c1 c2 c3 c4 d0 d1 d2 d3 d4:Nat) (h0:m.br.length≤1048576) (h1:m.bD.length≤1048576) (h2:m.bE.length≤1048576) (h3:m.bK.length≤1048576) (h4:m.bt.length≤1048576) (w:World) (aU:aH 7 aJ.cells w an m.br) (aT:aH 3 aL.cells w ar m.bD) (bj:aH 1 bR w aj m.bE) (bh:aH 3 aI.cells w ak m.bK) (bU:aH 3 Out.cells w aA m.bt) (nw:aH 7 aJ.cells w cq m.br) (lR:aH 3 aL.cells w cK m.bD) (jS:aH 1 bR w bg m.bE) (jT:aH 3 aI.cells w bn m.bK) (lk:aH 3 Out.cells w ct m.bt):
 Calls Tryz.prog 82 #[.agg #[.slice an m.br c0,.slice ar m.bD c1,m.cZ,m.cQ,m.dH,.slice aj m.bE c2,.slice ak m.bK c3,.slice aA m.bt c4],.agg #[.slice cq m.br d0,.slice cK m.bD d1,m.cZ,m.cQ,m.dH,.slice bg m.bE d2,.slice bn m.bK d3,.slice ct m.bt d4]] w fun e ag=>e= .returned true∧Below w w ag:=
 agD m.br m.bD m.cZ m.cQ m.dH m.bE m.bK m.bt an ar aj ak aA c0 c1 c2 c3 c4 cq cK bg bn ct d0 d1 d2 d3 d4 h0 h1 h2 h3 h4 w aU aT bj bh bU nw lR jS jT lk
theorem ari (m:cz) (an ar aj ak aA:Option Addr) (c0 c1 c2 c3 c4:Nat) (h0:m.br.length≤1048576) (h1:m.bD.length≤1048576) (h2:m.bE.length≤1048576) (h3:m.bK.length≤1048576) (h4:m.bt.length≤1048576) (w:World) (aU:aH 7 aJ.cells w an m.br) (aT:aH 3 aL.cells w ar m.bD) (bj:aH 1 bR w aj m.bE) (bh:aH 3 aI.cells w ak m.bK) (bU:aH 3 Out.cells w aA m.bt):
 Calls Tryz.prog 81 #[.agg #[.slice an m.br c0,.slice ar m.bD c1,m.cZ,m.cQ,m.dH,.slice aj m.bE c2,.slice ak m.bK c3,.slice aA m.bt c4]] w fun e ag=>∃ny ee fi fA gv,e= .returned (.agg #[.slice ny m.br m.br,.slice ee m.bD m.bD,m.cZ,m.cQ,m.dH,.slice fi m.bE m.bE,.slice fA m.bK m.bK,.slice gv m.bt m.bt])∧aV w 89 7 aJ.cells ag (.slice ny m.br m.br) m.br∧aV w 115 3 aL.cells ag (.slice ee m.bD m.bD) m.bD∧aV w 3 1 bR ag (.slice fi m.bE m.bE) m.bE∧aV w 214 3 aI.cells ag (.slice fA m.bK m.bK) m.bK∧aV w 163 3 Out.cells ag (.slice gv m.bt m.bt) m.bt∧qy [.slice ny m.br m.br,.slice ee m.bD m.bD,.slice fi m.bE m.bE,.slice fA m.bK m.bK,.slice gv m.bt m.bt]∧Below w w ag:=
 arf m.br m.bD m.cZ m.cQ m.dH m.bE m.bK m.bt an ar aj ak aA c0 c1 c2 c3 c4 h0 h1 h2 h3 h4 w aU aT bj bh bU
open Go.RowKit Go.G9
structure RD where
 cZ:Int
 cQ:Int
 dH:Int
 bE:List Int
 bK:List aI
theorem anc {yv yw:Nat} (x:RD) (an ar:Option Addr) (c0 c1:Nat) (tz:x.bE.length≤1048576) (mr:x.bK.length≤1048576) (m:Int) (h0:0 < m) (h1:m≤20000000) (w:World)
  (ch:aV yv 3 1 bR w (.slice an x.bE c0) x.bE) (cm:aV yw 214 3 aI.cells w (.slice ar x.bK c1) x.bK) (ap:qy [.slice an x.bE c0,.slice ar x.bK c1]):
 Calls Tryz.prog 147 #[.agg #[x.cZ,x.cQ,x.dH,.slice an x.bE c0,.slice ar x.bK c1],m] w fun e ag=>e= .returned (.int .i64 (m + (x.bE.length:Int) + 3 * (x.bK.length:Int)))∧aV yv 3 1 tJ ag (.slice an x.bE c0) (fE (m) 1 x.bE.length)∧aV yw 214 3 tK ag (.slice ar x.bK c1) (fE (m + (x.bE.length:Int)) 3 x.bK.length)∧oV w ag [.slice an x.bE c0,.slice ar x.bK c1]:=by
 have Fx:=J (ap.at (i:=0) (j:=1) (by decide) rfl rfl)
 go_in
 have js:=J (fun k az=>(ch.lt k az).2);replace ch:=ch.alloc (.cells #[x.cZ,x.cQ,x.dH,.slice an x.bE c0,.slice ar x.bK c1] 41);replace cm:=cm.alloc (.cells #[x.cZ,x.cQ,x.dH,.slice an x.bE c0,.slice ar x.bK c1] 41)
 go_wp2_with fail
 refine (ane _ an c0 x.bE tz (m) (by omega) (by omega) _ ch).mono ?_
 rintro e w0 ⟨rfl,si,qW⟩
 have vL:=FG qW;replace cm:=cm.pJ vL (fun k az u hu e=>by simp only [List.mem_singleton] at hu;subst hu;exact Fx.out k e az.symm);have X:aq w0 w.heap.size 41 #[x.cZ,x.cQ,x.dH,.slice an x.bE c0,.slice ar x.bK c1]:=(vL.block _ (by simp) (fun u hu e=>by simp only [List.mem_singleton] at hu;subst hu;have:=js.out _ e;omega)).trans (aq.new w 41 #[x.cZ,x.cQ,x.dH,.slice an x.bE c0,.slice ar x.bK c1])
 have a4:=(aq.cell X 4).trans (show _= some (.slice ar x.bK c1) from rfl)
 go_wp2_with fail
 refine (anj _ ar c1 x.bK mr (m + (x.bE.length:Int)) (by omega) (by omega) _ cm).mono ?_
 rintro e bd ⟨rfl,xa,gw⟩
 have ub:=FG gw;replace si:=si.pJ ub (fun k az u hu e=>by simp only [List.mem_singleton] at hu;subst hu;exact Fx.out k az e.symm);clear a4
 go_wp2
 go_ret
 exact⟨rfl,si,xa,((oV.Px (vs:=[]) (bZ w (.cells #[x.cZ,x.cQ,x.dH,.slice an x.bE c0,.slice ar x.bK c1] 41))).trans vL).trans ub⟩
theorem aiQ (x:RD) (an ar:Option Addr) (c0 c1:Nat) (tz:x.bE.length≤1048576) (mr:x.bK.length≤1048576) (m:Int) (h0:0 < m) (h1:m≤20000000) (w:World)
  (aU:aH 1 tJ w an (fE (m) 1 x.bE.length)) (aT:aH 3 tK w ar (fE (m + (x.bE.length:Int)) 3 x.bK.length)):
 Calls Tryz.prog 151 #[.agg #[x.cZ,x.cQ,x.dH,.slice an x.bE c0,.slice ar x.bK c1],m] w fun e ag=>e= .returned (.int .i64 (m + (x.bE.length:Int) + 3 * (x.bK.length:Int)))∧Below w w ag:=by
 go_in
 go_wp2_with fail
 refine (aiR an c0 _ tz (m) (by omega) (by omega) _ (aU.below av)).mono ?_
 rintro e bd ⟨rfl,bz⟩
 have au:=be w bz;have I:Below w w bd:=au;have ee:aq bd (w.heap.size) 41 #[x.cZ,x.cQ,x.dH,.slice an x.bE c0,.slice ar x.bK c1]:=aq.below (by repeat (first | exact aq.new _ _ _ | exact aq.fu _ _ _ _ | exact aq.fx _ _ _ _ _ | refine aq.alloc ?_ _)) bz (by simp <;> omega);have yH:=ee.aP
 go_wp2_with fail
 refine (aiW ar c1 _ mr (m + (x.bE.length:Int)) (by omega) (by omega) _ (aT.below (ah I av))).mono ?_
 rintro e aM ⟨rfl,aN⟩
 clear yH;have ao:=be bd aN;replace I:=ah I ao
 go_wp2
 go_ret
 exact⟨rfl,ah I av⟩
theorem anf {yv yw Ea Eb Ec:Nat} (x:cz) (an ar aj ak aA:Option Addr) (c0 c1 c2 c3 c4:Nat) (tz:x.br.length≤1048576) (mr:x.bD.length≤1048576) (qZ:x.bE.length≤1048576) (qj:x.bK.length≤1048576) (Gx:x.bt.length≤1048576) (m:Int) (h0:0 < m) (h1:m≤9000000) (w:World)
  (ch:aV yv 89 7 aJ.cells w (.slice an x.br c0) x.br) (cm:aV yw 115 3 aL.cells w (.slice ar x.bD c1) x.bD) (bA:aV Ea 3 1 bR w (.slice aj x.bE c2) x.bE) (bq:aV Eb 214 3 aI.cells w (.slice ak x.bK c3) x.bK) (cv:aV Ec 163 3 Out.cells w (.slice aA x.bt c4) x.bt) (ap:qy [.slice an x.br c0,.slice ar x.bD c1,.slice aj x.bE c2,.slice ak x.bK c3,.slice aA x.bt c4]):
 Calls Tryz.prog 84 #[.agg #[.slice an x.br c0,.slice ar x.bD c1,x.cZ,x.cQ,x.dH,.slice aj x.bE c2,.slice ak x.bK c3,.slice aA x.bt c4],m] w fun e ag=>e= .returned (.int .i64 (m + 7 * (x.br.length:Int) + 3 * (x.bD.length:Int) + (x.bE.length:Int) + 3 * (x.bK.length:Int) + 3 * (x.bt.length:Int)))∧aV yv 89 7 wA ag (.slice an x.br c0) (fE (m) 7 x.br.length)∧aV yw 115 3 wz ag (.slice ar x.bD c1) (fE (m + 7 * (x.br.length:Int)) 3 x.bD.length)∧aV Ea 3 1 tJ ag (.slice aj x.bE c2) (fE (m + 7 * (x.br.length:Int) + 3 * (x.bD.length:Int)) 1 x.bE.length)∧aV Eb 214 3 tK ag (.slice ak x.bK c3) (fE (m + 7 * (x.br.length:Int) + 3 * (x.bD.length:Int) + (x.bE.length:Int)) 3 x.bK.length)∧aV Ec 163 3 wy ag (.slice aA x.bt c4) (fE (m + 7 * (x.br.length:Int) + 3 * (x.bD.length:Int) + (x.bE.length:Int) + 3 * (x.bK.length:Int)) 3 x.bt.length)∧oV w ag [.slice an x.br c0,.slice ar x.bD c1,.slice aj x.bE c2,.slice ak x.bK c3,.slice aA x.bt c4]:=by
 have Fx:=J (ap.at (i:=0) (j:=1) (by decide) rfl rfl);have Ts:=J (ap.at (i:=0) (j:=2) (by decide) rfl rfl);have Tt:=J (ap.at (i:=0) (j:=3) (by decide) rfl rfl);have Tu:=J (ap.at (i:=0) (j:=4) (by decide) rfl rfl);have Tv:=J (ap.at (i:=1) (j:=2) (by decide) rfl rfl);have Tw:=J (ap.at (i:=1) (j:=3) (by decide) rfl rfl);have Tx:=J (ap.at (i:=1) (j:=4) (by decide) rfl rfl)
 have agd:=J (ap.at (i:=2) (j:=3) (by decide) rfl rfl);have Ty:=J (ap.at (i:=2) (j:=4) (by decide) rfl rfl);have Tz:=J (ap.at (i:=3) (j:=4) (by decide) rfl rfl)
 go_in
 have js:=J (fun k az=>(ch.lt k az).2);have jo:=J (fun k az=>(cm.lt k az).2);have mQ:=J (fun k az=>(bA.lt k az).2);have qq:=J (fun k az=>(bq.lt k az).2);replace ch:=ch.alloc (.cells #[.slice an x.br c0,.slice ar x.bD c1,x.cZ,x.cQ,x.dH,.slice aj x.bE c2,.slice ak x.bK c3,.slice aA x.bt c4] 44)
 replace cm:=cm.alloc (.cells #[.slice an x.br c0,.slice ar x.bD c1,x.cZ,x.cQ,x.dH,.slice aj x.bE c2,.slice ak x.bK c3,.slice aA x.bt c4] 44);replace bA:=bA.alloc (.cells #[.slice an x.br c0,.slice ar x.bD c1,x.cZ,x.cQ,x.dH,.slice aj x.bE c2,.slice ak x.bK c3,.slice aA x.bt c4] 44)
 replace bq:=bq.alloc (.cells #[.slice an x.br c0,.slice ar x.bD c1,x.cZ,x.cQ,x.dH,.slice aj x.bE c2,.slice ak x.bK c3,.slice aA x.bt c4] 44);replace cv:=cv.alloc (.cells #[.slice an x.br c0,.slice ar x.bD c1,x.cZ,x.cQ,x.dH,.slice aj x.bE c2,.slice ak x.bK c3,.slice aA x.bt c4] 44)
 go_wp2_with fail
 refine (ani _ an c0 x.br tz (m) (by omega) (by omega) _ ch).mono ?_
 rintro e w0 ⟨rfl,si,qW⟩
 have vL:=FG qW;replace cm:=cm.pJ vL (fun k az u hu e=>by simp only [List.mem_cons,List.not_mem_nil,or_false] at hu;subst hu;exact Fx.out k e az.symm);replace bA:=bA.pJ vL (fun k az u hu e=>by simp only [List.mem_cons,List.not_mem_nil,or_false] at hu;subst hu;exact Ts.out k e az.symm);replace bq:=bq.pJ vL (fun k az u hu e=>by simp only [List.mem_cons,List.not_mem_nil,or_false] at hu;subst hu;exact Tt.out k e az.symm)
 replace cv:=cv.pJ vL (fun k az u hu e=>by simp only [List.mem_cons,List.not_mem_nil,or_false] at hu;subst hu;exact Tu.out k e az.symm);have X:aq w0 w.heap.size 44 #[.slice an x.br c0,.slice ar x.bD c1,x.cZ,x.cQ,x.dH,.slice aj x.bE c2,.slice ak x.bK c3,.slice aA x.bt c4]:=(vL.block _ (by simp) (fun u hu e=>by simp only [List.mem_cons,List.not_mem_nil,or_false] at hu;subst hu;have:=js.out _ e;omega)).trans (aq.new w 44 #[.slice an x.br c0,.slice ar x.bD c1,x.cZ,x.cQ,x.dH,.slice aj x.bE c2,.slice ak x.bK c3,.slice aA x.bt c4])
 have a1:=(aq.cell X 1).trans (show _= some (.slice ar x.bD c1) from rfl);have a2:=(aq.cell X 2).trans (show _= some (.int .i64 x.cZ) from rfl);have a3:=(aq.cell X 3).trans (show _= some (.int .i64 x.cQ) from rfl);have a4:=(aq.cell X 4).trans (show _= some (.int .i64 x.dH) from rfl);have a5:=(aq.cell X 5).trans (show _= some (.slice aj x.bE c2) from rfl)
 have a6:=(aq.cell X 6).trans (show _= some (.slice ak x.bK c3) from rfl);have a7:=(aq.cell X 7).trans (show _= some (.slice aA x.bt c4) from rfl)
 go_wp2_with fail
 refine (anh _ ar c1 x.bD mr (m + 7 * (x.br.length:Int)) (by omega) (by omega) _ cm).mono ?_
 rintro e bd ⟨rfl,xa,gw⟩
 have ub:=FG gw;replace si:=si.pJ ub (fun k az u hu e=>by simp only [List.mem_cons,List.not_mem_nil,or_false] at hu;subst hu;exact Fx.out k az e.symm);replace bA:=bA.pJ ub (fun k az u hu e=>by simp only [List.mem_cons,List.not_mem_nil,or_false] at hu;subst hu;exact Tv.out k e az.symm);replace bq:=bq.pJ ub (fun k az u hu e=>by simp only [List.mem_cons,List.not_mem_nil,or_false] at hu;subst hu;exact Tw.out k e az.symm)
 replace cv:=cv.pJ ub (fun k az u hu e=>by simp only [List.mem_cons,List.not_mem_nil,or_false] at hu;subst hu;exact Tx.out k e az.symm);replace X:=(ub.block _ (aq.lt X) (fun u hu e=>by simp only [List.mem_cons,List.not_mem_nil,or_false] at hu;subst hu;have:=jo.out _ e;omega)).trans X;clear a1 a2 a3 a4 a5 a6 a7;have a2:=(aq.cell X 2).trans (show _= some (.int .i64 x.cZ) from rfl)
 have a3:=(aq.cell X 3).trans (show _= some (.int .i64 x.cQ) from rfl);have a4:=(aq.cell X 4).trans (show _= some (.int .i64 x.dH) from rfl);have a5:=(aq.cell X 5).trans (show _= some (.slice aj x.bE c2) from rfl);have a6:=(aq.cell X 6).trans (show _= some (.slice ak x.bK c3) from rfl);have a7:=(aq.cell X 7).trans (show _= some (.slice aA x.bt c4) from rfl)
 go_wp2_with fail
 refine (anc ⟨x.cZ,x.cQ,x.dH,x.bE,x.bK⟩ aj ak c2 c3 qZ qj (m + 7 * (x.br.length:Int) + 3 * (x.bD.length:Int)) (by omega) (by omega) _ bA bq (afs agd.out)).mono ?_
 rintro e aM ⟨rfl,M2,EH,ud⟩
 replace si:=si.pJ ud (fun k az u hu e=>by simp only [List.mem_cons,List.not_mem_nil,or_false] at hu;rcases hu with rfl | rfl <;> first | (exact Ts.out k az e.symm) | (exact Tt.out k az e.symm));replace xa:=xa.pJ ud (fun k az u hu e=>by simp only [List.mem_cons,List.not_mem_nil,or_false] at hu;rcases hu with rfl | rfl <;> first | (exact Tv.out k az e.symm) | (exact Tw.out k az e.symm))
 replace cv:=cv.pJ ud (fun k az u hu e=>by simp only [List.mem_cons,List.not_mem_nil,or_false] at hu;rcases hu with rfl | rfl <;> first | (exact Ty.out k e az.symm) | (exact Tz.out k e az.symm));replace X:=(ud.block _ (aq.lt X) (fun u hu e=>by simp only [List.mem_cons,List.not_mem_nil,or_false] at hu;rcases hu with rfl | rfl <;> first | (have:=mQ.out _ e;omega) | (have:=qq.out _ e;omega))).trans X
 clear a2 a3 a4 a5 a6 a7;have a7:=(aq.cell X 7).trans (show _= some (.slice aA x.bt c4) from rfl)
 go_wp2_with fail
 refine (ang _ aA c4 x.bt Gx (m + 7 * (x.br.length:Int) + 3 * (x.bD.length:Int) + (x.bE.length:Int) + 3 * (x.bK.length:Int)) (by omega) (by omega) _ cv).mono ?_
 rintro e bB ⟨rfl,LY,xC⟩
 have Em:=FG xC;replace si:=si.pJ Em (fun k az u hu e=>by simp only [List.mem_cons,List.not_mem_nil,or_false] at hu;subst hu;exact Tu.out k az e.symm);replace xa:=xa.pJ Em (fun k az u hu e=>by simp only [List.mem_cons,List.not_mem_nil,or_false] at hu;subst hu;exact Tx.out k az e.symm);replace M2:=M2.pJ Em (fun k az u hu e=>by simp only [List.mem_cons,List.not_mem_nil,or_false] at hu;subst hu;exact Ty.out k az e.symm)
 replace EH:=EH.pJ Em (fun k az u hu e=>by simp only [List.mem_cons,List.not_mem_nil,or_false] at hu;subst hu;exact Tz.out k az e.symm);clear a7
 go_wp2
 go_ret
 exact⟨rfl,si,xa,M2,EH,LY,((((oV.Px (vs:=[]) (bZ w (.cells #[.slice an x.br c0,.slice ar x.bD c1,x.cZ,x.cQ,x.dH,.slice aj x.bE c2,.slice ak x.bK c3,.slice aA x.bt c4] 44))).trans vL).trans ub).trans ud).trans Em⟩
open Go.RowKit Go.G9
theorem aiS (x:cz) (an ar aj ak aA:Option Addr) (c0 c1 c2 c3 c4:Nat) (tz:x.br.length≤1048576) (mr:x.bD.length≤1048576) (qZ:x.bE.length≤1048576) (qj:x.bK.length≤1048576) (Gx:x.bt.length≤1048576) (m:Int) (h0:0 < m) (h1:m≤9000000) (w:World)
  (aU:aH 7 wA w an (fE (m) 7 x.br.length)) (aT:aH 3 wz w ar (fE (m + 7 * (x.br.length:Int)) 3 x.bD.length)) (bj:aH 1 tJ w aj (fE (m + 7 * (x.br.length:Int) + 3 * (x.bD.length:Int)) 1 x.bE.length)) (bh:aH 3 tK w ak (fE (m + 7 * (x.br.length:Int) + 3 * (x.bD.length:Int) + (x.bE.length:Int)) 3 x.bK.length)) (bU:aH 3 wy w aA (fE (m + 7 * (x.br.length:Int) + 3 * (x.bD.length:Int) + (x.bE.length:Int) + 3 * (x.bK.length:Int)) 3 x.bt.length)):
 Calls Tryz.prog 86 #[.agg #[.slice an x.br c0,.slice ar x.bD c1,x.cZ,x.cQ,x.dH,.slice aj x.bE c2,.slice ak x.bK c3,.slice aA x.bt c4],m] w fun e ag=>e= .returned (.int .i64 (m + 7 * (x.br.length:Int) + 3 * (x.bD.length:Int) + (x.bE.length:Int) + 3 * (x.bK.length:Int) + 3 * (x.bt.length:Int)))∧Below w w ag:=by
 go_in
 go_wp2_with fail
 refine (aiV an c0 _ tz (m) (by omega) (by omega) _ (aU.below av)).mono ?_
 rintro e bd ⟨rfl,bz⟩
 have au:=be w bz;have bw:=au.size;have I:Below w w bd:=au;have ee:aq bd (w.heap.size) 44 #[.slice an x.br c0,.slice ar x.bD c1,x.cZ,x.cQ,x.dH,.slice aj x.bE c2,.slice ak x.bK c3,.slice aA x.bt c4]:=aq.below (by repeat (first | exact aq.new _ _ _ | exact aq.fu _ _ _ _ | exact aq.fx _ _ _ _ _ | refine aq.alloc ?_ _)) bz (by simp <;> omega)
 have arU:=ee.lt;have yH:=ee.aG
 go_wp2_with fail
 refine (aiU ar c1 _ mr (m + 7 * (x.br.length:Int)) (by omega) (by omega) _ (aT.below (ah I av))).mono ?_
 rintro e aM ⟨rfl,aN⟩
 clear yH;have ao:=be bd aN;have z2:=ao.size;replace I:=ah I ao;replace ee:=ee.to ao;have yH:=ee.aG
 go_wp2_with fail
 refine (aiQ ⟨x.cZ,x.cQ,x.dH,x.bE,x.bK⟩ aj ak c2 c3 qZ qj (m + 7 * (x.br.length:Int) + 3 * (x.bD.length:Int)) (by omega) (by omega) _ (bj.below (ah I av)) (bh.below (ah I av))).mono ?_
 rintro e bB ⟨rfl,bG⟩
 clear yH;have aK:=be aM bG;have z3:=aK.size;replace I:=ah I aK;replace ee:=ee.to aK;have yH:=ee.aG
 go_wp2_with fail
 refine (aiT aA c4 _ Gx (m + 7 * (x.br.length:Int) + 3 * (x.bD.length:Int) + (x.bE.length:Int) + 3 * (x.bK.length:Int)) (by omega) (by omega) _ (bU.below (ah I av))).mono ?_
 rintro e ca ⟨rfl,cU⟩
 clear yH;have bS:=be bB cU;have z4:=bS.size;replace I:=ah I bS;replace ee:=ee.to bS;have yH:=ee.aG
 go_wp2
 go_ret
 exact⟨rfl,ah I av⟩
open Go.RowKit Go.G9
def hE (os:List Out) (n:Int):Nat→Int×Int
 | 0=>(0,0)
 | k + 1=>match os[k]? with | some o=>if o.mover == n then ((hE os n k).1 + 1,(hE os n k).2 + (if o.hB then 1 else 0)) else hE os n k | none=>hE os n k
theorem Ps (os:List Out) (n:Int):∀k,0≤(hE os n k).1∧(hE os n k).1≤k∧0≤(hE os n k).2∧(hE os n k).2≤k
 | 0=>by simp [hE]
 | k + 1=>by
  have:=Ps os n k
  unfold hE
  split
  ·split
   ·dsimp only;split <;> omega
   ·omega
  ·omega
def wu (m:cz) (n:Int):Value:=if pL m && eG n then .tuple #[.int .i64 (hE m.bt n m.bt.length).1,.int .i64 (hE m.bt n m.bt.length).2,.bool true] else .tuple #[.int .i64 0,.int .i64 0,.bool false]
theorem AP (m:cz) (an ar aj ak aA:Option Addr) (c0 c1 c2 c3 c4:Nat) (h0:m.br.length≤1048576) (h1:m.bD.length≤1048576) (h2:m.bE.length≤1048576) (h3:m.bK.length≤1048576) (h4:m.bt.length≤1048576) (v:Bool) (aw:pL m= v) (w:World) (aU:aH 7 aJ.cells w an m.br) (aT:aH 3 aL.cells w ar m.bD) (bj:aH 1 bR w aj m.bE) (bh:aH 3 aI.cells w ak m.bK) (bU:aH 3 Out.cells w aA m.bt) (dY:m.br.length≤c0) (eB:m.bD.length≤c1) (cp:m.bE.length≤c2) (ed:m.bK.length≤c3) (hp:m.bt.length≤c4):
 Calls Tryz.prog 63 #[.agg #[.slice an m.br c0,.slice ar m.bD c1,m.cZ,m.cQ,m.dH,.slice aj m.bE c2,.slice ak m.bK c3,.slice aA m.bt c4]] w fun e ag=>e= .returned v∧Below w w ag:=
 ala m.br m.bD m.cZ m.cQ m.dH m.bE m.bK m.bt an ar aj ak aA c0 c1 c2 c3 c4 h0 h1 h2 h3 h4 v aw w aU aT bj bh bU dY cp
theorem AW (m:cz) (an ar aj ak aA:Option Addr) (c0 c1 c2 c3 c4:Nat) (h0:m.br.length≤1048576) (h1:m.bD.length≤1048576) (h2:m.bE.length≤1048576) (h3:m.bK.length≤1048576) (h4:m.bt.length≤1048576) (v:Bool) (aw:pL m= v) (w:World) (aU:aH 7 aJ.cells w an m.br) (aT:aH 3 aL.cells w ar m.bD) (bj:aH 1 bR w aj m.bE) (bh:aH 3 aI.cells w ak m.bK) (bU:aH 3 Out.cells w aA m.bt) (dY:m.br.length≤c0) (eB:m.bD.length≤c1) (cp:m.bE.length≤c2) (ed:m.bK.length≤c3) (hp:m.bt.length≤c4):
 Calls Tryz.prog 107 #[.agg #[.slice an m.br c0,.slice ar m.bD c1,m.cZ,m.cQ,m.dH,.slice aj m.bE c2,.slice ak m.bK c3,.slice aA m.bt c4]] w fun e ag=>e= .returned v∧Below w w ag:=
 apJ m.br m.bD m.cZ m.cQ m.dH m.bE m.bK m.bt an ar aj ak aA c0 c1 c2 c3 c4 h0 h1 h2 h3 h4 v aw w aU aT bj bh bU dY cp
end Go.Proofs.YtlaaemmmbodaaaaGreatDoor
