/- Parts. -/
import Derived.Test.YtlaaemmmbodaaaaGreatDoorRs8
import Derived.Laws.IdiomStrings
import Derived.Outline
import Derived.Laws.Bits64
import Derived.Laws.Bits64b
import Derived.Lib.IndexBytes
import Derived.Lib.Split
import Derived.Lib.Join
set_option maxHeartbeats 16000000
set_option maxRecDepth 100000
set_option linter.unnecessarySimpa false
set_option linter.unusedSimpArgs false
set_option linter.unusedVariables false
namespace Go.G9
open Go.RowKit
theorem aC.drew {w:World} {g:Nat} {t:TypeId} {cs:Array Value} (h:aC w g t cs):aC w.drew g t cs:=h
end Go.G9
namespace Go.Proofs.YtlaaemmmbodaaaaGreatDoor
open Go.RowKit Go.G9
theorem Pq (l:cw) (c:UInt8) (aT:l.length≤1048576) (w:World):Calls Tryz.prog 67 #[.string (bs l),.int .u8 (c.toNat:Int)] w fun e ah=>∃g m n,e= .returned (.slice (some ⟨g,0,none⟩) m n)∧1≤m∧m≤l.length + 1∧((2≤m)↔jd c l= true)∧ah.cell? ⟨g,0,none⟩ =some (.string (bs (cT c l)))∧w.heap.size≤g∧g < ah.heap.size∧Below w.heap.size w ah:=by
 refine (amg l c aT w).mono ?_
 rintro e ah ⟨A,n,ys,rfl,bR,bO,aE⟩
 have aR:0 < ys.length:=by have:=bO.ne;omega
 obtain⟨g,cap,cur,az,bp,dM,mG,jQ,hM⟩:=bR.block aR
 injection az with h1 h2 h3
 subst h1 h3
 obtain⟨b,off,aU,bn,aG⟩:=bR.fk (hf:=DB) aR
 injection aU with aU
 injection aU with hA1 hA2
 subst hA1 hA2
 refine⟨g,ys.length,n,rfl,by omega,bO.len,bO.two,?_,bp,bn,aE⟩
 exact aG 0 _ bO.first 0 _ rfl
theorem ZY {a b:ByteArray} (h:a≠b):(a.toList == b.toList)= false:=beq_eq_false_iff_ne.2 (by rw [ByteArray.toList_eq,ByteArray.toList_eq];exact fun e=>h (yG e))
theorem ZW {a b:ByteArray} (h:a= b):(a.toList == b.toList)= true:=beq_iff_eq.2 (by rw [h])
theorem amk (l t rest ask rep:cw) (k:Nat) (ax:k < 100) (UP:(eT (k:Int)).size≤10)
  (lX:Hid (∀W,Calls Tryz.prog 67 #[.string (bs l),.int .u8 35] W fun e ah=>∃g m n,e= .returned (.slice (some ⟨g,0,none⟩) m n)∧1≤m∧m≤l.length + 1∧((2≤m)↔jd 35 l= true)∧ah.cell? ⟨g,0,none⟩ =some (.string (bs t))∧W.heap.size≤g∧g < ah.heap.size∧Below W W ah)) (Sn:Hid (∀W,Calls Tryz.prog 67 #[.string (bs rest),.int .u8 64] W fun e ah=>∃g m n,e= .returned (.slice (some ⟨g,0,none⟩) m n)∧1≤m∧m≤rest.length + 1∧((2≤m)↔jd 64 rest= true)∧ah.cell? ⟨g,0,none⟩ =some (.string (bs ask))∧W.heap.size≤g∧g < ah.heap.size∧Below W W ah))
  (heq:((((bs t).extract 0 ((eT (k:Int)).size + 1))).toList == (eT (k:Int) ++ (⟨#[32]⟩ :ByteArray)).toList)= true) (wa:(eT (k:Int)).size + 1≤(bs t).size) (Wq:(bs t).size≤1048576)
  (iU:(bs t).extract ((eT (k:Int)).size + 1) (bs t).size= bs rest) (AB:(bs rest).extract ((bs ask).size + 1) (bs rest).size= bs rep)
  (aE:(((bs ask).size:Int) == ((bs rest).size:Int))= false) (wb:(bs ask).size + 1≤(bs rest).size) (Gs:(bs rest).size≤1048576) (Gt:(bs rep).size≤1048576) (Gu:(bs l).size≤1048576)
  (v:Bool) (az:(kD ask rep && decide (fq k ask rep= l))= v) (w:World):
  Calls Tryz.prog 153 #[.string (bs l),k] w fun e ah=>e= .returned (.tuple #[.agg #[.string (bs ask),.string (bs rep)],v])∧Below w w ah:=by
 have VI:∀W,Calls Tryz.prog 60 #[.agg #[.string (bs ask),.string (bs rep)]] W fun e ah=>e= .returned (.bool (kD ask rep))∧Below W W ah:=fun W=>AQ (bs ask) (bs rep) (by omega) (by omega) _ rfl W
 have hx:=J VI;clear VI
 cases gd:kD ask rep
 ·have pI:v= false:=by rw [← az,gd];rfl
  subst pI
  rw [gd] at hx
  clear gd az
  go_in
  go_wp2_with fail
  refine (qT k (by omega) (by omega) _).mono ?_
  rintro e bg ⟨rfl,bE⟩
  have av:=be w bE;have I:Below w w bg:=av;have ae:aC bg (w.heap.size) 56 #[.string ⟨#[]⟩,.string ⟨#[]⟩]:=aC.ey bE;have z0:=(ae.cell 0).trans (show _= some (.string ⟨#[]⟩) from rfl);have ch:=(ae.cell 1).trans (show _= some (.string ⟨#[]⟩) from rfl)
  go_wp2_with fail
  refine (lX.out _).mono ?_
  rintro e aQ ⟨g,m2,n,rfl,As,CI,tp,aG,ck,gY,aP⟩
  have ao:=be bg aP;replace I:=ai I ao;replace ae:=ae.to ao;replace z0:=(ae.cell 0).trans (show _= some (.string ⟨#[]⟩) from rfl);replace ch:=(ae.cell 1).trans (show _= some (.string ⟨#[]⟩) from rfl)
  go_wp2_with fail
  refine (Sn.out _).mono ?_
  rintro e bA ⟨br,m3,oh,rfl,VW,VX,VY,rC,uJ,VF,bC⟩
  have aL:=be aQ bC;replace I:=ai I aL;replace ae:=ae.to aL;replace z0:=(ae.cell 0).trans (show _= some (.string ⟨#[]⟩) from rfl);replace ch:=(ae.cell 1).trans (show _= some (.string ⟨#[]⟩) from rfl)
  go_wp2
  have eJ:aC (bA.alloc (.cells #[.string (bs ask),.string (bs rep)] 56)) bA.heap.size 56 #[.string (bs ask),.string (bs rep)]:=aC.new _ _ _;have FV:=ae.alloc (.cells #[.string (bs ask),.string (bs rep)] 56)
  haveI:Nonempty (cP fun V=>aC V bA.heap.size 56 #[.string (bs ask),.string (bs rep)]):=⟨⟨_,eJ⟩⟩
  have gy:=aC.IY (fun K:cP (fun V=>aC V bA.heap.size 56 #[.string (bs ask),.string (bs rep)])=>K.holds)
  refine oP (fun V=>aC V bA.heap.size 56 #[.string (bs ask),.string (bs rep)]) [([0,1],2),([3,4,5,7,8],6),([9,10],11)] [12] (by kernel_rfl) (by kernel_rfl) eJ.drew ?_
  refine gZ fun K gg=>?_
  change wpQuiet _ _ _ _ (_ ::_ ::[]) _
  repeat (go_big_quiet_step (fail))
  refine wpQuiet_nil ?_
  change wpList _ _ _ (_ ::[]) _ _
  go_wp2_with fail
  refine (hx.out _).mono ?_
  rintro e cf ⟨rfl,cZ⟩
  have xn:=eJ.drew.U cZ eJ.lt;have yS:=FV.drew.U cZ FV.lt
  go_wp2
  refine hh xn (gg _ _ ?_)
  refine gZ fun gr dX=>?_
  change wpQuiet _ _ _ _ (_ ::_ ::_ ::_ ::_ ::[]) _
  repeat (go_big_quiet_step (fail))
  refine wpQuiet_nil ?_
  change wpList _ _ _ (_ ::[]) _ _
  go_wp2
  refine hh xn (dX _ _ ?_)
  refine gZ fun Ex ux=>?_
  change wpQuiet _ _ _ _ (_ ::_ ::[]) _
  repeat (go_big_quiet_step (fail))
  refine wpQuiet_nil ?_
  change wpList _ _ _ (_ ::[]) _ _
  clear z0 ch
  obtain⟨z0,ch⟩:=yS.mv
  obtain⟨kK,yn⟩:=yS.xl
  go_wp2
  refine hh ((xn.vU (by have:=bC.size;have:=ae.lt;simp;omega) _).vU (by have:=bC.size;have:=ae.lt;simp;omega) _) (ux _ _ ?_)
  refine mg ?_
  change wpQuiet _ _ _ _ (_ ::[]) _
  repeat (go_big_quiet_step (fail))
  refine wpQuiet_nil ?_
  have aj:=((yS.gI 0 (.string (bs ask))).gI 1 (.string (bs rep)));have fS:=aj.mv
  go_wp2
  have gu:Below w w cf:=ai (ai I (ca _ _)).drew cZ
  refine bodyPost_ret (v:= .tuple #[.agg #[.string (bs ask),.string (bs rep)],false]) (by simp [results,Tryz.results153,go_sem,fS]) rfl ?_
  exact⟨rfl,(gu.setCell (Nat.le_refl _) _).setCell (Nat.le_refl _) _⟩
 ·have ib:∀W,Calls Tryz.prog 91 #[k,.agg #[.string (bs ask),.string (bs rep)]] W fun e ah=>e= .returned (.string (bs (fq k ask rep ++ [10])))∧Below W W ah:=fun W=>Xo k (by omega) (by omega) ask rep gd W
  have Cz:((bs (fq k ask rep ++ [10])).toList == (bs l ++ (⟨#[10]⟩ :ByteArray)).toList)= v:=by
   rw [← az,gd,Bool.true_and]
   by_cases he:fq k ask rep= l
   ·rw [decide_eq_true he,he];exact ZW (oX l [10]).symm
   ·rw [decide_eq_false he]
    refine ZY fun h=>he ?_
    rw [show (⟨#[10]⟩ :ByteArray)= bs [10] from rfl,oX] at h
    exact List.append_cancel_right (Tb h)
  rw [gd] at hx
  have cJ:=J ib;clear ib gd az
  go_in
  go_wp2_with fail
  refine (qT k (by omega) (by omega) _).mono ?_
  rintro e bg ⟨rfl,bE⟩
  have av:=be w bE;have I:Below w w bg:=av;have ae:aC bg (w.heap.size) 56 #[.string ⟨#[]⟩,.string ⟨#[]⟩]:=aC.ey bE;have z0:=(ae.cell 0).trans (show _= some (.string ⟨#[]⟩) from rfl);have ch:=(ae.cell 1).trans (show _= some (.string ⟨#[]⟩) from rfl)
  go_wp2_with fail
  refine (lX.out _).mono ?_
  rintro e aQ ⟨g,m2,n,rfl,As,CI,tp,aG,ck,gY,aP⟩
  have ao:=be bg aP;replace I:=ai I ao;replace ae:=ae.to ao;replace z0:=(ae.cell 0).trans (show _= some (.string ⟨#[]⟩) from rfl);replace ch:=(ae.cell 1).trans (show _= some (.string ⟨#[]⟩) from rfl)
  go_wp2_with fail
  refine (Sn.out _).mono ?_
  rintro e bA ⟨br,m3,oh,rfl,VW,VX,VY,rC,uJ,VF,bC⟩
  have aL:=be aQ bC;replace I:=ai I aL;replace ae:=ae.to aL;replace z0:=(ae.cell 0).trans (show _= some (.string ⟨#[]⟩) from rfl);replace ch:=(ae.cell 1).trans (show _= some (.string ⟨#[]⟩) from rfl)
  go_wp2
  have eJ:aC (bA.alloc (.cells #[.string (bs ask),.string (bs rep)] 56)) bA.heap.size 56 #[.string (bs ask),.string (bs rep)]:=aC.new _ _ _;have FV:=ae.alloc (.cells #[.string (bs ask),.string (bs rep)] 56)
  haveI:Nonempty (cP fun V=>aC V bA.heap.size 56 #[.string (bs ask),.string (bs rep)]):=⟨⟨_,eJ⟩⟩
  have gy:=aC.IY (fun K:cP (fun V=>aC V bA.heap.size 56 #[.string (bs ask),.string (bs rep)])=>K.holds)
  refine oP (fun V=>aC V bA.heap.size 56 #[.string (bs ask),.string (bs rep)]) [([0,1],2),([3,4,5,7,8],6),([9,10],11)] [12] (by kernel_rfl) (by kernel_rfl) eJ.drew ?_
  refine gZ fun K gg=>?_
  change wpQuiet _ _ _ _ (_ ::_ ::[]) _
  repeat (go_big_quiet_step (fail))
  refine wpQuiet_nil ?_
  change wpList _ _ _ (_ ::[]) _ _
  go_wp2_with fail
  refine (hx.out _).mono ?_
  rintro e cf ⟨rfl,cZ⟩
  have xn:=eJ.drew.U cZ eJ.lt;have yS:=FV.drew.U cZ FV.lt
  go_wp2
  refine hh xn (gg _ _ ?_)
  refine gZ fun gr dX=>?_
  change wpQuiet _ _ _ _ (_ ::_ ::_ ::_ ::_ ::[]) _
  repeat (go_big_quiet_step (fail))
  refine wpQuiet_nil ?_
  change wpList _ _ _ (_ ::[]) _ _
  go_wp2_with fail
  refine (cJ.out _).mono ?_
  rintro e dE ⟨rfl,ek⟩
  have UC:=xn.to ek;have cM:=yS.to ek
  go_wp2
  refine hh UC (dX _ _ ?_)
  refine gZ fun Ex ux=>?_
  change wpQuiet _ _ _ _ (_ ::_ ::[]) _
  repeat (go_big_quiet_step (fail))
  refine wpQuiet_nil ?_
  change wpList _ _ _ (_ ::[]) _ _
  clear z0 ch
  obtain⟨z0,ch⟩:=cM.mv
  obtain⟨kK,yn⟩:=cM.xl
  go_wp2
  refine hh ((UC.vU (by have:=bC.size;have:=ae.lt;simp;omega) _).vU (by have:=bC.size;have:=ae.lt;simp;omega) _) (ux _ _ ?_)
  refine mg ?_
  change wpQuiet _ _ _ _ (_ ::[]) _
  repeat (go_big_quiet_step (fail))
  refine wpQuiet_nil ?_
  have aj:=((cM.gI 0 (.string (bs ask))).gI 1 (.string (bs rep)));have fS:=aj.mv
  go_wp2
  have lO:Below w w dE:=ai (ai (ai I (ca _ _)).drew cZ) ek
  exact hc ⟨rfl,(lO.setCell (Nat.le_refl _) _).setCell (Nat.le_refl _) _⟩ (by simp [results,Tryz.results153,go_sem,fS])
open Go.RowKit Go.G9
def BR (l:cw) (k:Nat) (e:Ending):Prop:=∃(c r:ByteArray) (b:Bool),e= .returned (.tuple #[.agg #[.string c,.string r],.bool b])∧b= (sL l k).isSome∧∀x,sL l k= some x→c= bs x.1∧r= bs x.2
theorem BR.no {l:cw} {k:Nat} (c r:ByteArray) (h:vm l k= none):BR l k (.returned (.tuple #[.agg #[c,r],false])):=by
 rw [YP] at h
 exact⟨c,r,false,rfl,by rw [h];rfl,fun x ay=>by rw [h] at ay;cases ay⟩
theorem adR {p:Prop} (h:p:=by
 go_in
 go_wp2_with fail
 refine (qT k (by omega) (by omega) _).mono ?_
 rintro e bg ⟨rfl,bE⟩
 have av:=be w bE;have I:Below w w bg:=av;have ae:aC bg (w.heap.size) 56 #[.string ⟨#[]⟩,.string ⟨#[]⟩]:=aC.ey bE;have z0:=(ae.cell 0).trans (show _= some (.string ⟨#[]⟩) from rfl);have ch:=(ae.cell 1).trans (show _= some (.string ⟨#[]⟩) from rfl)
 go_wp2_with fail
 refine (lX.out _).mono ?_
 rintro e aQ ⟨g,m2,n,rfl,As,CI,tp,aG,ck,gY,aP⟩
 have ao:=be bg aP;replace I:=ai I ao;replace ae:=ae.to ao;replace z0:=(ae.cell 0).trans (show _= some (.string ⟨#[]⟩) from rfl);replace ch:=(ae.cell 1).trans (show _= some (.string ⟨#[]⟩) from rfl);have mQ:=ae.xl;have aj:=((ae.gI 0 (.string ⟨#[]⟩)).gI 1 (.string ⟨#[]⟩));have fS:=aj.mv
 go_wp2
 refine bodyPost_ret (v:= .tuple #[.agg #[.string ⟨#[]⟩,.string ⟨#[]⟩],false]) (by simp [results,Tryz.results153,go_sem,fS]) rfl ?_
 exact⟨BR.no _ _ wU.out,(by repeat (first | exact I | exact Below.refl _ _ | refine Below.alloc ?_ (by first | exact Nat.le_refl _ | (have eW:=I.size;simp;omega) | (simp <;> omega)) _ | refine Below.setCell ?_ (by first | exact Nat.le_refl _ | (simp <;> omega)) _))⟩):p:=h
theorem amj (l:cw) (aT:l.length≤1048576) (k:Nat) (ax:k < 100) (w:World):Calls Tryz.prog 153 #[.string (bs l),k] w fun e ah=>BR l k e∧Below w w ah:=by
 have g1:=BV 35 l;have eO:=xY (k:Int) (by omega);have UP:=eO;have oa:(eT (k:Int)).size= (rL (k:Int)).length:=fX _;have Vg:eT (k:Int) ++⟨#[32]⟩ =bs (rL (k:Int) ++ [32]):=oX _ [32]
 generalize cA:cT 35 l= t at g1
 have oc:∀W,Calls Tryz.prog 67 #[.string (bs l),.int .u8 35] W fun e ah=>∃g m n,e= .returned (.slice (some ⟨g,0,none⟩) m n)∧1≤m∧m≤l.length + 1∧((2≤m)↔jd 35 l= true)∧ah.cell? ⟨g,0,none⟩ =some (.string (bs t))∧W.heap.size≤g∧g < ah.heap.size∧Below W W ah:=fun W=>by
  have:=Pq l 35 aT W
  rwa [cA] at this
 have lX:=J oc;clear oc;have Pa:=fX t
 generalize hm:(eT (k:Int)).size= m at eO oa
 have ob:vm l k= if t.take (m + 1)= rL k ++ [32] then (if (cT 64 (t.drop (m + 1))).length= (t.drop (m + 1)).length then none
   else if kD (cT 64 (t.drop (m + 1))) ((t.drop (m + 1)).drop ((cT 64 (t.drop (m + 1))).length + 1)) && decide (fq k (cT 64 (t.drop (m + 1))) ((t.drop (m + 1)).drop ((cT 64 (t.drop (m + 1))).length + 1))= l) then some (cT 64 (t.drop (m + 1)),(t.drop (m + 1)).drop ((cT 64 (t.drop (m + 1))).length + 1)) else none) else none:=by
  unfold vm
  simp only [cA,List.length_append,List.length_cons,List.length_nil,← oa]
 have RQ:=J Vg;have sT:=J ob;clear Vg ob cA
 by_cases kU:t.length < m + 1
 ·have hn:vm l k= none:=by
   rw [sT.out,if_neg]
   intro h
   have:=congrArg List.length h
   simp at this;omega
  have wU:=J hn;clear hn
  exact adR
 by_cases qi:t.take (m + 1)= rL k ++ [32]
 case neg=>
  have hn:vm l k= none:=by rw [sT.out,if_neg qi]
  have wU:=J hn;clear hn
  have eg:((((bs t).extract 0 ((eT (k:Int)).size + 1))).toList == (eT (k:Int) ++ (⟨#[32]⟩ :ByteArray)).toList)= false:=ZY (by
   rw [RQ.out,vQ,hm]
   intro h
   exact qi (by simpa using Tb h))
  have wa:(eT (k:Int)).size + 1≤(bs t).size:=by omega
  clear qi oa hm Pa
  exact adR
 case pos=>
  have heq:((((bs t).extract 0 ((eT (k:Int)).size + 1))).toList == (eT (k:Int) ++ (⟨#[32]⟩ :ByteArray)).toList)= true:=ZW (by
   rw [RQ.out,vQ,hm]
   congr 1)
  have wa:(eT (k:Int)).size + 1≤(bs t).size:=by omega
  have iU:(bs t).extract ((eT (k:Int)).size + 1) (bs t).size= bs (t.drop (m + 1)):=by rw [vQ,hm,fX,List.take_of_length_le (by simp)]
  have ob:=sT.out
  rw [if_pos qi] at ob
  have oG:(t.drop (m + 1)).length≤t.length:=by simp
  generalize bz:t.drop (m + 1)= rest at iU ob oG
  have OU:∀W,Calls Tryz.prog 67 #[.string ((bs t).extract ((eT (k:Int)).size + 1) (bs t).size),.int .u8 64] W fun e ah=>∃g m n,e= .returned (.slice (some ⟨g,0,none⟩) m n)∧1≤m∧m≤rest.length + 1∧((2≤m)↔jd 64 rest= true)∧ah.cell? ⟨g,0,none⟩ =some (.string (bs (cT 64 rest)))∧W.heap.size≤g∧g < ah.heap.size∧Below W W ah:=fun W=>by
   rw [iU];exact Pq rest 64 (by omega) W
  have Nh:=BV 64 rest
  generalize aiB:cT 64 rest= ask at ob OU Nh
  have ze:((bs t).extract ((eT (k:Int)).size + 1) (bs t).size).size= rest.length:=by rw [iU];exact fX _
  have has:=fX ask;have Sm:=J OU;have afc:=J iU;have bL:=J bz;clear OU iU bz aiB qi
  have Wq:(bs t).size≤1048576:=by omega
  have JC:rest.length≤1048576:=by omega
  by_cases JE:ask.length= rest.length
  ·rw [if_pos JE] at ob
   have wU:=J ob;clear ob
   have eW:(bs t).size - ((eT (k:Int)).size + 1)= rest.length:=by
    have e:=congrArg List.length bL.out
    simp only [List.length_drop] at e
    omega
   have aE:(((bs ask).size:Int) == (((bs t).size - ((eT (k:Int)).size + 1):Nat):Int))= true:=by rw [eW,has,JE];exact beq_iff_eq.2 rfl
   clear eW JE;clear ze has oa hm Pa
   go_in
   go_wp2_with fail
   refine (qT k (by omega) (by omega) _).mono ?_
   rintro e bg ⟨rfl,bE⟩
   have av:=be w bE;have I:Below w w bg:=av;have ae:aC bg (w.heap.size) 56 #[.string ⟨#[]⟩,.string ⟨#[]⟩]:=aC.ey bE;have z0:=(ae.cell 0).trans (show _= some (.string ⟨#[]⟩) from rfl);have ch:=(ae.cell 1).trans (show _= some (.string ⟨#[]⟩) from rfl)
   go_wp2_with fail
   refine (lX.out _).mono ?_
   rintro e aQ ⟨g,m2,n,rfl,As,CI,tp,aG,ck,gY,aP⟩
   have ao:=be bg aP;replace I:=ai I ao;replace ae:=ae.to ao;replace z0:=(ae.cell 0).trans (show _= some (.string ⟨#[]⟩) from rfl);replace ch:=(ae.cell 1).trans (show _= some (.string ⟨#[]⟩) from rfl)
   go_wp2_with fail
   refine (Sm.out _).mono ?_
   rintro e bA ⟨br,m3,oh,rfl,VW,VX,VY,rC,uJ,VF,bC⟩
   have aL:=be aQ bC;replace I:=ai I aL;replace ae:=ae.to aL;replace z0:=(ae.cell 0).trans (show _= some (.string ⟨#[]⟩) from rfl);replace ch:=(ae.cell 1).trans (show _= some (.string ⟨#[]⟩) from rfl);have mQ:=ae.xl;have aj:=((ae.gI 0 (.string ⟨#[]⟩)).gI 1 (.string ⟨#[]⟩));have fS:=aj.mv
   go_wp2
   refine bodyPost_ret (v:= .tuple #[.agg #[.string ⟨#[]⟩,.string ⟨#[]⟩],false]) (by simp [results,Tryz.results153,go_sem,fS]) rfl ?_
   exact⟨BR.no _ _ wU.out,(by repeat (first | exact I | exact Below.refl _ _ | refine Below.alloc ?_ (by first | exact Nat.le_refl _ | (have eW:=I.size;simp;omega) | (simp <;> omega)) _ | refine Below.setCell ?_ (by first | exact Nat.le_refl _ | (simp <;> omega)) _))⟩
  ·rw [if_neg JE] at ob
   have bn:ask.length + 1≤rest.length:=by omega
   have ajJ:(rest.drop (ask.length + 1)).length≤rest.length:=by simp
   have iU:=afc.out
   have AB:(bs rest).extract ((bs ask).size + 1) (bs rest).size= bs (rest.drop (ask.length + 1)):=by rw [vQ,fX,fX,List.take_of_length_le (by simp)]
   have ajR:∀W,Calls Tryz.prog 67 #[.string (bs rest),.int .u8 64] W fun e ah=>∃g m n,e= .returned (.slice (some ⟨g,0,none⟩) m n)∧1≤m∧m≤rest.length + 1∧((2≤m)↔jd 64 rest= true)∧ah.cell? ⟨g,0,none⟩ =some (.string (bs ask))∧W.heap.size≤g∧g < ah.heap.size∧Below W W ah:=fun W=>by
    have:=Sm.out W
    rwa [iU] at this
   generalize aR:rest.drop (ask.length + 1)= rep at ob AB ajJ
   have aE:(((bs ask).size:Int) == ((bs rest).size:Int))= false:=by rw [fX,fX];exact beq_eq_false_iff_ne.2 (by omega)
   have wb:(bs ask).size + 1≤(bs rest).size:=by rw [fX,fX];omega
   have Gs:(bs rest).size≤1048576:=by rw [fX];omega
   have Gt:(bs rep).size≤1048576:=by rw [fX];omega
   have Gu:(bs l).size≤1048576:=by rw [fX];omega
   refine (amk l t rest ask rep k ax UP lX (J ajR) heq wa Wq iU AB aE wb Gs Gt Gu _ rfl w).mono ?_
   rintro e ah ⟨rfl,eZ⟩
   rw [YP] at ob
   refine⟨⟨_,_,_,rfl,?_,?_⟩,eZ⟩
   ·rw [ob];split <;> rename_i h <;> simp [h]
   ·intro x ay
    rw [ob] at ay
    split at ay
    ·injection ay with ay;subst ay;exact⟨rfl,rfl⟩
    ·cases ay
open Go.RowKit Go.G9
def yI (xs:List (cw×cw×Nat)):Nat:=(0 ::xs.map (·.2.2)).getLastD 0
def jz (l:cw):Nat:=yI (hW l)
theorem TZ (xs:List (cw×cw×Nat)) (x:cw×cw×Nat):yI (xs ++ [x])= x.2.2:=by
 have e:(0 ::(xs ++ [x]).map (·.2.2))= (0 ::xs.map (·.2.2)) ++ [x.2.2]:=by simp
 unfold yI
 rw [e,List.getLastD_eq_getLast?,List.getLast?_append]
 rfl
theorem PZ {f k:Nat} {l:cw} {a:Nat} (h:iW l k= none):iC f k l a= []:=by
 cases f with
 | zero=>rfl
 | succ f=>rw [iC,h]
theorem YD (k:Nat):iW [] k= none:=by unfold iW;simp [jd]
theorem aob (l:cw) {k:Nat} (h:60≤k):iW l k= none:=by unfold iW;rw [if_neg];simp;omega
theorem abF {p:Prop} (h:p:=by
 have fD:=J bS;clear bS lP
 go_wp2
 go_ret2
 obtain⟨A,c,h1,h2⟩:=Sa.out fD.out
 exact⟨A,c,congrArg Ending.returned h1,h2⟩):p:=h
theorem abf {p:Prop} (h:p:=by
 go_wp2
 go_ret2
 obtain⟨A,cO,h1,h2⟩:=Sa.out fD.out
 exact⟨A,cO,congrArg Ending.returned h1,((h2.1.bh bE).bh aP).alloc _,(ai (ai h2.2 bE) aP).alloc (by omega) _⟩):p:=h
theorem Xp (l:cw) (aT:l.length≤1048576) (w:World):Calls Tryz.prog 87 #[.string (bs l)] w fun e ah=>∃A c,e= .returned (.tuple #[.slice A (iD l).length c,.int .i64 (jz l:Nat)])∧
  aX w 56 2 fV.cells ah (.slice A (iD l).length c) (iD l)∧Below w w ah:=by
 obtain⟨i0,hi,dk,dx,dC⟩:=info_parts WU
 have eW:=fX l
 have xA:(bs l).size≤1048576:=by omega
 have dW:=J eW;clear eW;have oZ:=aX.built (B:=w.heap.size) (f:=fV.cells) w ([]:List fV) 56 (Nat.le_refl _) (by simp) fV.BY
 simp only [List.flatMap_nil] at oZ
 have eu:=J oZ;clear oZ
 go_in
 go_wp2
 go_loopw [4,5] (fun v4 v5 wr=>∃(xs:List (cw×cw×Nat)) (a:Nat),hW l= xs ++ iC (61 - xs.length) xs.length (l.drop a) a∧xs.length≤60∧a≤(bs l).size∧a= yI xs∧v5= .int .i64 a∧
   aX w 56 2 fV.cells wr v4 (xs.map qy)∧Below w w wr) (fun _ v5 _=>1048577 - (intOf v5).toNat)
 case atStart=>
  exact⟨[],0,rfl,by simp,Nat.zero_le _,rfl,rfl,by simpa using eu.out,ca _ _⟩
 case round=>
  obtain⟨xs,a,lP,GM,cX,Vf,rfl,bR,aE⟩:=hrel
  obtain⟨aA,c4,rfl,na,_,_⟩:=bR.form fV.BY
  simp only [List.length_map] at bR na ⊢
  have ajo:a≤l.length:=by rw [← dW.out];exact cX
  have z0:=aE.size;have wj:=J bR.lt;have dp:=J bR;have Ic:=J Vf;clear bR Vf
  have ji:iW (l.drop a) xs.length= none→hW l= xs:=fun h=>by rw [lP,PZ h,List.append_nil]
  have Ii:=J ji;clear ji
  have uG:hW l= xs→∃A c,Value.tuple #[.slice aA xs c4,a]= .tuple #[.slice A (iD l).length c,.int .i64 (jz l:Nat)]∧aX w 56 2 fV.cells wr (.slice A (iD l).length c) (iD l)∧Below w w wr:=fun h=>by
   have e1:iD l= xs.map qy:=by rw [iD,h]
   have e2:jz l= a:=by rw [jz,h,Ic.out]
   rw [e1,e2,List.length_map]
   exact⟨aA,c4,rfl,dp.out,aE⟩
  have Sa:=J uG;clear uG
  by_cases bn:a < (bs l).size
  case neg=>
   have bS:hW l= xs:=Ii.out (by
    have:l.drop a= []:=List.drop_eq_nil_of_le (by rw [← dW.out];omega)
    rw [this];exact YD _)
   exact abF
  by_cases ax:xs.length < 60
  case neg=>
   have bS:hW l= xs:=Ii.out (aob _ (by omega))
   exact abF
  have ay:(bs l).extract a (bs l).size= bs (l.drop a):=by rw [vQ,fX,List.take_of_length_le (by simp)]
  have oc:∀W,Calls Tryz.prog 67 #[.string ((bs l).extract a (bs l).size),.int .u8 10] W fun e ah=>∃g m n,e= .returned (.slice (some ⟨g,0,none⟩) m n)∧1≤m∧m≤(l.drop a).length + 1∧((2≤m)↔jd 10 (l.drop a)= true)∧ah.cell? ⟨g,0,none⟩ =some (.string (bs (cT 10 (l.drop a))))∧W.heap.size≤g∧g < ah.heap.size∧Below W W ah:=fun W=>by
   rw [ay];exact Pq (l.drop a) 10 (by simp;omega) W
  have atv:=BV 10 (l.drop a)
  have oG:(l.drop a).length≤l.length:=by simp
  have ob:∀W,Calls Tryz.prog 153 #[.string (bs (cT 10 (l.drop a))),xs.length] W fun e ah=>BR (cT 10 (l.drop a)) xs.length e∧Below W W ah:=fun W=>amj _ (by omega) xs.length (by omega) W
  have lX:=J oc;have sT:=J ob;have DT:=J lP;clear oc ob ay lP
  have wh:iW (l.drop a) xs.length= if jd 10 (l.drop a) then (sL (cT 10 (l.drop a)) xs.length).map fun x=>(x.1,x.2,(cT 10 (l.drop a)).length + 1) else none:=by
   unfold iW;simp [ax]
  have gh:=J wh;clear wh
  have Gi:(bs (cT 10 (l.drop a))).size≤1048576:=by rw [fX];omega
  cases dM:jd 10 (l.drop a)
  ·have bS:hW l= xs:=Ii.out (by rw [gh.out,dM];rfl)
   have fD:=J bS;have mo:=J dM;clear bS dM
   go_wp2_with fail
   refine (lX.out _).mono ?_
   rintro e bg ⟨g,m,n,rfl,As,CI,tp,aG,ck,gY,bE⟩
   have ch:=bE.size
   have VZ:m < 2:=by
    have:=mo.out
    rcases Nat.lt_or_ge m 2 with h | h
    ·exact h
    ·rw [tp.1 h] at this;cases this
   clear tp
   go_wp2_with fail
   refine (sT.out _).mono ?_
   rintro e aQ ⟨⟨c,r,b,rfl,iT,nv⟩,aP⟩
   have z2:=aP.size
   have jt:aQ.cell? ⟨g,0,none⟩ =some (.string (bs (cT 10 (l.drop a)))):=by rw [aP.cell gY];exact aG
   exact abf
  ·cases AA:sL (cT 10 (l.drop a)) xs.length with
   | none=>
    have bS:hW l= xs:=Ii.out (by rw [gh.out,dM,AA];rfl);have fD:=J bS;have mo:=J dM;have Is:=J AA;clear bS dM AA
    go_wp2_with fail
    refine (lX.out _).mono ?_
    rintro e bg ⟨g,m,n,rfl,As,CI,tp,aG,ck,gY,bE⟩
    have ch:=bE.size;have VZ:2≤m:=tp.2 mo.out;clear tp
    go_wp2_with fail
    refine (sT.out _).mono ?_
    rintro e aQ ⟨⟨c,r,b,rfl,iT,nv⟩,aP⟩
    have z2:=aP.size
    have jt:aQ.cell? ⟨g,0,none⟩ =some (.string (bs (cT 10 (l.drop a)))):=by rw [aP.cell gY];exact aG
    have NR:b= false:=by rw [iT,Is.out];rfl
    subst NR
    clear nv iT
    exact abf
   | some x=>
    obtain⟨oC,sM⟩:=x
    have Gw:hW l= (xs ++ [(oC,sM,a + ((cT 10 (l.drop a)).length + 1))]) ++ iC (61 - (xs.length + 1)) (xs.length + 1) (l.drop (a + ((cT 10 (l.drop a)).length + 1))) (a + ((cT 10 (l.drop a)).length + 1)):=by
     rw [DT.out,show 61 - xs.length= (61 - (xs.length + 1)) + 1 from by omega,iC,gh.out,dM,AA]
     simp [List.drop_drop]
    have hle:a + ((cT 10 (l.drop a)).length + 1)≤(bs l).size:=by
     have h1:iW (l.drop a) xs.length= some (oC,sM,(cT 10 (l.drop a)).length + 1):=by rw [gh.out,dM,AA];rfl
     have:=Dq h1
     rw [List.length_drop] at this
     rw [dW.out];omega
    have gp:=J Gw;have mo:=J dM;have Is:=J AA;clear Gw dM AA
    go_wp2_with fail
    refine (lX.out _).mono ?_
    rintro e bg ⟨g,m,n,rfl,As,CI,tp,aG,ck,gY,bE⟩
    have ch:=bE.size;have VZ:2≤m:=tp.2 mo.out;clear tp
    go_wp2_with fail
    refine (sT.out _).mono ?_
    rintro e aQ ⟨⟨c,r,b,rfl,iT,nv⟩,aP⟩
    have z2:=aP.size
    have jt:aQ.cell? ⟨g,0,none⟩ =some (.string (bs (cT 10 (l.drop a)))):=by rw [aP.cell gY];exact aG
    have NR:b= true:=by rw [iT,Is.out];rfl
    obtain⟨rfl,rfl⟩:=nv _ Is.out
    subst NR
    clear nv iT;have gW:=J ((((dp.out.bh bE).bh aP).alloc (.cells #[.string (bs oC),.string (bs sM)] 56)).alloc (.cells #[.string (bs oC),.string (bs sM)] 56))
    have kl:aJ 2 fV.cells ((aQ.alloc (.cells #[.string (bs oC),.string (bs sM)] 56)).alloc (.cells #[.string (bs oC),.string (bs sM)] 56)) (some ⟨aQ.heap.size + 1,0,none⟩) [qy (oC,sM,a + ((cT 10 (l.drop a)).length + 1))]:=by
     have h:=aJ.one (sz:=2) (f:=fV.cells) (w:=aQ.alloc (.cells #[.string (bs oC),.string (bs sM)] 56)) (qy (oC,sM,a + ((cT 10 (l.drop a)).length + 1))) 56
     rw [show (aQ.alloc (.cells #[.string (bs oC),.string (bs sM)] 56)).heap.size= aQ.heap.size + 1 from by simp] at h
     exact h
    have sd:=J kl;clear kl
    go_upto_region 8 with (at_builtin;refine kJ rfl _ _ 52 rfl w.heap.size 56 i0 _ 2 32 Tryz.underlying52 hi dk dx dC rfl (by decide) fV.cells fV.BY fV.cells_one (.slice aA xs c4) (xs.map qy) rfl gW.out ⟨aQ.heap.size + 1,0,none⟩ 1 (qy (oC,sM,a + ((cT 10 (l.drop a)).length + 1))) rfl sd.out (by unfold maxLen;simp;omega) (by simp;omega) (by simp;omega) ?_;intro lT cf eX fs kC)
    have z4:=fs.size
    simp only [VB] at z4
    have na:cf.cell? ⟨g,0,none⟩ =some (.string (bs (cT 10 (l.drop a)))):=(World.cell?_of_block (fs.block g (by simp;omega) (fun e=>by have:=(wj.out g e.symm).2;omega))).trans (((xb aQ _ _).cell (p:=⟨g,0,none⟩) (by show g < _;omega)).trans jt);have gu:Below w w cf:=(((ai (ai aE bE) aP).alloc (by omega) _).alloc (by simp;omega) _).grown fs (by simp;omega) (fun k ax=>(wj.out k ax).1)
    go_wp2
    go_roundw
    case rel=>
     refine⟨xs ++ [(oC,sM,a + ((cT 10 (l.drop a)).length + 1))],a + ((cT 10 (l.drop a)).length + 1),by rw [List.length_append];exact gp.out,by simp;omega,hle,(TZ xs (oC,sM,a + ((cT 10 (l.drop a)).length + 1))).symm,by rw [fX];congr 1,?_,gu⟩
     rw [List.map_append];exact eX
    case measure=>simp [intOf];omega
open Go.RowKit Go.G9
def nc (d p:cw) (n:Int):Bool:=decide (d.length + p.length≤30000) && (((jz (d ++ p):Nat):Int) == ((d.length:Int) + (p.length:Int)) && ((jz d:Nat):Int) == (d.length:Int) && ((iD (d ++ p)).length:Int) == n)
theorem Hb (d p:cw) (n:Int) (bS:d.length≤1048576) (aR:p.length≤1048576) (v:Bool) (az:nc d p n= v) (w:World):Calls Tryz.prog 44 #[.agg #[.string (bs d),.string (bs p),n]] w fun e ah=>e= .returned v∧Below w w ah:=by
 subst az
 have CO:=fX d;have oc:=fX p
 have s1:(bs d).size≤1048576:=by omega
 have s2:(bs p).size≤1048576:=by omega
 by_cases cA:d.length + p.length≤30000
 case neg=>
  have az:nc d p n= false:=by unfold nc;rw [decide_eq_false cA];rfl
  have pS:30000 < (bs d).size + (bs p).size:=by omega
  have bD:=J az;clear az CO oc cA;have eb:=boxed w #[.string (bs d),.string (bs p),n] 31 0 (.string (bs d)) rfl;have ds:=boxed w #[.string (bs d),.string (bs p),n] 31 1 (.string (bs p)) rfl;have du:=boxed w #[.string (bs d),.string (bs p),n] 31 2 (.int .i64 n) rfl
  go_in
  go_wp2
  go_ret
  exact⟨by rw [bD.out];rfl,ca _ _⟩
 have pS:(bs d).size + (bs p).size≤30000:=by omega
 have az:nc d p n= (((jz (d ++ p):Nat):Int) == (((bs d).size:Int) + ((bs p).size:Int)) && ((jz d:Nat):Int) == ((bs d).size:Int) && ((iD (d ++ p)).length:Int) == n):=by
  unfold nc;rw [decide_eq_true cA,CO,oc,Bool.true_and]
 have hop:∀W,Calls Tryz.prog 87 #[.string (bs d ++ bs p)] W fun e ah=>∃A c,e= .returned (.tuple #[.slice A (iD (d ++ p)).length c,.int .i64 (jz (d ++ p):Nat)])∧
  aX W 56 2 fV.cells ah (.slice A (iD (d ++ p)).length c) (iD (d ++ p))∧Below W W ah:=fun W=>by
  rw [oX];exact Xp (d ++ p) (by simp;omega) W
 have Wg:∀W,Calls Tryz.prog 87 #[.string (bs d)] W fun e ah=>∃A c,e= .returned (.tuple #[.slice A (iD d).length c,.int .i64 (jz d:Nat)])∧
  aX W 56 2 fV.cells ah (.slice A (iD d).length c) (iD d)∧Below W W ah:=fun W=>Xp d bS W
 have vM:=J hop;have aeU:=J Wg;have bD:=J az;clear hop Wg az CO oc cA
 cases h1:(((jz (d ++ p):Nat):Int) == (((bs d).size:Int) + ((bs p).size:Int)))
 all_goals cases h2:(((jz d:Nat):Int) == ((bs d).size:Int))
 all_goals cases h3:(((iD (d ++ p)).length:Int) == n)
 all_goals have nB:=bD.out
 all_goals rw [h1,h2,h3] at nB
 all_goals have cg:=J nB
 all_goals clear bD nB
 all_goals
  go_in
  go_wp2_with fail
  refine (vM.out _).mono ?_
  rintro e bg ⟨ar,au,rfl,gW,bE⟩
  have av:=be w bE;have I:Below w w bg:=av;have ib:aC bg (w.heap.size) 31 #[.string (bs d),.string (bs p),n]:=aC.ey bE
  obtain⟨eb,ds,du⟩:=ib.cK
  go_wp2_with fail
  refine (aeU.out _).mono ?_
  rintro e aQ ⟨ak,c2,rfl,oY,aP⟩
  have ao:=be bg aP;replace I:=ai I ao;replace ib:=ib.to ao;clear eb ds du
  obtain⟨eb,ds,du⟩:=ib.cK
  have aaG:=ib.lt
  go_wp2
  go_ret
  exact⟨by rw [cg.out];rfl,(ai I aw)⟩
open Go.RowKit Go.G9
theorem aiz (c:UInt8) (a b:cw):jd c (a ++ b)= (jd c a || jd c b):=by unfold jd;simp
theorem afX {c:UInt8} {a b:cw} (h:jd c a= true):cT c (a ++ b)= cT c a:=by
 have:=QA (Cw.1 h);have bd:=SX (c:=c) a
 conv=>lhs;rw [this,List.append_assoc,List.cons_append]
 exact Fc bd
theorem aoc (d p:cw) (k:Nat):(∀c r n,iW (d ++ p) k= some (c,r,n)→n≤d.length→iW d k= some (c,r,n))∧(∀c r n,iW (d ++ p) k= some (c,r,n)→d.length < n→iW d k= none)∧(iW (d ++ p) k= none→iW d k= none):=by
 cases bS:jd 10 d
 ·have h0:iW d k= none:=by unfold iW;rw [bS];rfl
  refine⟨fun c r n h bd=>?_,fun _ _ _ _ _=>h0,fun _=>h0⟩
  obtain⟨h1,h2,rfl,h4⟩:=Hv h
  exfalso
  have h5:d= (fq k c r ++ 10 ::gj 10 (d ++ p)).take d.length:=by rw [← h4];simp
  refine FZ.1 bS ?_
  rw [h5,List.take_append,List.mem_append]
  refine .inr ?_
  rw [show d.length - (fq k c r).length= (d.length - ((fq k c r).length + 1)) + 1 from by omega]
  simp
 ·have e:iW (d ++ p) k= iW d k:=by
   unfold iW
   rw [aiz,bS,afX bS];simp
  refine⟨fun c r n h _=>by rw [← e];exact h,fun c r n h bd=>?_,fun h=>by rw [← e];exact h⟩
  rw [e] at h
  have:=Dq h
  omega
theorem YK:∀(f k:Nat) (d p:cw) (a:Nat),iC f k d a= (iC f k (d ++ p) a).takeWhile (fun x=>decide (x.2.2≤a + d.length))
 | 0,_,_,_,_=>rfl
 | f + 1,k,d,p,a=>by
  obtain⟨h1,h2,h3⟩:=aoc d p k
  cases h:iW (d ++ p) k with
  | none=>rw [iC,iC,h3 h,h];rfl
  | some x=>
   obtain⟨c,r,n⟩:=x
   by_cases bd:n≤d.length
   ·rw [iC,iC,h1 c r n h bd,h]
    simp only [List.takeWhile_cons]
    rw [decide_eq_true (by omega:a + n≤a + d.length)]
    simp only [if_true]
    rw [YK f (k + 1) (d.drop n) p (a + n),List.drop_append_of_le_length bd]
    have:a + n + (d.drop n).length= a + d.length:=by simp;omega
    rw [this]
   ·rw [iC,iC,h2 c r n h (by omega),h]
    simp only [List.takeWhile_cons]
    rw [decide_eq_false (by omega)]
    simp
theorem YJ:∀(f k:Nat) (l:cw) (a:Nat),(a ::(iC f k l a).map (·.2.2)).Pairwise (· < ·)
 | 0,_,_,_=>by simp [iC]
 | f + 1,k,l,a=>by
  rw [iC]
  cases h:iW l k with
  | none=>simp
  | some x=>
   obtain⟨c,r,n⟩:=x
   have bd:=Dq h;have eP:=YJ f (k + 1) (l.drop n) (a + n)
   simp only [List.map_cons]
   rw [List.pairwise_cons]
   refine⟨fun y hy=>?_,eP⟩
   rw [List.mem_cons] at hy
   rcases hy with rfl | hy
   ·omega
   ·have:=(List.pairwise_cons.1 eP).1 y hy
    omega
theorem YH:∀(f k:Nat) (l:cw) (a:Nat),∀x ∈ iC f k l a,x.2.2≤a + 372 * f∧x.2.2≤a + l.length
 | 0,_,_,_=>by simp [iC]
 | f + 1,k,l,a=>by
  rw [iC]
  cases h:iW l k with
  | none=>simp
  | some x=>
   obtain⟨c,r,n⟩:=x
   have bd:=Dq h
   intro y hy
   rw [List.mem_cons] at hy
   rcases hy with rfl | hy
   ·simp only;omega
   ·have:=YH f (k + 1) (l.drop n) (a + n) y hy
    rw [List.length_drop] at this
    omega
theorem Xx:∀(eR:List Nat) (a m:Nat),(a ::eR).Pairwise (· < ·)→a≤m→((a ::eR.takeWhile (fun x=>decide (x≤m))).getLastD 0= m↔m ∈ a ::eR)
 | [],a,m,_,_=>by simp [eq_comm]
 | z ::eR,a,m,h,cX=>by
  have h1:=(List.pairwise_cons.1 h).1;have h2:=(List.pairwise_cons.1 h).2;have atE:=h1 z (by simp)
  by_cases cb:z≤m
  ·have eP:=Xx eR z m h2 cb
   rw [List.takeWhile_cons,decide_eq_true cb]
   simp only [if_true]
   have e:(a ::z ::eR.takeWhile (fun x=>decide (x≤m))).getLastD 0= (z ::eR.takeWhile (fun x=>decide (x≤m))).getLastD 0:=by
    simp [List.getLastD_eq_getLast?,List.getLast?_cons]
   rw [e,eP]
   constructor
   ·exact fun h=>List.mem_cons_of_mem _ h
   ·intro h
    rcases List.mem_cons.1 h with rfl | h
    ·omega
    ·exact h
  ·rw [List.takeWhile_cons,decide_eq_false cb]
   simp only [Bool.false_eq_true,if_false]
   have h3:=(List.pairwise_cons.1 h2).1
   constructor
   ·intro h;simp at h;simp [h]
   ·intro h
    rcases List.mem_cons.1 h with rfl | h
    ·simp
    ·rcases List.mem_cons.1 h with rfl | h
     ·omega
     ·have:=h3 _ h;omega
theorem aaf (m:Nat):∀xs:List (cw×cw×Nat),(xs.takeWhile (fun x=>decide (x.2.2≤m))).map (·.2.2)= (xs.map (·.2.2)).takeWhile (fun x=>decide (x≤m))
 | []=>rfl
 | x ::xs=>by
  rw [List.map_cons,List.takeWhile_cons,List.takeWhile_cons]
  split
  ·rw [List.map_cons,aaf m xs]
  ·rfl
theorem agI (d p:cw):jz d= d.length↔d.length ∈ 0 ::(hW (d ++ p)).map (·.2.2):=by
 have h:=YK 61 0 d p 0
 rw [Nat.zero_add] at h
 unfold jz yI hW
 rw [h,aaf]
 exact Xx _ 0 d.length (YJ 61 0 (d ++ p) 0) (Nat.zero_le _)
theorem TY (l:cw):jz l≤22692∧jz l≤l.length:=by
 have hm:jz l ∈ 0 ::(hW l).map (·.2.2):=by
  unfold jz yI
  rw [List.getLastD_eq_getLast?,List.getLast?_eq_some_getLast (by simp)]
  exact List.getLast_mem _
 rcases List.mem_cons.1 hm with h | h
 ·omega
 ·obtain⟨x,ay,e⟩:=List.mem_map.1 h
  have:=YH 61 0 l 0 x ay
  omega
open Go.RowKit Go.G9
theorem agJ (l:cw):(nS l)[(hW l).length]? =some ((jz l:Nat):Int):=by
 unfold jz yI nS
 rw [List.getLastD_eq_getLast?,List.getLast?_eq_getElem?]
 have e:(0:Int) ::(hW l).map wZ= (0 ::(hW l).map (·.2.2)).map (fun (x:Nat)=>(x:Int)):=by
  simp [wZ]
 rw [e,List.getElem?_map]
 have:(0 ::(hW l).map (·.2.2)).length - 1= (hW l).length:=by simp
 rw [this]
 have h:(0 ::(hW l).map (·.2.2))[(hW l).length]? =some ((0 ::(hW l).map (·.2.2))[(hW l).length]'(by simp)):=List.getElem?_eq_getElem _
 rw [h];rfl
theorem KA (l:cw):(iD l).length= (hW l).length:=by simp [iD]
theorem agK (l:cw):(nS l).length= (hW l).length + 1:=by simp [nS]
theorem agL (l:cw) (m:Nat):(m:Int) ∈ nS l↔m ∈ 0 ::(hW l).map (·.2.2):=by
 have e:nS l= (0 ::(hW l).map (·.2.2)).map (fun (x:Nat)=>(x:Int)):=by simp [nS,wZ]
 rw [e,List.mem_map]
 constructor
 ·rintro ⟨x,ay,h⟩
  have:x= m:=by omega
  subst this;exact ay
 ·exact fun h=>⟨m,h,rfl⟩
theorem amL (d p:cw) (n:Int):nc d p n= (((jz (d ++ p):Nat):Int) == ((d.length:Int) + (p.length:Int)) && ((iD (d ++ p)).length:Int) == n && decide ((d.length:Int) ∈ nS (d ++ p))):=by
 have h1:=agI d p;have h2:=TY (d ++ p)
 have h3:decide ((d.length:Int) ∈ nS (d ++ p))= (((jz d:Nat):Int) == (d.length:Int)):=by
  rw [Bool.eq_iff_iff,decide_eq_true_iff,beq_iff_eq,agL,← h1]
  omega
 unfold nc
 rw [h3]
 by_cases cA:d.length + p.length≤30000
 ·rw [decide_eq_true cA,Bool.true_and,Bool.and_assoc,Bool.and_assoc,Bool.and_comm (((jz d:Nat):Int) == (d.length:Int))]
 ·rw [decide_eq_false cA]
  have:(((jz (d ++ p):Nat):Int) == ((d.length:Int) + (p.length:Int)))= false:=by
   rw [beq_eq_false_iff_ne];omega
  rw [this];rfl
theorem GY (d p:cw) (n:Int) (cA:d.length + p.length≤1048576) (v:Bool) (az:nc d p n= v) (w:World) (dt:lf w):Calls Tryz.prog 64 #[.agg #[.string (bs d),.string (bs p),n]] w fun e ah=>e= .returned v∧Below w w ah:=by
 subst az
 have CO:=fX d;have oc:=fX p
 have pS:(bs d).size + (bs p).size≤1048576:=by omega
 have az:nc d p n= (((jz (d ++ p):Nat):Int) == (((bs d).size:Int) + ((bs p).size:Int)) && ((iD (d ++ p)).length:Int) == n && decide (((bs d).size:Int) ∈ nS (d ++ p))):=by
  rw [amL,CO,oc]
 have ob:∀W,lf W→Calls Tryz.prog 65 #[.string (bs d ++ bs p)] W fun e ah=>∃A c gK cO,e= .returned (.tuple #[.slice A (iD (d ++ p)).length c,.slice gK (nS (d ++ p)).length cO])∧
  aX W 56 2 fV.cells ah (.slice A (iD (d ++ p)).length c) (iD (d ++ p))∧aX W 3 1 bU ah (.slice gK (nS (d ++ p)).length cO) (nS (d ++ p))∧Below W W ah:=fun W bK=>by
  rw [oX];exact aoB (d ++ p) (by simp;omega) W bK
 have jR:=KA (d ++ p);have oK:=agK (d ++ p);have ts:=YF (d ++ p);have yX:=agJ (d ++ p)
 rw [← jR] at yX
 have xQ:(nS (d ++ p)).length= (iD (d ++ p)).length + 1:=by omega
 have Ps:(iD (d ++ p)).length≤60:=by omega
 generalize bN:iD (d ++ p)= R at *
 generalize eJ:nS (d ++ p)= E at *
 generalize eO:((jz (d ++ p):Nat):Int)= N at *
 have sT:=J ob;have bD:=J az;have cJ:=J yX;clear ob az yX CO oc jR oK ts bN eJ eO
 have auo:R.length < E.length:=by omega
 have aup:E.length≤61:=by omega
 have UX:=dt.U (ca w (.cells #[.string (bs d),.string (bs p),n] 31));have bP:=J UX;clear UX
 have aiJ:∀ds du,(N == (((bs d).size:Int) + ((bs p).size:Int)))= ds→((R.length:Int) == n)= du→Calls Tryz.prog 64 #[.agg #[.string (bs d),.string (bs p),n]] w fun e ah=>e= .returned (.bool (ds && du && decide (((bs d).size:Int) ∈ E)))∧Below w w ah:=by
  intro ds du h1 h2
  have Ut:(N != (((bs d).size:Int) + ((bs p).size:Int)))= !ds:=by rw [bne,h1]
  have Uu:((R.length:Int) != n)= !du:=by rw [bne,h2]
  rcases aE:ds && du with _ | _
  ·have aeo:=J aE;clear aE
   cases ds
   all_goals cases du
   case true.true=>cases aeo.out
   all_goals simp only [Bool.not_true,Bool.not_false] at Ut Uu
   all_goals
    go_in
    go_wp2_with fail
    refine (sT.out _ bP.out).mono ?_
    rintro e bg ⟨ar,au,ak,c2,rfl,bR,eJ,bE⟩
    have av:=be w bE;have I:Below w w bg:=av;have ib:aC bg (w.heap.size) 31 #[.string (bs d),.string (bs p),n]:=aC.ey bE
    obtain⟨eb,ds,du⟩:=ib.cK
    obtain⟨g2,PK,rfl,za,bq⟩:=eJ.fk (hf:=fZ) (by omega)
    have f0:=bq _ _ cJ.out 0 _ rfl
    simp only [Nat.mul_one,Nat.add_zero] at f0
    have aaG:=ib.lt
    go_wp2
    go_ret
    exact⟨rfl,(ai I aw)⟩
  ·obtain⟨rfl,rfl⟩ :ds= true∧du= true:=by simpa using aE
   clear aE
   simp only [Bool.not_true] at Ut Uu
   go_in
   go_wp2_with fail
   refine (sT.out _ bP.out).mono ?_
   rintro e bg ⟨ar,au,ak,c2,rfl,bR,eJ,bE⟩
   have av:=be w bE;have I:Below w w bg:=av;have ib:aC bg (w.heap.size) 31 #[.string (bs d),.string (bs p),n]:=aC.ey bE
   obtain⟨eb,ds,du⟩:=ib.cK
   obtain⟨g2,PK,rfl,za,bq⟩:=eJ.fk (hf:=fZ) (by omega)
   have f0:=bq _ _ cJ.out 0 _ rfl
   simp only [Nat.mul_one,Nat.add_zero] at f0
   have aaG:=ib.lt
   go_wp2
   go_loop [35] (fun i=>∃k:Nat,k≤E.length∧i= .int .i64 k∧∀j,j < k→E[j]?≠some ((bs d).size:Int)) (fun i=>E.length - (intOf i).toNat)
   case atStart=>exact⟨0,Nat.zero_le _,rfl,fun j bI=>absurd bI (Nat.not_lt_zero _)⟩
   case round=>
    obtain⟨k,ax,rfl,hn⟩:=hrel
    have wU:=J hn;clear hn
    by_cases bn:k < E.length
    ·have ay:E[k]? =some E[k]:=List.getElem?_eq_getElem bn
     generalize E[k]= x at ay
     have f1:=bq k x ay 0 _ rfl
     simp only [Nat.mul_one,Nat.add_zero] at f1
     have cg:=J ay;clear ay
     cases he:(x == ((bs d).size:Int))
     ·have da:=J he
      go_wp2
      go_round
      case rel=>
       refine⟨k + 1,by omega,by go_num,fun j bI=>?_⟩
       rcases Nat.lt_or_ge j k with h | h
       ·exact wU.out j h
       ·obtain rfl:j= k:=by omega
        rw [cg.out]
        intro h2;injection h2 with h2
        exact beq_eq_false_iff_ne.1 da.out h2
      case measure=>simp [intOf];omega
     ·have da:=J he
      go_wp2
      go_ret
      have hm:((bs d).size:Int) ∈ E:=List.mem_of_getElem? (by rw [cg.out,beq_iff_eq.1 da.out])
      exact⟨by rw [decide_eq_true hm];rfl,(ai I aw)⟩
    ·obtain rfl:k= E.length:=by omega
     go_wp2
     go_ret
     have hm:¬((bs d).size:Int) ∈ E:=fun h=>by
      obtain⟨j,bI⟩:=List.getElem?_of_mem h
      exact wU.out j (List.getElem?_eq_some_iff.1 bI).1 bI
     exact⟨by rw [decide_eq_false hm];rfl,(ai I aw)⟩
 have:=aiJ _ _ rfl rfl
 rw [bD.out];exact this
open Go.RowKit Go.G9
def Qg (l:cw):cw:=if l.length≤30000 then l.take (jz l) else []
def Qh (l:cw):Nat:=if l.length≤30000 then (iD l).length else 0
def YR (l:cw):Nat:=if l.length≤30000 then jz l else 0
def Pv (d p:cw) (n:Int):List fV:=if nc d p n then iD (d ++ p) else []
open Go.RowKit Go.G9
def qx (d p:cw) (n:Int) (c r:cw):Bool:=nc d p n && kD c r
def tc (d p:cw) (n:Int) (c r:cw):cw:=if qx d p n c r && !(n == 60) then p ++ (fq n c r ++ [10]) else p
def um (d p:cw) (n:Int) (c r:cw):Int:=if qx d p n c r && !(n == 60) then n + 1 else n
def tb (d p:cw) (n:Int) (c r:cw):Int:=if qx d p n c r then (if n == 60 then 2 else 0) else 1
def nQ (d p:cw) (n:Int) (c r:cw):Value:= .tuple #[.agg #[.string (bs d),.string (bs (tc d p n c r)),.int .i64 (um d p n c r)],.int .i64 (tb d p n c r)]
theorem JW {d p:cw} {n:Int} (h:nc d p n= true):0≤n∧n≤60∧d.length + p.length≤30000:=by
 unfold nc at h
 simp only [Bool.and_eq_true,decide_eq_true_eq,beq_iff_eq] at h
 have h1:=KA (d ++ p);have h2:=YF (d ++ p)
 omega
theorem agG {n:Int} {c r:cw} {w0:World} (h:∀W,lf W→Calls Tryz.prog 105 #[n,.agg #[.string (bs c),.string (bs r)]] W fun e ah=>e= .returned (.string (bs (fq n c r ++ [10])))∧Below W W ah) (dt:lf w0) (K:aB w0.heap.size w0):
 Calls Tryz.prog 105 #[n,.agg #[.string (bs c),.string (bs r)]] K.world fun e ah=>e= .returned (.string (bs (fq n c r ++ [10])))∧Below K.world.heap.size K.world ah:=h _ (dt.U K.U)
theorem acU {p:Prop} (h:p:=by
 have HW:=ae.nT;have aj:=(((ae.gI 0 (.string (bs d))).gI 1 (.string (bs p))).gI 2 (.int .i64 n));have fS:=aj.cK
 go_wp2
 refine bodyPost_ret (v:= .tuple #[.agg #[.string (bs d),.string (bs p),n],(1:Int)]) (by simp [results,Tryz.results57,go_sem,fS]) rfl ?_
 exact⟨by rw [bD.out],(by repeat (first | exact I | exact Below.refl _ _ | refine Below.alloc ?_ (by first | exact Nat.le_refl _ | (have eW:=I.size;simp;omega) | (simp <;> omega)) _ | refine Below.setCell ?_ (by first | exact Nat.le_refl _ | (simp <;> omega)) _))⟩):p:=h
theorem Lp {p:Prop} (h:p:=by
 exact⟨by rw [bD.out],(by repeat (first | exact I | exact Below.refl _ _ | refine Below.alloc ?_ (by first | exact Nat.le_refl _ | (have eW:=I.size;simp;omega) | (simp <;> omega)) _ | refine Below.setCell ?_ (by first | exact Nat.le_refl _ | (simp <;> omega)) _))⟩):p:=h
theorem akq (d p:cw) (n:Int) (cA:d.length + p.length≤1048576) (c r:cw) (aG:c.length≤1048576) (bz:r.length≤1048576) (w:World) (dt:lf w):Calls Tryz.prog 57 #[.agg #[.string (bs d),.string (bs p),n],.agg #[.string (bs c),.string (bs r)]] w fun e ah=>e= .returned (nQ d p n c r)∧Below w w ah:=by
 have s1:(bs c).size≤1048576:=by rw [fX];exact aG
 have s2:(bs r).size≤1048576:=by rw [fX];exact bz
 have bP:=J (dt.U (MA w (.cells #[.string (bs d),.string (bs p),n] 31) (.cells #[.string (bs c),.string (bs r)] 56) (.cells #[.string ⟨#[]⟩,.string ⟨#[]⟩,(0:Int)] 31)))
 cases aT:nc d p n
 ·have az:nQ d p n c r= .tuple #[.agg #[.string (bs d),.string (bs p),n],(1:Int)]:=by simp [nQ,tc,um,tb,qx,aT]
  have bD:=J az;have cJ:=J aT;clear az aT
  go_in
  go_wp2_with fail
  refine (GY d p n cA _ cJ.out _ bP.out).mono ?_
  rintro e bg ⟨rfl,bE⟩
  have av:=be w bE;have I:Below w w bg:=av;have bp:aC bg (w.heap.size) 31 #[.string (bs d),.string (bs p),n]:=aC.ey bE;have fA:=bp.cK;have ae:aC bg ((w.heap.size + 1 + 1)) 31 #[.string ⟨#[]⟩,.string ⟨#[]⟩,(0:Int)]:=aC.ey bE
  obtain⟨z0,ch,z2⟩:=ae.cK
  exact acU
 ·obtain⟨n0,n1,Dt⟩:=JW aT
  have apm:(bs d).size + (bs p).size≤30000:=by rw [fX,fX];exact Dt
  cases dd:kD c r
  ·have az:nQ d p n c r= .tuple #[.agg #[.string (bs d),.string (bs p),n],(1:Int)]:=by simp [nQ,tc,um,tb,qx,aT,dd]
   have bD:=J az;have cJ:=J aT;have dp:=J dd;clear az aT dd
   go_in
   go_wp2_with fail
   refine (GY d p n cA _ cJ.out _ bP.out).mono ?_
   rintro e bg ⟨rfl,bE⟩
   have av:=be w bE;have I:Below w w bg:=av;have bp:aC bg (w.heap.size) 31 #[.string (bs d),.string (bs p),n]:=aC.ey bE;have fA:=bp.cK;have bN:aC bg ((w.heap.size + 1)) 56 #[.string (bs c),.string (bs r)]:=aC.ey bE
   have mO:=bN.mv;have ae:aC bg ((w.heap.size + 1 + 1)) 31 #[.string ⟨#[]⟩,.string ⟨#[]⟩,(0:Int)]:=aC.ey bE;obtain⟨z0,ch,z2⟩:=ae.cK
   go_wp2_with fail
   refine (xO (bs c) (bs r) s1 s2 _ dp.out _).mono ?_
   rintro e aQ ⟨rfl,aP⟩
   have ao:=be bg aP;replace I:=ai I ao;replace bp:=bp.to ao;clear fA;have fA:=bp.cK;clear mO;replace ae:=ae.to ao;clear z0 ch z2;obtain⟨z0,ch,z2⟩:=ae.cK
   exact acU
  ·cases h6:n == 60
   ·have az:nQ d p n c r= .tuple #[.agg #[.string (bs d),.string (bs p ++ bs (fq n c r ++ [10])),.int .i64 (n + 1)],(0:Int)]:=by simp [nQ,tc,um,tb,qx,aT,dd,h6,oX]
    have yU:∀W,lf W→Calls Tryz.prog 105 #[n,.agg #[.string (bs c),.string (bs r)]] W fun e ah=>e= .returned (.string (bs (fq n c r ++ [10])))∧Below W W ah:=fun W bK=>TX n (by omega) (by omega) c r dd W bK
    have apn:(bs (fq n c r ++ [10])).size≤372:=by rw [fX];have:=Da n0 (by omega) dd;simp;omega
    have bD:=J az;have cJ:=J aT;have dp:=J dd;have da:=J yU;clear az aT dd yU
    go_in
    go_wp2_with fail
    refine (GY d p n cA _ cJ.out _ bP.out).mono ?_
    rintro e bg ⟨rfl,bE⟩
    have av:=be w bE;have I:Below w w bg:=av;have bp:aC bg (w.heap.size) 31 #[.string (bs d),.string (bs p),n]:=aC.ey bE;have fA:=bp.cK;have bN:aC bg ((w.heap.size + 1)) 56 #[.string (bs c),.string (bs r)]:=aC.ey bE
    have mO:=bN.mv;have ae:aC bg ((w.heap.size + 1 + 1)) 31 #[.string ⟨#[]⟩,.string ⟨#[]⟩,(0:Int)]:=aC.ey bE;obtain⟨z0,ch,z2⟩:=ae.cK
    go_wp2_with fail
    refine (xO (bs c) (bs r) s1 s2 _ dp.out _).mono ?_
    rintro e aQ ⟨rfl,aP⟩
    have ao:=be bg aP;replace I:=ai I ao;replace bp:=bp.to ao;clear fA;have fA:=bp.cK;replace bN:=bN.to ao;clear mO;have mO:=bN.mv;replace ae:=ae.to ao;clear z0 ch z2;obtain⟨z0,ch,z2⟩:=ae.cK
    go_wp2
    have afg:=J (dt.U I);clear fA;have fA:=aC.jN (fun K:aB aQ.heap.size aQ=>(bp.U K.U bp.lt));clear mO;have mO:=aC.IY (fun K:aB aQ.heap.size aQ=>(bN.U K.U bN.lt));clear z0 ch z2
    have z0:=fun K:aB aQ.heap.size aQ=>((ae.U K.U ae.lt).cell 0).trans (show _= some (.string ⟨#[]⟩) from rfl)
    have ch:=fun K:aB aQ.heap.size aQ=>((ae.U K.U ae.lt).cell 1).trans (show _= some (.string ⟨#[]⟩) from rfl)
    have z2:=fun K:aB aQ.heap.size aQ=>((ae.U K.U ae.lt).cell 2).trans (show _= some (.int .i64 0) from rfl)
    refine HP 13 (by kernel_rfl) (by kernel_rfl) ?_
    change wpQuiet _ _ _ _ (_ ::_ ::_ ::_ ::_ ::_ ::_ ::_ ::_ ::_ ::_ ::_ ::_ ::[]) _
    repeat (go_big_quiet_step ((first | (go_at_call 105;exact aB.call _ (by first | exact Nat.le_refl _ | omega) (agG da.out afg.out _)))))
    refine wpQuiet_nil ?_
    intro K
    change wpList _ _ _ (_ ::_ ::[]) _ _
    clear fA;clear mO;clear z0 ch z2;have aL:Below aQ aQ K.world:=ai aw K.U;replace I:=ai I aL;replace ae:=ae.to aL;obtain⟨z0,ch,z2⟩:=ae.cK;have HW:=ae.nT;have aj:=(((ae.gI 0 (.string (bs d))).gI 1 (.string (bs p ++ bs (fq n c r ++ [10])))).gI 2 (.int .i64 (n + 1)))
    have fS:=aj.cK
    go_wp2
    refine bodyPost_ret (v:= .tuple #[.agg #[.string (bs d),.string (bs p ++ bs (fq n c r ++ [10])),.int .i64 (n + 1)],(0:Int)]) (by simp [results,Tryz.results57,go_sem,fS]) rfl ?_
    exact Lp
   ·have az:nQ d p n c r= .tuple #[.agg #[.string (bs d),.string (bs p),n],(2:Int)]:=by simp [nQ,tc,um,tb,qx,aT,dd,h6]
    have bD:=J az;have cJ:=J aT;have dp:=J dd;clear az aT dd
    go_in
    go_wp2_with fail
    refine (GY d p n cA _ cJ.out _ bP.out).mono ?_
    rintro e bg ⟨rfl,bE⟩
    have av:=be w bE;have I:Below w w bg:=av;have bp:aC bg (w.heap.size) 31 #[.string (bs d),.string (bs p),n]:=aC.ey bE;have fA:=bp.cK;have bN:aC bg ((w.heap.size + 1)) 56 #[.string (bs c),.string (bs r)]:=aC.ey bE
    have mO:=bN.mv;have ae:aC bg ((w.heap.size + 1 + 1)) 31 #[.string ⟨#[]⟩,.string ⟨#[]⟩,(0:Int)]:=aC.ey bE;obtain⟨z0,ch,z2⟩:=ae.cK
    go_wp2_with fail
    refine (xO (bs c) (bs r) s1 s2 _ dp.out _).mono ?_
    rintro e aQ ⟨rfl,aP⟩
    have ao:=be bg aP;replace I:=ai I ao;replace bp:=bp.to ao;clear fA;have fA:=bp.cK;clear mO;replace ae:=ae.to ao;clear z0 ch z2;obtain⟨z0,ch,z2⟩:=ae.cK;have HW:=ae.nT;have aj:=(((ae.gI 0 (.string (bs d))).gI 1 (.string (bs p))).gI 2 (.int .i64 n))
    have fS:=aj.cK
    go_wp2
    refine bodyPost_ret (v:= .tuple #[.agg #[.string (bs d),.string (bs p),n],(2:Int)]) (by simp [results,Tryz.results57,go_sem,fS]) rfl ?_
    exact Lp
theorem amI {n:Int} {c r:cw} {tt:ByteArray} {w0:World} (h:∀W,Calls Tryz.prog 91 #[n,.agg #[.string (bs c),.string (bs r)]] W fun e ah=>e= .returned tt∧Below W W ah) (K:aB w0.heap.size w0):
 Calls Tryz.prog 91 #[n,.agg #[.string (bs c),.string (bs r)]] K.world fun e ah=>e= .returned tt∧Below K.world.heap.size K.world ah:=h _
theorem acV {p:Prop} (h:p:=by
 have HW:=ae.nT;have aj:=(((ae.gI 0 (.string (bs d))).gI 1 (.string (bs p))).gI 2 (.int .i64 n));have fS:=aj.cK
 go_wp2
 refine bodyPost_ret (v:= .tuple #[.agg #[.string (bs d),.string (bs p),n],(1:Int)]) (by simp [results,Tryz.results51,go_sem,fS]) rfl ?_
 exact⟨by rw [bD.out],(by repeat (first | exact I | exact Below.refl _ _ | refine Below.alloc ?_ (by first | exact Nat.le_refl _ | (have eW:=I.size;simp;omega) | (simp <;> omega)) _ | refine Below.setCell ?_ (by first | exact Nat.le_refl _ | (simp <;> omega)) _))⟩):p:=h
theorem apv (d p:cw) (n:Int) (cA:d.length + p.length≤1048576) (c r:cw) (aG:c.length≤1048576) (bz:r.length≤1048576) (w:World):Calls Tryz.prog 51 #[.agg #[.string (bs d),.string (bs p),n],.agg #[.string (bs c),.string (bs r)]] w fun e ah=>e= .returned (nQ d p n c r)∧Below w w ah:=by
 have s1:(bs c).size≤1048576:=by rw [fX];exact aG
 have s2:(bs r).size≤1048576:=by rw [fX];exact bz
 have bS:d.length≤1048576:=by omega
 have aR:p.length≤1048576:=by omega
 cases aT:nc d p n
 ·have az:nQ d p n c r= .tuple #[.agg #[.string (bs d),.string (bs p),n],(1:Int)]:=by simp [nQ,tc,um,tb,qx,aT]
  have bD:=J az;have cJ:=J aT;clear az aT
  go_in
  go_wp2_with fail
  refine (Hb d p n bS aR _ cJ.out _).mono ?_
  rintro e bg ⟨rfl,bE⟩
  have av:=be w bE;have I:Below w w bg:=av;have bp:aC bg (w.heap.size) 31 #[.string (bs d),.string (bs p),n]:=aC.ey bE;have fA:=bp.cK;have ae:aC bg ((w.heap.size + 1 + 1)) 31 #[.string ⟨#[]⟩,.string ⟨#[]⟩,(0:Int)]:=aC.ey bE
  obtain⟨z0,ch,z2⟩:=ae.cK
  exact acV
 ·obtain⟨n0,n1,Dt⟩:=JW aT
  have apm:(bs d).size + (bs p).size≤30000:=by rw [fX,fX];exact Dt
  cases dd:kD c r
  ·have az:nQ d p n c r= .tuple #[.agg #[.string (bs d),.string (bs p),n],(1:Int)]:=by simp [nQ,tc,um,tb,qx,aT,dd]
   have bD:=J az;have cJ:=J aT;have dp:=J dd;clear az aT dd
   go_in
   go_wp2_with fail
   refine (Hb d p n bS aR _ cJ.out _).mono ?_
   rintro e bg ⟨rfl,bE⟩
   have av:=be w bE;have I:Below w w bg:=av;have bp:aC bg (w.heap.size) 31 #[.string (bs d),.string (bs p),n]:=aC.ey bE;have fA:=bp.cK;have bN:aC bg ((w.heap.size + 1)) 56 #[.string (bs c),.string (bs r)]:=aC.ey bE
   have mO:=bN.mv;have ae:aC bg ((w.heap.size + 1 + 1)) 31 #[.string ⟨#[]⟩,.string ⟨#[]⟩,(0:Int)]:=aC.ey bE;obtain⟨z0,ch,z2⟩:=ae.cK
   go_wp2_with fail
   refine (AQ (bs c) (bs r) s1 s2 _ dp.out _).mono ?_
   rintro e aQ ⟨rfl,aP⟩
   have ao:=be bg aP;replace I:=ai I ao;replace bp:=bp.to ao;clear fA;have fA:=bp.cK;clear mO;replace ae:=ae.to ao;clear z0 ch z2;obtain⟨z0,ch,z2⟩:=ae.cK
   exact acV
  ·cases h6:n == 60
   ·have az:nQ d p n c r= .tuple #[.agg #[.string (bs d),.string (bs p ++ bs (fq n c r ++ [10])),.int .i64 (n + 1)],(0:Int)]:=by simp [nQ,tc,um,tb,qx,aT,dd,h6,oX]
    have yU:∀W,Calls Tryz.prog 91 #[n,.agg #[.string (bs c),.string (bs r)]] W fun e ah=>e= .returned (.string (bs (fq n c r ++ [10])))∧Below W W ah:=fun W=>Xo n (by omega) (by omega) c r dd W
    have apn:(bs (fq n c r ++ [10])).size≤372:=by rw [fX];have:=Da n0 (by omega) dd;simp;omega
    have bD:=J az;have cJ:=J aT;have dp:=J dd;have da:=J yU;clear az aT dd yU
    generalize bs (fq n c r ++ [10])= tt at *
    go_in
    go_wp2_with fail
    refine (Hb d p n bS aR _ cJ.out _).mono ?_
    rintro e bg ⟨rfl,bE⟩
    have av:=be w bE;have I:Below w w bg:=av;have bp:aC bg (w.heap.size) 31 #[.string (bs d),.string (bs p),n]:=aC.ey bE;have fA:=bp.cK;have bN:aC bg ((w.heap.size + 1)) 56 #[.string (bs c),.string (bs r)]:=aC.ey bE
    have mO:=bN.mv;have ae:aC bg ((w.heap.size + 1 + 1)) 31 #[.string ⟨#[]⟩,.string ⟨#[]⟩,(0:Int)]:=aC.ey bE;obtain⟨z0,ch,z2⟩:=ae.cK
    go_wp2_with fail
    refine (AQ (bs c) (bs r) s1 s2 _ dp.out _).mono ?_
    rintro e aQ ⟨rfl,aP⟩
    have ao:=be bg aP;replace I:=ai I ao;replace bp:=bp.to ao;clear fA;have fA:=bp.cK;replace bN:=bN.to ao;clear mO;have mO:=bN.mv;replace ae:=ae.to ao;clear z0 ch z2;obtain⟨z0,ch,z2⟩:=ae.cK
    go_wp2
    clear fA;have fA:=aC.jN (fun K:aB aQ.heap.size aQ=>(bp.U K.U bp.lt));clear mO;have mO:=aC.IY (fun K:aB aQ.heap.size aQ=>(bN.U K.U bN.lt));clear z0 ch z2
    have z0:=fun K:aB aQ.heap.size aQ=>((ae.U K.U ae.lt).cell 0).trans (show _= some (.string ⟨#[]⟩) from rfl)
    have ch:=fun K:aB aQ.heap.size aQ=>((ae.U K.U ae.lt).cell 1).trans (show _= some (.string ⟨#[]⟩) from rfl)
    have z2:=fun K:aB aQ.heap.size aQ=>((ae.U K.U ae.lt).cell 2).trans (show _= some (.int .i64 0) from rfl)
    refine HP 8 (by kernel_rfl) (by kernel_rfl) ?_
    change wpQuiet _ _ _ _ (_ ::_ ::_ ::_ ::_ ::_ ::_ ::_ ::[]) _
    repeat (go_big_quiet_step ((first | (go_at_call 91;exact aB.call _ (by first | exact Nat.le_refl _ | omega) (amI da.out _)))))
    refine wpQuiet_nil ?_
    intro K
    change wpList _ _ _ (_ ::[]) _ _
    clear fA;clear mO;clear z0 ch z2;have aL:Below aQ aQ K.world:=ai aw K.U;replace I:=ai I aL;replace bp:=bp.to aL;have fA:=bp.cK;replace ae:=ae.to aL;obtain⟨z0,ch,z2⟩:=ae.cK
    have ahs:=bp.frozen 1
    go_upto_region 6 with fail
    clear ahs;clear fA z0 ch z2;replace I:Below w w (World.setCell K.world ⟨w.heap.size,1,none⟩ (.string (bs p ++ tt))):=I.setCell (by show w.heap.size≤w.heap.size;omega) _;replace bp:aC (World.setCell K.world ⟨w.heap.size,1,none⟩ (.string (bs p ++ tt))) (w.heap.size) 31 #[.string (bs d),.string (bs p ++ tt),n]:=bp.gI 1 (.string (bs p ++ tt));replace ae:=ae.vU (p:=⟨w.heap.size,1,none⟩) (by show _≠w.heap.size;omega) (.string (bs p ++ tt))
    generalize World.setCell K.world ⟨w.heap.size,1,none⟩ (.string (bs p ++ tt))= lM at *
    have fA:=bp.cK;obtain⟨z0,ch,z2⟩:=ae.cK;have aht:=bp.frozen 2
    go_upto_region 7 with fail
    clear aht;clear fA z0 ch z2;replace I:Below w w (World.setCell lM ⟨w.heap.size,2,none⟩ (.int .i64 (n + 1))):=I.setCell (by show w.heap.size≤w.heap.size;omega) _;replace bp:aC (World.setCell lM ⟨w.heap.size,2,none⟩ (.int .i64 (n + 1))) (w.heap.size) 31 #[.string (bs d),.string (bs p ++ tt),.int .i64 (n + 1)]:=bp.gI 2 (.int .i64 (n + 1));replace ae:=ae.vU (p:=⟨w.heap.size,2,none⟩) (by show _≠w.heap.size;omega) (.int .i64 (n + 1))
    generalize World.setCell lM ⟨w.heap.size,2,none⟩ (.int .i64 (n + 1))= jW at *
    have fA:=bp.cK;obtain⟨z0,ch,z2⟩:=ae.cK;have HW:=ae.nT;have aj:=(((ae.gI 0 (.string (bs d))).gI 1 (.string (bs p ++ tt))).gI 2 (.int .i64 (n + 1)));have fS:=aj.cK
    go_wp2
    refine bodyPost_ret (v:= .tuple #[.agg #[.string (bs d),.string (bs p ++ tt),.int .i64 (n + 1)],(0:Int)]) (by simp [results,Tryz.results51,go_sem,fS]) rfl ?_
    exact Lp
   ·have az:nQ d p n c r= .tuple #[.agg #[.string (bs d),.string (bs p),n],(2:Int)]:=by simp [nQ,tc,um,tb,qx,aT,dd,h6]
    have bD:=J az;have cJ:=J aT;have dp:=J dd;clear az aT dd
    go_in
    go_wp2_with fail
    refine (Hb d p n bS aR _ cJ.out _).mono ?_
    rintro e bg ⟨rfl,bE⟩
    have av:=be w bE;have I:Below w w bg:=av;have bp:aC bg (w.heap.size) 31 #[.string (bs d),.string (bs p),n]:=aC.ey bE;have fA:=bp.cK;have bN:aC bg ((w.heap.size + 1)) 56 #[.string (bs c),.string (bs r)]:=aC.ey bE
    have mO:=bN.mv;have ae:aC bg ((w.heap.size + 1 + 1)) 31 #[.string ⟨#[]⟩,.string ⟨#[]⟩,(0:Int)]:=aC.ey bE;obtain⟨z0,ch,z2⟩:=ae.cK
    go_wp2_with fail
    refine (AQ (bs c) (bs r) s1 s2 _ dp.out _).mono ?_
    rintro e aQ ⟨rfl,aP⟩
    have ao:=be bg aP;replace I:=ai I ao;replace bp:=bp.to ao;clear fA;have fA:=bp.cK;clear mO;replace ae:=ae.to ao;clear z0 ch z2;obtain⟨z0,ch,z2⟩:=ae.cK;have HW:=ae.nT;have aj:=(((ae.gI 0 (.string (bs d))).gI 1 (.string (bs p))).gI 2 (.int .i64 n))
    have fS:=aj.cK
    go_wp2
    refine bodyPost_ret (v:= .tuple #[.agg #[.string (bs d),.string (bs p),n],(2:Int)]) (by simp [results,Tryz.results51,go_sem,fS]) rfl ?_
    exact Lp
end Go.Proofs.YtlaaemmmbodaaaaGreatDoor
namespace Go.G9
open Go.RowKit
end Go.G9
namespace Go.Proofs.YtlaaemmmbodaaaaGreatDoor
open Go.RowKit Go.G9
structure vF (w:World) (g:Nat) (l:cw):Prop where
 lt:g < w.heap.size
 cell:∀i (h:i < l.length),w.cell? ⟨g,i,none⟩ =some (.int .u8 (l[i].toNat:Int))
 free:∀i,i < l.length→w.frozen? ⟨g,i,none⟩ =false
theorem vF.new (w:World) (l:cw) (C:Array Value) (t:TypeId) (aZ:(bs l).size≤C.size) (eS:∀i (h:i < (bs l).size),C[i]? =some (.int .u8 ((bs l)[i].toNat:Int))):vF (w.alloc (.cells C t (C.size,C.size + 1))) w.heap.size l:=by
 have cb:=fX l;have aE:(w.alloc (.cells C t (C.size,C.size + 1))).heap[w.heap.size]? =some (.cells C t (C.size,C.size + 1)):=heap_alloc_new w _
 refine⟨by simp,fun i h=>?_,fun i h=>?_⟩
 ·rw [cell_of_row _ _ i C t _ aE,eS i (by omega),Ff]
 ·unfold World.frozen?
  simp only [aE]
  simp
  omega
theorem vF.drew {w:World} {g:Nat} {l:cw} (h:vF w g l):vF w.drew g l:=⟨h.lt,h.cell,h.free⟩
theorem vF.bytes {w:World} {g:Nat} {l:cw} (h:vF w g l):Lib.Bytes w g 0 (bs l):=fun i hi=>by
 have cb:=fX l
 rw [Nat.zero_add,h.cell i (by omega),Ff]
theorem vF.gI {w:World} {g:Nat} {l:cw} (h:vF w g l) (j:Nat) (bI:j < l.length) (x:UInt8):vF (w.setCell ⟨g,j,none⟩ (.int .u8 (x.toNat:Int))) g (l.set j x):=by
 refine⟨by have:=h.lt;simpa [World.setCell] using this,fun i hi=>?_,fun i hi=>?_⟩
 ·rw [List.length_set] at hi
  by_cases e:j= i
  ·subst e
   rw [World.cell?_setCell_same (v:= .int .u8 (x.toNat:Int)) (h:=h.cell j bI)]
   simp
  ·rw [World.cell?_setCell_other (h:=by simp [e]),h.cell i hi,List.getElem_set_ne e]
 ·rw [List.length_set] at hi
  rw [World.frozen?_setCell]
  exact h.free i hi
open Go.RowKit Go.G9
structure hY where
 ef:ByteArray
 eo:ByteArray
 dR:Int
def hY.cells (x:hY):List Value:=[.string x.ef,.string x.eo,.int .i64 x.dR]
def hY.d (x:hY):cw:=x.ef.data.toList
def hY.p (x:hY):cw:=x.eo.data.toList
theorem hY.len (x:hY) (h:x.ef.size + x.eo.size≤1048576):x.d.length + x.p.length≤1048576:=by
 unfold hY.d hY.p;rw [Array.length_toList,Array.length_toList];exact h
theorem Fe (x:hY):bs x.d= x.ef:=Fg _
theorem Fh (x:hY):bs x.p= x.eo:=Fg _
def fV.c (x:fV):cw:=x.cmd.data.toList
def fV.r (x:fV):cw:=x.rep.data.toList
theorem IT (x:fV):bs x.c= x.cmd:=Fg _
theorem IU (x:fV):bs x.r= x.rep:=Fg _
theorem fV.Tl (x:fV) (h:x.cmd.size≤1048576):x.c.length≤1048576:=by unfold fV.c;rw [Array.length_toList];exact h
theorem fV.YW (x:fV) (h:x.rep.size≤1048576):x.r.length≤1048576:=by unfold fV.r;rw [Array.length_toList];exact h
theorem akT (x:hY) (h:x.ef.size + x.eo.size≤1048576) (v:Bool) (az:nc x.d x.p x.dR= v) (w:World) (dt:lf w):Calls Tryz.prog 64 #[.agg #[x.ef,x.eo,x.dR]] w fun e ah=>e= .returned v∧Below w w ah:=by
 have:=GY x.d x.p x.dR (x.len h) v az w dt
 rwa [Fe,Fh] at this
open Go.RowKit Go.G9
def ans:hY:=⟨⟨#[]⟩,⟨#[]⟩,0⟩
def hY.ok (x:hY):Bool:=nc x.d x.p x.dR
def aab (x:hY):hY:=if x.ok then ⟨x.ef ++ x.eo,⟨#[]⟩,x.dR⟩ else ans
def iL (x:hY) (y:fV):hY:=⟨x.ef,bs (tc x.d x.p x.dR y.c y.r),um x.d x.p x.dR y.c y.r⟩
def BT (x:hY) (y:fV):Int:=tb x.d x.p x.dR y.c y.r
def aoD (s:ByteArray):hY:=⟨bs (Qg s.data.toList),⟨#[]⟩,(Qh s.data.toList:Nat)⟩
def YT (s:ByteArray):Int:=(YR s.data.toList:Nat)
def YS (s:ByteArray):Bool:=decide (s.data.toList.length≤30000)
def zm (x:hY):List fV:=Pv x.d x.p x.dR
theorem akU (x:hY) (h:x.ef.size + x.eo.size≤1048576) (w:World) (dt:lf w):Calls Tryz.prog 64 #[.agg #[x.ef,x.eo,x.dR]] w fun e ah=>e= .returned x.ok∧Below w w ah:=akT x h _ rfl w dt
theorem ami (x:hY) (h:x.ef.size + x.eo.size≤1048576) (w:World):Calls Tryz.prog 44 #[.agg #[x.ef,x.eo,x.dR]] w fun e ah=>e= .returned x.ok∧Below w w ah:=by
 have aT:=x.len h;have:=Hb x.d x.p x.dR (by omega) (by omega) _ rfl w
 rwa [Fe,Fh] at this
theorem akp (x:hY) (h:x.ef.size + x.eo.size≤1048576) (y:fV) (aG:y.cmd.size≤1048576) (bz:y.rep.size≤1048576) (w:World) (dt:lf w):Calls Tryz.prog 57 #[.agg #[x.ef,x.eo,x.dR],.agg #[y.cmd,y.rep]] w fun e ah=>e= .returned (.tuple #[.agg #[.string (iL x y).ef,.string (iL x y).eo,.int .i64 (iL x y).dR],.int .i64 (BT x y)])∧Below w w ah:=by
 have:=akq x.d x.p x.dR (x.len h) y.c y.r (y.Tl aG) (y.YW bz) w dt
 unfold nQ at this
 rwa [Fe,Fh,IT,IU] at this
theorem apu (x:hY) (h:x.ef.size + x.eo.size≤1048576) (y:fV) (aG:y.cmd.size≤1048576) (bz:y.rep.size≤1048576) (w:World):Calls Tryz.prog 51 #[.agg #[x.ef,x.eo,x.dR],.agg #[y.cmd,y.rep]] w fun e ah=>e= .returned (.tuple #[.agg #[.string (iL x y).ef,.string (iL x y).eo,.int .i64 (iL x y).dR],.int .i64 (BT x y)])∧Below w w ah:=by
 have:=apv x.d x.p x.dR (x.len h) y.c y.r (y.Tl aG) (y.YW bz) w
 unfold nQ at this
 rwa [Fe,Fh,IT,IU] at this
open Go.RowKit Go.G9
def et.log (x:et):hY:=⟨x.ef,x.eo,x.dR⟩
def hR (x:et):Bool:=pL x.kX && x.log.ok
theorem Tp {x:et} (h:pL x.kX= false):hR x= false:=by rw [hR,h];rfl
theorem Tq {x:et} (h:pL x.kX= true):hR x= x.log.ok:=by rw [hR,h];rfl
theorem acp {p:Prop} (h:p:=by
 replace aO:=aO.to ao;clear aq;have aq:=aO.bQ
 go_wp2
 go_ret
 exact⟨rfl,(ai I aw)⟩):p:=h
theorem acq {p:Prop} (h:p:=by
 replace aO:=aO.to aL;clear aq;have aq:=aO.bQ
 go_wp2
 go_ret
 exact⟨rfl,(ai I aw)⟩):p:=h
theorem AJ (x:et) (an ar ak al aA:Option Addr) (c0 au c2 c3 c4:Nat) (h0:x.bx.length≤1048576) (h1:x.bH.length≤1048576) (h2:x.bJ.length≤1048576) (h3:x.bM.length≤1048576) (h4:x.bt.length≤1048576) (cb:x.ef.size + x.eo.size≤1048576) (v:Bool) (az:hR x= v) (w:World) (aW:aJ 7 aM.cells w an x.bx) (aV:aJ 3 aN.cells w ar x.bH) (bm:aJ 1 bU w ak x.bJ) (bl:aJ 3 aK.cells w al x.bM) (bZ:aJ 3 Out.cells w aA x.bt) (dP:x.bx.length≤c0) (eh:x.bH.length≤au) (cm:x.bJ.length≤c2) (dS:x.bM.length≤c3) (gD:x.bt.length≤c4) (bP:lf w):
 Calls Tryz.prog 21 #[.agg #[.slice an x.bx c0,.slice ar x.bH au,x.de,x.cU,x.dH,.slice ak x.bJ c2,.slice al x.bM c3,.slice aA x.bt c4,x.ef,x.eo,x.dR]] w fun e ah=>e= .returned v∧Below w w ah:=by
 cases hm:pL x.kX
 ·have bD:=J hm
  rw [Tp hm] at az
  subst az
  clear hm
  go_in
  go_upto_region 1 with fail
  refine cR fun aH av aO=>?_
  replace aW:=aW.U av;replace aV:=aV.U av;replace bm:=bm.U av;replace bl:=bl.U av;replace bZ:=bZ.U av;replace bP:=bP.U av;have I:=av;have aq:=aO.bQ;have HV:=aO.lt
  go_wp2_with fail
  refine (AK x.kX an ar ak al aA c0 au c2 c3 c4 h0 h1 h2 h3 h4 _ bD.out _ (aW.U aw) (aV.U aw) (bm.U aw) (bl.U aw) (bZ.U aw) dP eh cm dS gD).mono ?_
  rintro e aQ ⟨rfl,aP⟩
  have ao:=be aH aP;replace I:=ai I ao;replace aW:=aW.U ao;replace aV:=aV.U ao;replace bm:=bm.U ao;replace bl:=bl.U ao;replace bZ:=bZ.U ao;replace bP:=bP.U ao
  exact acp
 ·have bD:=J hm
  rw [Tq hm] at az
  subst az
  clear hm
  go_in
  go_upto_region 1 with fail
  refine cR fun aH av aO=>?_
  replace aW:=aW.U av;replace aV:=aV.U av;replace bm:=bm.U av;replace bl:=bl.U av;replace bZ:=bZ.U av;replace bP:=bP.U av;have I:=av;have aq:=aO.bQ;have HV:=aO.lt
  go_wp2_with fail
  refine (AK x.kX an ar ak al aA c0 au c2 c3 c4 h0 h1 h2 h3 h4 _ bD.out _ (aW.U aw) (aV.U aw) (bm.U aw) (bl.U aw) (bZ.U aw) dP eh cm dS gD).mono ?_
  rintro e aQ ⟨rfl,aP⟩
  have ao:=be aH aP;replace I:=ai I ao;replace aW:=aW.U ao;replace aV:=aV.U ao;replace bm:=bm.U ao;replace bl:=bl.U ao;replace bZ:=bZ.U ao;replace bP:=bP.U ao;replace aO:=aO.to ao;clear aq;have aq:=aO.bQ;have HV:=aO.lt
  go_wp2_with fail
  refine (akU x.log cb _ (bP.U aw)).mono ?_
  rintro e bA ⟨rfl,bC⟩
  have aL:=be aQ bC;replace I:=ai I aL;replace aW:=aW.U aL;replace aV:=aV.U aL;replace bm:=bm.U aL;replace bl:=bl.U aL;replace bZ:=bZ.U aL;replace bP:=bP.U aL
  exact acq
theorem CY (x:et) (an ar ak al aA:Option Addr) (c0 au c2 c3 c4:Nat) (h0:x.bx.length≤1048576) (h1:x.bH.length≤1048576) (h2:x.bJ.length≤1048576) (h3:x.bM.length≤1048576) (h4:x.bt.length≤1048576) (cb:x.ef.size + x.eo.size≤1048576) (v:Bool) (az:hR x= v) (w:World) (aW:aJ 7 aM.cells w an x.bx) (aV:aJ 3 aN.cells w ar x.bH) (bm:aJ 1 bU w ak x.bJ) (bl:aJ 3 aK.cells w al x.bM) (bZ:aJ 3 Out.cells w aA x.bt) (dP:x.bx.length≤c0) (eh:x.bH.length≤au) (cm:x.bJ.length≤c2) (dS:x.bM.length≤c3) (gD:x.bt.length≤c4):
 Calls Tryz.prog 59 #[.agg #[.slice an x.bx c0,.slice ar x.bH au,x.de,x.cU,x.dH,.slice ak x.bJ c2,.slice al x.bM c3,.slice aA x.bt c4,x.ef,x.eo,x.dR]] w fun e ah=>e= .returned v∧Below w w ah:=by
 cases hm:pL x.kX
 ·have bD:=J hm
  rw [Tp hm] at az
  subst az
  clear hm
  go_in
  go_upto_region 1 with fail
  refine cR fun aH av aO=>?_
  replace aW:=aW.U av;replace aV:=aV.U av;replace bm:=bm.U av;replace bl:=bl.U av;replace bZ:=bZ.U av;have I:=av;have aq:=aO.bQ;have HV:=aO.lt
  go_wp2_with fail
  refine (AP x.kX an ar ak al aA c0 au c2 c3 c4 h0 h1 h2 h3 h4 _ bD.out _ (aW.U aw) (aV.U aw) (bm.U aw) (bl.U aw) (bZ.U aw) dP eh cm dS gD).mono ?_
  rintro e aQ ⟨rfl,aP⟩
  have ao:=be aH aP;replace I:=ai I ao;replace aW:=aW.U ao;replace aV:=aV.U ao;replace bm:=bm.U ao;replace bl:=bl.U ao;replace bZ:=bZ.U ao
  exact acp
 ·have bD:=J hm
  rw [Tq hm] at az
  subst az
  clear hm
  go_in
  go_upto_region 1 with fail
  refine cR fun aH av aO=>?_
  replace aW:=aW.U av;replace aV:=aV.U av;replace bm:=bm.U av;replace bl:=bl.U av;replace bZ:=bZ.U av;have I:=av;have aq:=aO.bQ;have HV:=aO.lt
  go_wp2_with fail
  refine (AP x.kX an ar ak al aA c0 au c2 c3 c4 h0 h1 h2 h3 h4 _ bD.out _ (aW.U aw) (aV.U aw) (bm.U aw) (bl.U aw) (bZ.U aw) dP eh cm dS gD).mono ?_
  rintro e aQ ⟨rfl,aP⟩
  have ao:=be aH aP;replace I:=ai I ao;replace aW:=aW.U ao;replace aV:=aV.U ao;replace bm:=bm.U ao;replace bl:=bl.U ao;replace bZ:=bZ.U ao;replace aO:=aO.to ao;clear aq;have aq:=aO.bQ;have HV:=aO.lt
  go_wp2_with fail
  refine (ami x.log cb _).mono ?_
  rintro e bA ⟨rfl,bC⟩
  have aL:=be aQ bC;replace I:=ai I aL;replace aW:=aW.U aL;replace aV:=aV.U aL;replace bm:=bm.U aL;replace bl:=bl.U aL;replace bZ:=bZ.U aL
  exact acq
open Go.RowKit Go.G9
theorem anj {rs:List aM} (h:kq rs= true) {id:Int} {r:aM} (bz:hA rs id= some r):r.name.size≤10:=by
 obtain⟨k,ax⟩:=List.mem_iff_getElem?.1 (List.mem_of_find?_eq_some bz)
 have:=(zu (zv h ax)).2.2.2.2.2.2
 simp [wJ,fc] at this;omega
open Go.RowKit Go.G9
theorem take_set {α:Type} (p:List α) (j:Nat) (y:α) (h:j < p.length):(p.take (j + 1)).set j y= p.take j ++ [y]:=by
 rw [List.take_succ_eq_append_getElem h,List.set_append_right _ _ (by rw [List.length_take];omega)]
 rw [List.length_take,show j - min j p.length= 0 from by omega]
 rfl
theorem amM {d p:cw} {n:Int} (h:nc d p n= true):d.length + p.length≤30000∧jz (d ++ p)= d.length + p.length∧jz d= d.length∧((iD (d ++ p)).length:Int)= n:=by
 unfold nc at h
 simp only [Bool.and_eq_true,decide_eq_true_eq,beq_iff_eq] at h
 omega
open Go.RowKit Go.G9
theorem aoe (f k a:Nat):iC f k [] a= []:=PZ (YD k)
theorem YG (n:Nat) (bd:n < 60) {c r:cw} (gd:kD c r= true):∀(f k:Nat) (l:cw) (a:Nat),(a ::(iC f k l a).map (·.2.2)).getLastD 0= a + l.length→(iC f k l a).length < f→k + (iC f k l a).length= n→
  iC f k (l ++ (fq n c r ++ [10])) a= iC f k l a ++ [(c,r,a + l.length + ((fq n c r).length + 1))]
 | 0,_,_,_,_,h,_=>by omega
 | f + 1,k,l,a,aT,hf,ax=>by
  cases ay:iW l k with
  | none=>
   rw [PZ ay] at aT ax ⊢
   simp only [List.map_nil,List.length_nil,Nat.add_zero] at aT ax
   have h0:l= []:=by
    simp at aT
    exact aT
   subst h0;subst ax
   rw [List.nil_append,iC,YE bd gd]
   simp only
   have e:(fq k c r ++ [10]).drop ((fq k c r).length + 1)= []:=by simp
   rw [e,aoe]
   simp
  | some x=>
   obtain⟨cO,fS,m⟩:=x
   obtain⟨h0,h1,e,h2⟩:=Hv ay
   have hm:=Dq ay
   have agB:iC (f + 1) k l a= (cO,fS,a + m) ::iC f (k + 1) (l.drop m) (a + m):=by rw [iC,ay]
   rw [agB] at aT hf ax ⊢
   simp only [List.map_cons,List.length_cons] at aT hf ax
   have gy:∀L:List Nat,(a ::(a + m) ::L).getLastD 0= ((a + m) ::L).getLastD 0:=fun L=>by simp [List.getLastD_eq_getLast?,List.getLast?_cons]
   rw [gy] at aT
   have eP:=YG n bd gd f (k + 1) (l.drop m) (a + m) (by rw [aT,List.length_drop];omega) (by omega) (by omega)
   have bz:iW (l ++ (fq n c r ++ [10])) k= some (cO,fS,m):=by
    rw [h2,List.append_assoc,List.cons_append,YE h0 h1,e]
   rw [iC,bz]
   simp only
   rw [List.drop_append_of_le_length hm.1,eP,List.length_drop]
   simp
   omega
theorem aod {l:cw} {c r:cw} (aT:jz l= l.length) (bd:(hW l).length < 60) (gd:kD c r= true):
  hW (l ++ (fq ((hW l).length:Nat) c r ++ [10]))= hW l ++ [(c,r,l.length + ((fq ((hW l).length:Nat) c r).length + 1))]:=by
 have h:=YG (hW l).length bd gd 61 0 l 0 (by rw [Nat.zero_add];exact aT) (by show (hW l).length < 61;omega) (by rw [Nat.zero_add];rfl)
 rw [Nat.zero_add] at h
 exact h
theorem hY.ext {x y:hY} (h1:x.ef= y.ef) (h2:x.eo= y.eo) (h3:x.dR= y.dR):x= y:=by
 cases x;cases y;simp at h1 h2 h3;subst h1;subst h2;subst h3;rfl
theorem afJ {x:hY} {y:fV} (h:BT x y= 0):
  x.ok= true∧(iL x y).ok= true∧zm (iL x y)= zm x ++ [y]∧(iL x y).dR= ((zm (iL x y)).length:Int)∧YS ((iL x y).ef ++ (iL x y).eo)= true∧YT ((iL x y).ef ++ (iL x y).eo)= (((iL x y).ef ++ (iL x y).eo).size:Int)∧aab (iL x y)= aoD ((iL x y).ef ++ (iL x y).eo):=by
 have h0:qx x.d x.p x.dR y.c y.r= true∧(x.dR == 60)= false:=by
  unfold BT tb at h
  cases cX:qx x.d x.p x.dR y.c y.r
  ·rw [cX] at h;simp at h
  ·rw [cX,if_pos rfl] at h
   cases aE:x.dR == 60
   ·exact⟨rfl,rfl⟩
   ·rw [aE] at h;simp at h
 obtain⟨cX,aE⟩:=h0
 have Aj:=cX
 unfold qx at Aj
 rw [Bool.and_eq_true] at Aj
 obtain⟨aT,gd⟩:=Aj
 obtain⟨dD,di,ya,pN⟩:=amM aT
 obtain⟨n0,n1,_⟩:=JW aT
 have eg:x.dR≠60:=fun e=>by rw [e] at aE;simp at aE
 have hlen:(hW (x.d ++ x.p)).length < 60:=by rw [KA] at pN;omega
 have aiM:x.dR= ((hW (x.d ++ x.p)).length:Nat):=by rw [KA] at pN;omega
 have aU:=aod (c:=y.c) (r:=y.r) (by rw [di,List.length_append]) hlen gd
 rw [← aiM] at aU
 have Nx:(iL x y).p= x.p ++ (fq x.dR y.c y.r ++ [10]):=by
  show (bs (tc x.d x.p x.dR y.c y.r)).data.toList= _
  rw [vR]
  unfold tc
  rw [cX,aE]
  rfl
 have yO:(iL x y).d= x.d:=rfl
 have eO:(iL x y).dR= x.dR + 1:=by
  unfold iL um
  simp only
  rw [cX,aE]
  rfl
 have eJ:jz (x.d ++ (x.p ++ (fq x.dR y.c y.r ++ [10])))= (x.d ++ (x.p ++ (fq x.dR y.c y.r ++ [10]))).length:=by
  show yI (hW _)= _
  rw [← List.append_assoc,aU,TZ]
  simp
  omega
 have hle:=(TY (x.d ++ (x.p ++ (fq x.dR y.c y.r ++ [10])))).1
 have bN:iD (x.d ++ (x.p ++ (fq x.dR y.c y.r ++ [10])))= iD (x.d ++ x.p) ++ [y]:=by
  unfold iD
  have e:∀m,qy (y.c,y.r,m)= y:=fun m=>by
   unfold qy
   simp only
   rw [IT,IU]
  rw [← List.append_assoc,aU,List.map_append]
  simp only [List.map_cons,List.map_nil,e]
 have bO:nc x.d (x.p ++ (fq x.dR y.c y.r ++ [10])) (x.dR + 1)= true:=by
  unfold nc
  rw [eJ,bN,ya]
  rw [eJ] at hle
  simp only [List.length_append] at hle pN ⊢
  simp
  omega
 have CJ:(iL x y).ok= true:=by unfold hY.ok;rw [yO,Nx,eO];exact bO
 have ib:zm (iL x y)= zm x ++ [y]:=by
  unfold zm Pv
  rw [yO,Nx,eO,if_pos bO,if_pos aT,bN]
 have aid:zm x= iD (x.d ++ x.p):=by unfold zm Pv;rw [if_pos aT]
 have q1:((iL x y).ef ++ (iL x y).eo).data.toList= x.d ++ (x.p ++ (fq x.dR y.c y.r ++ [10])):=by
  rw [← Fe,← Fh,yO,Nx,oX,vR]
 have gn:(((iL x y).ef ++ (iL x y).eo).size:Nat)= (x.d ++ (x.p ++ (fq x.dR y.c y.r ++ [10]))).length:=by
  rw [← q1,Array.length_toList];rfl
 rw [eJ] at hle
 refine⟨aT,CJ,ib,?_,?_,?_,?_⟩
 ·rw [eO,ib,aid,List.length_append,List.length_singleton];omega
 ·unfold YS;rw [q1,decide_eq_true_eq];omega
 ·unfold YT YR;rw [q1,gn,if_pos (by omega),eJ]
 ·unfold aab
  rw [CJ,if_pos rfl]
  refine hY.ext ?_ rfl ?_
  ·show _= bs (Qg _)
   rw [q1]
   unfold Qg
   rw [if_pos (by omega),eJ,List.take_length]
   rw [← q1,Fg]
  ·show (iL x y).dR= ((Qh _:Nat):Int)
   rw [q1]
   unfold Qh
   rw [if_pos (by omega),eO,bN,List.length_append,List.length_singleton]
   omega
end Go.Proofs.YtlaaemmmbodaaaaGreatDoor
namespace Go.G9
open Go.RowKit
def arG (x:UInt8):List Value:=[.int .u8 (x.toNat:Int)]
end Go.G9
namespace Go.Proofs.YtlaaemmmbodaaaaGreatDoor
open Go.RowKit Go.G9
structure wP (w:World) (p:Nat) (A:Option Addr) (c:Nat) (cs:List UInt8) (N:Nat):Prop where
  box:∃(i s:Int),aC w p 95 #[.slice A cs.length c,.int .i64 i,.int .u64 s]∧0≤i∧i≤N
  fk:aJ 1 arG w A cs
  lo:∀iZ,A= some iZ→0 < cs.length→iZ.block < p
theorem wP.mono {w:World} {p:Nat} {A:Option Addr} {c:Nat} {cs:List UInt8} {N M:Nat} (h:wP w p A c cs N) (aY:N≤M):wP w p A c cs M:=by
  obtain⟨⟨i,s,bp,h0,h1⟩,bN,eg⟩:=h
  exact⟨⟨i,s,bp,h0,by omega⟩,bN,eg⟩
theorem wP.lt {w:World} {p:Nat} {A:Option Addr} {c:Nat} {cs:List UInt8} {N:Nat} (h:wP w p A c cs N):p < w.heap.size:=by
  obtain⟨⟨i,s,bp,h0,h1⟩,bN,eg⟩:=h
  exact bp.lt
theorem wP.bh {w ah:World} {p:Nat} {A:Option Addr} {c:Nat} {cs:List UInt8} {N:Nat} (h:wP w p A c cs N) (aE:Below w w ah):wP ah p A c cs N:=by
  obtain⟨⟨i,s,bp,h0,h1⟩,bN,eg⟩:=h
  exact⟨⟨i,s,bp.U aE bp.lt,h0,h1⟩,bN.U aE,eg⟩
def Stepped (w ah:World) (p:Nat) (A:Option Addr) (c:Nat) (cs:List UInt8) (N:Nat):Prop:=wP ah p A c cs N∧w.grownBy ah (some p)
theorem Stepped.size {w ah:World} {p:Nat} {A:Option Addr} {c:Nat} {cs:List UInt8} {N:Nat} (h:Stepped w ah p A c cs N):w.heap.size≤ah.heap.size:=h.2.size
def hj (x:ByteArray):List Value:=[.string x]
theorem jM (y:ByteArray):(hj y).length= 1:=rfl
end Go.Proofs.YtlaaemmmbodaaaaGreatDoor
namespace Go.G9
open Go.RowKit
def Fi (l:List UInt8):ByteArray:=⟨l.toArray⟩
theorem IV (s:ByteArray):Fi s.data.toList= s:=by obtain⟨⟨l⟩⟩:=s;rfl
def kY (c:UInt8):List UInt8→List (List UInt8)
 | []=>[[]]
 | x ::l=>if x == c then [] ::kY c l else match kY c l with | []=>[[x]] | w ::ws=>(x ::w) ::ws
theorem Qy {c:UInt8}:∀{u:List UInt8},(∀x ∈ u,(x == c)= false)→kY c u= [u]
 | [],_=>rfl
 | x ::u,h=>by
  have ay:=h x (by simp);have eP:=Qy (u:=u) (fun y hy=>h y (by simp [hy]))
  simp only [kY,ay,eP];rfl
theorem Qz {c:UInt8}:∀{u v:List UInt8},(∀x ∈ u,(x == c)= false)→kY c (u ++ c ::v)= u ::kY c v
 | [],v,_=>by simp [kY]
 | x ::u,v,h=>by
  have ay:=h x (by simp);have eP:=Qz (u:=u) (v:=v) (fun y hy=>h y (by simp [hy]))
  simp only [List.cons_append,kY,ay,eP];rfl
theorem Qx (c:UInt8) (l:List UInt8):kY c l≠[]:=by
  cases l with
  | nil=>simp [kY]
  | cons x l=>unfold kY;split;· simp
              split <;> simp
theorem Qw (c:UInt8):∀l:List UInt8,(kY c l).length≤l.length + 1
 | []=>by simp [kY]
 | x ::l=>by
  have eP:=Qw c l
  unfold kY
  split
  ·simp;omega
  ·split
   ·simp
   ·rename_i h;rw [h] at eP;simp at eP ⊢;omega
theorem Ue (s:ByteArray) (a b:Nat):(s.extract a b).data.toList= (s.data.toList.drop a).take (b - a):=by
 rw [ByteArray.data_extract,Array.toList_extract]
theorem SW (s:ByteArray) {k:Nat} (ax:k < s.size):s.data.toList[k]? =some s[k]:=by
 have h:k < s.data.toList.length:=by simpa using ax
 rw [List.getElem?_eq_getElem h];rfl
end Go.G9
namespace Go.Proofs.YtlaaemmmbodaaaaGreatDoor
open Go.RowKit Go.G9
theorem xN:(Tryz.prog.info? 9).map (fun i=>(i.zero,i.size,i.bytes))= some (some (.string ⟨#[]⟩),1,16):=by kernel_rfl
theorem BU (y:ByteArray) (u:Value) (h:u ∈ hj y):u.oneCell'= true:=by simp [hj] at h;subst h;rfl
def gO (c:UInt8) (s:ByteArray):List ByteArray:=(kY c s.data.toList).map Fi
theorem Xl (s:ByteArray) (c:UInt8) (aZ:s.size≤1048576) (w:World):Calls Tryz.prog 67 #[s,.int .u8 (c.toNat:Int)] w fun e ah=>∃A n,e= .returned (.slice A (gO c s).length n)∧aX w 9 1 hj ah (.slice A (gO c s).length n) (gO c s)∧Below w w ah:=by
 obtain⟨i0,hi,dk,dx,dC⟩:=info_parts xN
 have oZ:=aX.built (B:=w.heap.size) (f:=hj) w ([]:List ByteArray) 9 (Nat.le_refl _) (by simp) jM
 simp only [List.flatMap_nil] at oZ
 have eu:=J oZ;clear oZ;have jA:c.toNat < 256:=c.toNat_lt
 have aiL:(c.toNat:Int) < 256:=by omega
 go_in
 go_wp2
 go_loopw [5,6,7] (fun v5 v6 lU wr=>∃(xs:List ByteArray) (a k:Nat),k≤s.size∧a≤k∧v6= .int .i64 a∧lU= .int .i64 k∧xs.length≤k∧gO c s= xs ++ (kY c (s.data.toList.drop a)).map Fi∧(∀x ∈ (s.data.toList.drop a).take (k - a),(x == c)= false)∧
   aX w 9 1 hj wr v5 xs∧Below w w wr) (fun _ _ lU _=>1048577 - (intOf lU).toNat)
 case atStart=>
  exact⟨[],0,0,Nat.zero_le _,Nat.le_refl _,rfl,rfl,Nat.le_refl _,by simp [gO],by simp,eu.out,ca _ _⟩
 case round=>
  obtain⟨xs,a,k,ax,cX,rfl,rfl,qj,kW,GL,bR,aE⟩:=hrel
  obtain⟨pr,c5,rfl,su,_,_⟩:=bR.form jM
  have z0:=aE.size;have wj:=J bR.lt;have vG:=J kW;have H1:=J GL;have dp:=J bR;clear kW GL bR
  by_cases bn:k < s.size
  ·have hl:s[k].toNat < 256:=s[k].toNat_lt
   have Oc:=SW s bn
   have CE:(s.data.toList.drop a)[k - a]? =some s[k]:=by rw [List.getElem?_drop,show a + (k - a)= k by omega];exact Oc
   by_cases aG:s[k]= c
   ·have jt:((s[k].toNat:Int) == (c.toNat:Int))= true:=by rw [aG];exact beq_iff_eq.2 rfl
    have pG:gO c s= (xs ++ [s.extract a k]) ++ (kY c (s.data.toList.drop (k + 1))).map Fi:=by
     have e:s.data.toList.drop a= (s.data.toList.drop a).take (k - a) ++ c ::s.data.toList.drop (k + 1):=by
      have h1:k - a < (s.data.toList.drop a).length:=(List.getElem?_eq_some_iff.1 CE).1
      conv=>lhs;rw [← List.take_append_drop (k - a) (s.data.toList.drop a)]
      rw [List.drop_eq_getElem_cons h1]
      have h2:(s.data.toList.drop a)[k - a]= c:=by
       have:=(List.getElem?_eq_some_iff.1 CE).2
       rw [this,aG]
      rw [h2,List.drop_drop,show a + (k - a + 1)= k + 1 by omega]
     rw [vG.out,e,Qz H1.out]
     simp only [List.map_cons,List.append_assoc,List.singleton_append]
     congr 2
     rw [← IV (s.extract a k),Ue]
    have gp:=J pG;clear pG aG Oc CE;have kl:aJ 1 hj (wr.alloc (.cells #[.string (s.extract a k)] 9)) (some ⟨wr.heap.size,0,none⟩) [s.extract a k]:=aJ.one (sz:=1) (f:=hj) _ _;have sd:=J kl;clear kl;have lr:=J (dp.out.alloc (.cells #[.string (s.extract a k)] 9))
    go_wp2_with (at_builtin;refine kJ rfl _ _ 57 rfl w.heap.size 9 i0 _ 1 16 Tryz.underlying57 hi dk dx dC rfl (by decide) hj jM BU (.slice pr xs c5) xs rfl lr.out ⟨wr.heap.size,0,none⟩ 1 (s.extract a k) rfl sd.out (by unfold maxLen;omega) (by omega) (by simp;omega) ?_;intro v4 cf eX fs kC)
    have z4:=fs.size;have gu:Below w w cf:=(aE.alloc (by omega) _).grown fs (by simp;omega) (fun q bf=>(wj.out q bf).1)
    go_roundw
    case rel=>exact⟨xs ++ [s.extract a k],k + 1,k + 1,by omega,Nat.le_refl _,by go_num,by go_num,by simp;omega,gp.out,by simp,eX,gu⟩
    case measure=>simp [intOf];omega
   ·have jt:((s[k].toNat:Int) == (c.toNat:Int))= false:=by
     rw [beq_eq_false_iff_ne]
     intro e
     exact aG (UInt8.toNat_inj.1 (by omega))
    have pG:∀x ∈ (s.data.toList.drop a).take (k + 1 - a),(x == c)= false:=fun x ay=>by
     have h1:k - a < (s.data.toList.drop a).length:=(List.getElem?_eq_some_iff.1 CE).1
     rw [show k + 1 - a= k - a + 1 by omega,List.take_succ_eq_append_getElem h1] at ay
     simp only [List.mem_append,List.mem_singleton] at ay
     rcases ay with ay | ay
     ·exact H1.out x ay
     ·rw [(List.getElem?_eq_some_iff.1 CE).2] at ay
      subst ay;exact beq_eq_false_iff_ne.2 aG
    have gp:=J pG;clear pG aG Oc CE
    go_wp2
    go_roundw
    case rel=>exact⟨xs,a,k + 1,by omega,by omega,rfl,by go_num,by omega,vG.out,gp.out,dp.out,aE⟩
    case measure=>simp [intOf];omega
  ·obtain rfl:k= s.size:=by omega
   have ji:xs ++ [s.extract a s.size]= gO c s:=by
    have eW:s.data.toList.length= s.size:=by simp
    have h1:=H1.out
    rw [List.take_of_length_le (by rw [List.length_drop,eW];omega)] at h1
    rw [vG.out,Qy h1]
    simp only [List.map_cons,List.map_nil]
    congr 1
    rw [← IV (s.extract a s.size),Ue,List.take_of_length_le (by rw [List.length_drop,eW];omega)]
   have cD:=J ji;clear ji;have kl:aJ 1 hj (wr.alloc (.cells #[.string (s.extract a s.size)] 9)) (some ⟨wr.heap.size,0,none⟩) [s.extract a s.size]:=aJ.one (sz:=1) (f:=hj) _ _;have sd:=J kl;clear kl;have lr:=J (dp.out.alloc (.cells #[.string (s.extract a s.size)] 9))
   go_wp2_with (at_builtin;refine kJ rfl _ _ 57 rfl w.heap.size 9 i0 _ 1 16 Tryz.underlying57 hi dk dx dC rfl (by decide) hj jM BU (.slice pr xs c5) xs rfl lr.out ⟨wr.heap.size,0,none⟩ 1 (s.extract a s.size) rfl sd.out (by unfold maxLen;omega) (by omega) (by simp;omega) ?_;intro v4 cf eX fs kC)
   have z4:=fs.size;have gu:Below w w cf:=(aE.alloc (by omega) _).grown fs (by simp;omega) (fun q bf=>(wj.out q bf).1)
   rw [cD.out] at eX
   obtain⟨Lr,rr,rfl,_,_,_⟩:=eX.form jM
   go_ret
   exact⟨Lr,rr,rfl,eX,gu⟩
end Go.Proofs.YtlaaemmmbodaaaaGreatDoor
namespace Go.G9
open Go.RowKit
theorem Ty (c:UInt8):∀l:List UInt8,(∀x ∈ l,(x == c)= false)∨∃u v,l= u ++ c ::v∧∀x ∈ u,(x == c)= false
 | []=> .inl (by simp)
 | y ::l=>by
  cases hy:y == c
  ·rcases Ty c l with h | ⟨u,v,e,h⟩
   ·left;intro x ay
    rcases List.mem_cons.1 ay with rfl | ay
    ·exact hy
    ·exact h x ay
   ·right
    exact⟨y ::u,v,by rw [e];rfl,fun x ay=>by
     rcases List.mem_cons.1 ay with rfl | ay
     ·exact hy
     ·exact h x ay⟩
  ·right
   have:y= c:=by simpa using hy
   exact⟨[],l,by rw [this];rfl,by simp⟩
theorem Xb {c:UInt8}:∀{l:List UInt8},(∀x ∈ l,(x == c)= false)→Lib.indexByte l c= -1
 | [],_=>rfl
 | y ::l,h=>by
  have eP:=Xb (l:=l) (fun x ay=>h x (by simp [ay]))
  simp [Lib.indexByte,h y (by simp),eP]
theorem Xa {c:UInt8}:∀{u v:List UInt8},(∀x ∈ u,(x == c)= false)→Lib.indexByte (u ++ c ::v) c= (u.length:Int)
 | [],v,_=>by simp [Lib.indexByte]
 | y ::u,v,h=>by
  have eP:=Xa (u:=u) (v:=v) (fun x ay=>h x (by simp [ay]))
  have eg:((u.length:Int) == -1)= false:=by rw [beq_eq_false_iff_ne];omega
  simp only [List.cons_append,Lib.indexByte,h y (by simp),eP,eg,List.length_cons]
  simp
theorem ZT (c:UInt8) (l:List UInt8):Lib.splitK [c] 0 (Lib.count l [c]) l= kY c l:=by
 rcases Ty c l with h | ⟨u,v,e,h⟩
 ·have hi:Lib.index l [c]= -1:=by rw [Lib.index_one,Xb h]
  rw [Lib.count_miss hi,Qy h];rfl
 ·have hi:Lib.index l [c]= (u.length:Nat):=by rw [Lib.index_one,e,Xa h]
  have hm:¬(Lib.index l [c] == -1)= true:=fun q=>by have:=beq_iff_eq.1 q;omega
  have bS:l.drop (u.length + [c].length)= v:=by
   rw [e];simp [List.drop_append]
  have cA:l.take (u.length + 0)= u:=by rw [e];simp
  rw [Lib.count_hit (by simp) hi,bS,Nat.add_comm 1,Lib.splitK,if_neg hm]
  have bd:(Lib.index l [c]).toNat= u.length:=by omega
  rw [bd,bS,cA,ZT c v,e,Qz h]
termination_by l.length
decreasing_by rw [e];simp;omega
theorem aqO (c:UInt8) (s:ByteArray):Lib.splitB ⟨#[c]⟩ 0 (Lib.countB s ⟨#[c]⟩) s= (kY c s.data.toList).map Fi:=by
 have h:=Lib.splitB_data ⟨#[c]⟩ 0 (Lib.countB s ⟨#[c]⟩) s;have h2:Lib.splitK (⟨#[c]⟩ :ByteArray).data.toList 0 (Lib.countB s ⟨#[c]⟩) s.data.toList= kY c s.data.toList:=ZT c s.data.toList
 rw [h2] at h
 rw [← h,List.map_map]
 conv=>lhs;rw [← List.map_id (Lib.splitB ⟨#[c]⟩ 0 (Lib.countB s ⟨#[c]⟩) s)]
 exact List.map_congr_left fun x _=>(IV x).symm
end Go.G9
namespace Go.Proofs.YtlaaemmmbodaaaaGreatDoor
open Go.RowKit Go.G9
def wW (w:World):Prop:=1 < w.heap.size∧∃m:Int,w.cell? ⟨1,0,none⟩ =some (.int .i64 m)
theorem wW.U {w ah:World} (h:wW w) (aE:Below w w ah):wW ah:=by
 obtain⟨h1,m,h2⟩:=h
 exact⟨Nat.lt_of_lt_of_le h1 aE.size,m,(aE.cell (p:=⟨1,0,none⟩) h1).trans h2⟩
theorem Pj (s:ByteArray) (c:UInt8) (aZ:s.size≤1048576) (w:World) (aY:wW w):Calls Tryz.prog 66 #[s,.string ⟨#[c]⟩] w fun e ah=>∃A n,e= .returned (.slice A (gO c s).length n)∧aX w 9 1 hj ah (.slice A (gO c s).length n) (gO c s)∧Below w w ah:=by
 obtain⟨h1,m,h2⟩:=aY
 refine (Tryz.strings_Split s ⟨#[c]⟩ m w (by omega) h2 (Nat.le_refl _)).mono ?_
 rintro e ah ⟨rfl,rfl⟩
 have oc:=aqO c s
 have hlen:Lib.countB s ⟨#[c]⟩ + 1= (gO c s).length:=by
  have:=Lib.splitB_all ⟨#[c]⟩ (Nat.le_refl _) 0 (Lib.countB s ⟨#[c]⟩) s rfl
  rw [oc] at this;exact this.symm
 have jA:(gO c s).length≤maxLen:=by
  have:=Qw c s.data.toList
  have h3:s.data.toList.length= s.size:=by simp
  unfold gO maxLen;rw [List.length_map];omega
 have bR:=aX.built (B:=w.heap.size) (f:=hj) w (gO c s) 9 (Nat.le_refl _) jA jM
 have aiK:(gO c s).flatMap hj= (gO c s).map Value.string:=by
  generalize gO c s= L
  induction L with
  | nil=>rfl
  | cons x L eP=>simp [hj,eP]
 rw [aiK] at bR
 rw [hlen]
 refine⟨some ⟨w.heap.size,0,none⟩,(gO c s).length,rfl,?_,ca _ _⟩
 rw [oc]
 exact bR
end Go.Proofs.YtlaaemmmbodaaaaGreatDoor
namespace Go.G9
open Go.RowKit
theorem Mz (a b:ByteArray):(a ++ b).data.toList= a.data.toList ++ b.data.toList:=by simp
end Go.G9
namespace Go.Proofs.YtlaaemmmbodaaaaGreatDoor
open Go.RowKit Go.G9
def od (ws:List ByteArray):Nat→ByteArray
 | 0=>(ws[0]?).getD ⟨#[]⟩
 | k + 1=>match ws[k + 1]? with | some y=>od ws k ++ (⟨#[32]⟩ :ByteArray) ++ y | none=>od ws k
def lk (ws:List ByteArray):ByteArray:=if ws.length= 0 then (⟨#[110,111,110,101]⟩ :ByteArray) else od ws (ws.length - 1)
theorem Xe {ws:List ByteArray} {k:Nat} {y:ByteArray} (h:ws[k + 1]? =some y):od ws (k + 1)= od ws k ++ (⟨#[32]⟩ :ByteArray) ++ y:=by rw [od,h]
theorem Xd (x:ByteArray) (r:List ByteArray):∀k,k≤r.length→(od (x ::r) k).data.toList= x.data.toList ++ Lib.joinTail ((⟨#[32]⟩ :ByteArray):ByteArray).data.toList ((r.map (·.data.toList)).take k)
 | 0,_=>by simp [od,Lib.joinTail]
 | k + 1,ax=>by
  have eP:=Xd x r k (by omega);have hy:r[k]? =some r[k]:=List.getElem?_eq_getElem (by omega)
  rw [Xe (y:=r[k]) (by simpa using hy),Mz,Mz,eP,Lib.joinTail_take_succ _ _ k (r[k]).data.toList (by simp [hy])]
  simp only [List.append_assoc]
theorem alW {ws:List ByteArray} (h:ws.length≠0):(⟨(Lib.join (ws.map (·.data.toList)) ((⟨#[32]⟩ :ByteArray):ByteArray).data.toList).toArray⟩ :ByteArray)= lk ws:=by
 cases ws with
 | nil=>simp at h
 | cons x r=>
  have e:=Xd x r r.length (Nat.le_refl _)
  rw [lk,if_neg h,List.length_cons,Nat.add_sub_cancel,List.map_cons,Lib.join_cons]
  have e2:((r.map (·.data.toList)).take r.length)= r.map (·.data.toList):=List.take_of_length_le (by simp)
  rw [e2] at e
  rw [← e]
theorem Po {ws:List ByteArray} {n:Nat} (h:∀x ∈ ws,x.size≤n):∀k,(od ws k).size≤(k + 1) * (n + 1)
 | 0=>by
  cases ws with
  | nil=>exact Nat.zero_le _
  | cons x r=>have:=h x (by simp);simp [od];omega
 | k + 1=>by
  have eP:=Po h k
  have e:(k + 1 + 1) * (n + 1)= (k + 1) * (n + 1) + (n + 1):=by rw [Nat.succ_mul]
  unfold od
  split
  ·rename_i y hy
   have:=h y (List.mem_of_getElem? hy);have e1:((⟨#[32]⟩ :ByteArray):ByteArray).size= 1:=rfl
   simp only [ByteArray.size_append];omega
  ·omega
def lD (rs:List aM) (id:Int):ByteArray:=match hA rs id with | some r=>r.name | none=>⟨#[]⟩
def ln (rs:List aM) (q:aN):ByteArray:=lD rs q.fU
theorem Yj {rs:List aM} {id:Int} {r:aM} (h:hA rs id= some r):lD rs id= r.name:=by rw [lD,h]
def pe (xs:List Int):ByteArray:=lk (xs.map eT)
def Hm (nm:ByteArray) (z:aM):Bool:=z.name.toList == nm.toList
def uu (rs:List aM) (nm:ByteArray):Option aM:=rs.find? (Hm nm)
def rR (rs:List aM) (p:UInt8) (w:ByteArray):Option Int:=if p= 110 then (if fh w then some (hg w.data.toList) else none) else (uu rs w).map (fun r=>r.id)
def ny (rs:List aM) (ps:List UInt8) (ws:List ByteArray):Nat→Option (List Int)
 | 0=>some []
 | k + 1=>match ny rs ps ws k,ps[k]?,ws[k]? with | some l,some p,some w=>(rR rs p w).map (fun n=>l ++ [n]) | _,_,_=>none
def lp (rs:List aM) (pt:ByteArray) (ws:List ByteArray):Option (List Int):=if ws.length= pt.size then ny rs pt.data.toList ws ws.length else none
theorem wv {rs:List aM} {ps:List UInt8} {ws:List ByteArray} {k:Nat} {l:List Int} {p:UInt8} {w:ByteArray} (h:ny rs ps ws k= some l) (aR:ps[k]? =some p) (hw:ws[k]? =some w):ny rs ps ws (k + 1)= (rR rs p w).map (fun n=>l ++ [n]):=by rw [ny,h,aR,hw]
theorem Hw {rs:List aM} {ps:List UInt8} {ws:List ByteArray} {k:Nat} (h:ny rs ps ws k= none):∀j,ny rs ps ws (k + j)= none
 | 0=>h
 | j + 1=>by rw [← Nat.add_assoc,ny,Hw h j]
theorem Qa {rs:List aM} {ps:List UInt8} {ws:List ByteArray}:∀{k:Nat} {l:List Int},ny rs ps ws k= some l→l.length= k
 | 0,l,h=>by cases h;rfl
 | k + 1,l,h=>by
  rw [ny] at h
  split at h
  ·rename_i km p w h0 _ _
   cases bz:rR rs p w with
   | none=>rw [bz] at h;cases h
   | some n=>rw [bz] at h;cases h;simp [Qa h0]
  ·cases h
def eG (w:ByteArray):Nat:=if w= (⟨#[110,101,120,116]⟩ :ByteArray) then 0 else if w= (⟨#[121,105,101,108,100]⟩ :ByteArray) then 1 else if w= (⟨#[100,114,111,112]⟩ :ByteArray) then 2 else if w= (⟨#[112,101,110,100,105,110,103]⟩ :ByteArray) then 3 else if w= (⟨#[109,97,121]⟩ :ByteArray) then 4 else if w= (⟨#[111,114,100,101,114]⟩ :ByteArray) then 5 else if w= (⟨#[97,100,111,112,116,101,100]⟩ :ByteArray) then 6 else if w= (⟨#[115,101,99,111,110,100]⟩ :ByteArray) then 7 else if w= (⟨#[97,115,107]⟩ :ByteArray) then 8 else if w= (⟨#[115,112,101,97,107]⟩ :ByteArray) then 9 else if w= (⟨#[119,105,116,104,100,114,97,119]⟩ :ByteArray) then 10 else if w= (⟨#[108,101,102,116]⟩ :ByteArray) then 11 else if w= (⟨#[109,111,118,101,100]⟩ :ByteArray) then 12 else if w= (⟨#[109,111,118,101]⟩ :ByteArray) then 13 else if w= (⟨#[118,111,116,101]⟩ :ByteArray) then 14 else 15
structure zL (w:ByteArray) (i:Nat):Prop where
 f0:(w.toList == [110,101,120,116])= (i == 0)
 f1:(w.toList == [121,105,101,108,100])= (i == 1)
 f2:(w.toList == [100,114,111,112])= (i == 2)
 f3:(w.toList == [112,101,110,100,105,110,103])= (i == 3)
 f4:(w.toList == [109,97,121])= (i == 4)
 f5:(w.toList == [111,114,100,101,114])= (i == 5)
 f6:(w.toList == [97,100,111,112,116,101,100])= (i == 6)
 f7:(w.toList == [115,101,99,111,110,100])= (i == 7)
 f8:(w.toList == [97,115,107])= (i == 8)
 f9:(w.toList == [115,112,101,97,107])= (i == 9)
 f10:(w.toList == [119,105,116,104,100,114,97,119])= (i == 10)
 f11:(w.toList == [108,101,102,116])= (i == 11)
 f12:(w.toList == [109,111,118,101,100])= (i == 12)
 f13:(w.toList == [109,111,118,101])= (i == 13)
 f14:(w.toList == [118,111,116,101])= (i == 14)
theorem WZ {p:Prop} [Decidable p] {a b n:Nat} (cX:a≤n) (aE:b≤n):(if p then a else b)≤n:=by split <;> assumption
theorem Fk (w:ByteArray):eG w≤15:=by
 unfold eG
 repeat (first | exact WZ (by decide) (by decide) | refine WZ (by decide) ?_)
theorem qn (w:ByteArray) (l:List UInt8):(w.toList == l)= decide (w=⟨l.toArray⟩):=by
 rw [ByteArray.toList_eq]
 by_cases h:w=⟨l.toArray⟩
 ·subst h;simp
 ·rw [decide_eq_false h,beq_eq_false_iff_ne]
  intro e
  exact h (yG (by rw [e]))
theorem rf {p:Prop} (h:p:=by
 refine⟨?_,?_,?_,?_,?_,?_,?_,?_,?_,?_,?_,?_,?_,?_,?_⟩ <;> rw [qn] <;> decide +kernel):p:=h
theorem Cb (w:ByteArray):zL w (eG w):=by
 unfold eG
 by_cases h0:w= (⟨#[110,101,120,116]⟩ :ByteArray)
 ·subst h0
  exact rf
 rw [if_neg h0]
 by_cases h1:w= (⟨#[121,105,101,108,100]⟩ :ByteArray)
 ·subst h1
  exact rf
 rw [if_neg h1]
 by_cases h2:w= (⟨#[100,114,111,112]⟩ :ByteArray)
 ·subst h2
  exact rf
 rw [if_neg h2]
 by_cases h3:w= (⟨#[112,101,110,100,105,110,103]⟩ :ByteArray)
 ·subst h3
  exact rf
 rw [if_neg h3]
 by_cases h4:w= (⟨#[109,97,121]⟩ :ByteArray)
 ·subst h4
  exact rf
 rw [if_neg h4]
 by_cases h5:w= (⟨#[111,114,100,101,114]⟩ :ByteArray)
 ·subst h5
  exact rf
 rw [if_neg h5]
 by_cases h6:w= (⟨#[97,100,111,112,116,101,100]⟩ :ByteArray)
 ·subst h6
  exact rf
 rw [if_neg h6]
 by_cases h7:w= (⟨#[115,101,99,111,110,100]⟩ :ByteArray)
 ·subst h7
  exact rf
 rw [if_neg h7]
 by_cases h8:w= (⟨#[97,115,107]⟩ :ByteArray)
 ·subst h8
  exact rf
 rw [if_neg h8]
 by_cases h9:w= (⟨#[115,112,101,97,107]⟩ :ByteArray)
 ·subst h9
  exact rf
 rw [if_neg h9]
 by_cases h10:w= (⟨#[119,105,116,104,100,114,97,119]⟩ :ByteArray)
 ·subst h10
  exact rf
 rw [if_neg h10]
 by_cases h11:w= (⟨#[108,101,102,116]⟩ :ByteArray)
 ·subst h11
  exact rf
 rw [if_neg h11]
 by_cases h12:w= (⟨#[109,111,118,101,100]⟩ :ByteArray)
 ·subst h12
  exact rf
 rw [if_neg h12]
 by_cases h13:w= (⟨#[109,111,118,101]⟩ :ByteArray)
 ·subst h13
  exact rf
 rw [if_neg h13]
 by_cases h14:w= (⟨#[118,111,116,101]⟩ :ByteArray)
 ·subst h14
  exact rf
 rw [if_neg h14]
 exact⟨by rw [qn,decide_eq_false h0];rfl,by rw [qn,decide_eq_false h1];rfl,by rw [qn,decide_eq_false h2];rfl,by rw [qn,decide_eq_false h3];rfl,by rw [qn,decide_eq_false h4];rfl,by rw [qn,decide_eq_false h5];rfl,by rw [qn,decide_eq_false h6];rfl,by rw [qn,decide_eq_false h7];rfl,by rw [qn,decide_eq_false h8];rfl,by rw [qn,decide_eq_false h9];rfl,by rw [qn,decide_eq_false h10];rfl,by rw [qn,decide_eq_false h11];rfl,by rw [qn,decide_eq_false h12];rfl,by rw [qn,decide_eq_false h13];rfl,by rw [qn,decide_eq_false h14];rfl⟩
theorem Kf {i:Nat} (h:i≤15):i= 0∨i= 1∨i= 2∨i= 3∨i= 4∨i= 5∨i= 6∨i= 7∨i= 8∨i= 9∨i= 10∨i= 11∨i= 12∨i= 13∨i= 14∨i= 15:=by omega
def mf:Nat→Option ByteArray
 | 0 | 1 | 2 | 3 | 4 | 5 | 6=>some ⟨#[]⟩
 | 7 | 8 | 9 | 10 | 11 | 12=>some (⟨#[110]⟩ :ByteArray)
 | 13=>some (⟨#[114,110]⟩ :ByteArray)
 | 14=>some (⟨#[110,110,110]⟩ :ByteArray)
 | _=>none
def sg:Nat→List Int→Option ou
 | 0,_=>some ⟨4,0,0,0,0,0⟩
 | 1,_=>some ⟨6,0,0,0,0,0⟩
 | 2,_=>some ⟨9,0,0,0,0,0⟩
 | 7,[n]=>some ⟨2,n,0,0,0,0⟩
 | 8,[n]=>some ⟨3,n,0,0,0,0⟩
 | 9,[n]=>some ⟨5,0,n,0,0,0⟩
 | 10,[n]=>some ⟨8,n,0,0,0,0⟩
 | 13,[v,n]=>some ⟨1,n,v,0,0,0⟩
 | 14,[a,b,c]=>some ⟨7,0,0,a,b,c⟩
 | _,_=>none
def amH (m:cF) (n:Int):Int:=m.cU - (eB m.bM n).cU
def jL (m:cF):Nat→List Int→Option ByteArray
 | 3,_=>some (lk (m.bH.map (ln m.bx)))
 | 4,_=>some (lk ((ht m.bx m.bH).map (lD m.bx)))
 | 5,_=>some (pe (kF m.gz))
 | 6,_=>some (pe (ki m.bt m.bt.length))
 | 11,[n]=>if eH n then some (eT (amH m n)) else none
 | 12,[n]=>if eH n then some (pe [(hD m.bt n m.bt.length).1,(hD m.bt n m.bt.length).2]) else none
 | _,_=>none
def Hd (m:cF):Bool:=match m.bt[m.bt.length - 1]? with | some o=>o.hz | none=>false
def pQ (n:cF) (kind:Int):ByteArray:=if kind= 4 then eT n.dH else if kind= 7 then (if Hd n then (⟨#[97,100,111,112,116,101,100]⟩ :ByteArray) else (⟨#[108,111,115,116]⟩ :ByteArray)) else (⟨#[111,107]⟩ :ByteArray)
def ns (m:cF):List ByteArray→Option (cF×ByteArray)
 | []=>none
 | w ::r=>match mf (eG w) with
  | none=>none
  | some p=>match lp m.bx p r with
   | none=>none
   | some l=>match sg (eG w) l with
    | some a=>(gE m a).map (fun n=>(n,pQ n a.kind))
    | none=>(jL m (eG w) l).map (fun s=>(m,s))
def jq (m:cF) (ws:List ByteArray):cF×ByteArray:=(ns m ws).getD (m,(⟨#[63]⟩ :ByteArray))
def og (m:cF) (a:ou) (s:ByteArray):cF×ByteArray:=match gE m a with | some n=>(n,s) | none=>(m,(⟨#[63]⟩ :ByteArray))
def sh (m:cF) (a:ou):cF×ByteArray:=match gE m a with | some n=>(n,pQ n a.kind) | none=>(m,(⟨#[63]⟩ :ByteArray))
theorem ahl {m n:cF} {ws:List ByteArray} {s:ByteArray} (h:gP m) (he:ns m ws= some (n,s)):gP n:=by
 cases ws with
 | nil=>cases he
 | cons w r=>
  rw [ns] at he
  cases h1:mf (eG w) with
  | none=>rw [h1] at he;cases he
  | some p=>
   rw [h1] at he
   dsimp only at he
   cases h2:lp m.bx p r with
   | none=>rw [h2] at he;cases he
   | some l=>
    rw [h2] at he
    dsimp only at he
    cases h3:sg (eG w) l with
    | some a=>
     rw [h3] at he
     dsimp only at he
     cases hm:gE m a with
     | none=>rw [hm] at he;cases he
     | some k=>rw [hm] at he;cases he;exact Kc h hm
    | none=>
     rw [h3] at he
     dsimp only at he
     cases bf:jL m (eG w) l with
     | none=>rw [bf] at he;cases he
     | some k=>rw [bf] at he;cases he;exact h
theorem Ub {m:cF} {ws:List ByteArray} (h:gP m):gP (jq m ws).1:=by
 unfold jq
 cases he:ns m ws with
 | none=>exact h
 | some q=>obtain⟨n,s⟩:=q;exact ahl h he
theorem ahj {m:cF} {w:ByteArray} {r:List ByteArray} (h:mf (eG w)= none):jq m (w ::r)= (m,(⟨#[63]⟩ :ByteArray)):=by simp [jq,ns,h]
theorem ahh {m:cF} {w p:ByteArray} {r:List ByteArray} (h:mf (eG w)= some p) (aT:r.length≠p.size):jq m (w ::r)= (m,(⟨#[63]⟩ :ByteArray)):=by simp [jq,ns,h,lp,aT]
theorem Jf {m:cF} {w p:ByteArray} {r:List ByteArray} (h:mf (eG w)= some p) (aT:lp m.bx p r= none):jq m (w ::r)= (m,(⟨#[63]⟩ :ByteArray)):=by simp [jq,ns,h,aT]
theorem Cd {m:cF} {w p:ByteArray} {r:List ByteArray} {l:List Int} {a:ou} (h:mf (eG w)= some p) (aT:lp m.bx p r= some l) (cX:sg (eG w) l= some a):jq m (w ::r)= sh m a:=by
 simp only [jq,ns,h,aT,cX,sh]
 cases gE m a <;> rfl
theorem Ua {m:cF} {w p:ByteArray} {r:List ByteArray} {l:List Int} {s:Option ByteArray} (h:mf (eG w)= some p) (aT:lp m.bx p r= some l) (cX:sg (eG w) l= none) (aZ:jL m (eG w) l= s):jq m (w ::r)= (m,s.getD (⟨#[63]⟩ :ByteArray)):=by
 simp only [jq,ns,h,aT,cX,aZ]
 cases s <;> rfl
theorem Ky (rs:List aM):lp rs ⟨#[]⟩ []= some []:=rfl
theorem Hy (rs:List aM) (x:ByteArray):rR rs 110 x= if fh x then some (hg x.data.toList) else none:=by rw [rR,if_pos rfl]
theorem aom (rs:List aM) (x:ByteArray):rR rs 114 x= (uu rs x).map (fun r=>r.id):=by rw [rR,if_neg (by decide)]
theorem aog (rs:List aM) (x:ByteArray):lp rs (⟨#[110]⟩ :ByteArray) [x]= if fh x then some [hg x.data.toList] else none:=by
 rw [lp,if_pos (show [x].length= ((⟨#[110]⟩ :ByteArray):ByteArray).size from rfl)]
 show ny rs [110] [x] 1= _
 rw [wv (l:=[]) (p:=110) (w:=x) rfl rfl rfl,Hy]
 cases fh x <;> rfl
theorem aoi (rs:List aM) (x y:ByteArray):lp rs (⟨#[114,110]⟩ :ByteArray) [x,y]= match uu rs x with | some r=>(if fh y then some [r.id,hg y.data.toList] else none) | none=>none:=by
 rw [lp,if_pos (show [x,y].length= ((⟨#[114,110]⟩ :ByteArray):ByteArray).size from rfl)]
 show ny rs [114,110] [x,y] 2= _
 have e1:ny rs [114,110] [x,y] 1= (rR rs 114 x).map (fun n=>[] ++ [n]):=wv rfl rfl rfl
 rw [aom] at e1
 cases hf:uu rs x with
 | none=>rw [hf] at e1;exact Hw e1 1
 | some r=>
  rw [hf] at e1
  rw [wv (k:=1) (l:=[r.id]) (p:=110) (w:=y) e1 rfl rfl,Hy]
  cases fh y <;> rfl
theorem aoh (rs:List aM) (x y z:ByteArray):lp rs (⟨#[110,110,110]⟩ :ByteArray) [x,y,z]= if fh x && (fh y && fh z) then some [hg x.data.toList,hg y.data.toList,hg z.data.toList] else none:=by
 rw [lp,if_pos (show [x,y,z].length= ((⟨#[110,110,110]⟩ :ByteArray):ByteArray).size from rfl)]
 show ny rs [110,110,110] [x,y,z] 3= _
 have e1:ny rs [110,110,110] [x,y,z] 1= (rR rs 110 x).map (fun n=>[] ++ [n]):=wv rfl rfl rfl
 rw [Hy] at e1
 cases ay:fh x
 ·rw [ay] at e1;exact Hw e1 2
 rw [ay] at e1
 have e2:ny rs [110,110,110] [x,y,z] 2= (rR rs 110 y).map (fun n=>[hg x.data.toList] ++ [n]):=wv e1 rfl rfl
 rw [Hy] at e2
 cases hy:fh y
 ·rw [hy] at e2;exact Hw e2 1
 rw [hy] at e2
 rw [wv (k:=2) (l:=[hg x.data.toList,hg y.data.toList]) (p:=110) (w:=z) e2 rfl rfl,Hy]
 cases fh z <;> rfl
open Go.RowKit Go.G9
def oM (s:ByteArray):ByteArray:=if 200 < s.size then (⟨#[108,111,110,103]⟩ :ByteArray) else s
def qk (m:cF) (l:ByteArray):cF×ByteArray:=jq m (gO 32 l)
def Ab (x:et) (l:ByteArray):et:=(qk x.kX l).1.Tn (iL x.log ⟨l,oM (qk x.kX l).2⟩).ef (iL x.log ⟨l,oM (qk x.kX l).2⟩).eo (iL x.log ⟨l,oM (qk x.kX l).2⟩).dR
def qa (x:et) (l:ByteArray):et:=if hR x && (lG l ⟨#[]⟩ && !(x.dR == 60)) then Ab x l else x
def qB (x:et) (l:ByteArray):ByteArray:=if hR x then (if lG l ⟨#[]⟩ then (if x.dR == 60 then (⟨#[102,117,108,108]⟩ :ByteArray) else oM (qk x.kX l).2) else (⟨#[98,97,100]⟩ :ByteArray)) else (⟨#[110,111]⟩ :ByteArray)
theorem agn (x:et) (l:ByteArray):(Ab x l).log= iL x.log ⟨l,oM (qk x.kX l).2⟩:=rfl
theorem Fl {x:et} (h:hR x= true):gP x.kX:=by
 unfold hR at h;rw [Bool.and_eq_true] at h;exact Dc.1 h.1
theorem Tt {x:et} (h:hR x= true):x.log.ok= true:=by
 unfold hR at h;rw [Bool.and_eq_true] at h;exact h.2
theorem amN {x:hY} (h:x.ok= true):x.ef.size + x.eo.size≤30000∧0≤x.dR∧x.dR≤60:=by
 obtain⟨h0,h1,h2⟩:=JW h
 unfold hY.d hY.p at h2
 rw [Array.length_toList,Array.length_toList] at h2
 exact⟨h2,h0,h1⟩
theorem Yw (a b:ByteArray):jm (a ++ b)= (jm a && jm b):=by unfold jm;rw [Mz,List.all_append]
theorem acA {p:Prop} (h:p:=by
 simp only [oL,h2,Bool.and_eq_true,decide_eq_true_eq,Bool.not_false,and_true]
 omega):p:=h
theorem PS (n:Int):jm (eT n)= true:=by
 unfold jm eT
 show (Lib.itoa n).all oL= true
 have bS:∀u,(Lib.decDigits u).all oL= true:=fun u=>by
  rw [List.all_eq_true]
  intro c aG
  have h1:=(Ad u).2.1 c aG
  simp only [mx,Bool.and_eq_true,decide_eq_true_eq] at h1
  have h2:(c == 35)= false:=by
   rw [beq_eq_false_iff_ne]
   rintro rfl
   have:=h1.1
   revert this;decide
  exact acA
 unfold Lib.itoa
 split
 ·rw [List.all_cons,bS];rfl
 ·exact bS _
theorem anS {s:ByteArray} (h:wJ s= true):jm s= true:=by
 unfold wJ at h
 rw [Bool.and_eq_true] at h
 have h1:=h.1
 unfold tu at h1
 rw [List.all_eq_true] at h1
 unfold jm
 rw [List.all_eq_true]
 intro c aG
 have h3:=h1 c aG
 simp only [Bool.and_eq_true,decide_eq_true_eq] at h3
 have h2:(c == 35)= false:=by
  rw [beq_eq_false_iff_ne]
  rintro rfl
  have:=h3.1
  revert this;decide
 exact acA
theorem Yx {ws:List ByteArray} (h:∀x ∈ ws,jm x= true):∀k,jm (od ws k)= true
 | 0=>by
  unfold od
  cases hw:ws[0]? with
  | none=>rfl
  | some x=>exact h x (List.mem_of_getElem? hw)
 | k + 1=>by
  have eP:=Yx h k
  unfold od
  split
  ·rename_i y hy
   rw [Yw,Yw,eP,h y (List.mem_of_getElem? hy)];rfl
  ·exact eP
theorem PQ {ws:List ByteArray} (h:∀x ∈ ws,jm x= true):jm (lk ws)= true:=by
 unfold lk
 split
 ·rfl
 ·exact Yx h _
theorem PR (xs:List Int):jm (pe xs)= true:=PQ fun x ay=>by
 obtain⟨n,_,rfl⟩:=List.mem_map.1 ay
 exact PS n
theorem Yi {rs:List aM} (h:kq rs= true) (id:Int):jm (lD rs id)= true:=by
 unfold lD
 cases hf:hA rs id with
 | none=>rfl
 | some r=>
  obtain⟨k,ax⟩:=List.mem_iff_getElem?.1 (List.mem_of_find?_eq_some hf)
  exact anS (zu (zv h ax)).2.2.2.2.2.2
theorem afU {m:cF} (h:gP m) {i:Nat} {l:List Int} {s:ByteArray} (aZ:jL m i l= some s):jm s= true:=by
 have bz:=(nd h.ho).1
 unfold jL at aZ
 split at aZ
 ·cases aZ;exact PQ fun x ay=>by obtain⟨q,_,rfl⟩:=List.mem_map.1 ay;exact Yi bz _
 ·cases aZ;exact PQ fun x ay=>by obtain⟨q,_,rfl⟩:=List.mem_map.1 ay;exact Yi bz _
 ·cases aZ;exact PR _
 ·cases aZ;exact PR _
 ·split at aZ
  ·cases aZ;exact PS _
  ·cases aZ
 ·split at aZ
  ·cases aZ;exact PR _
  ·cases aZ
 ·cases aZ
theorem aoF (n:cF) (k:Int):jm (pQ n k)= true:=by
 unfold pQ
 split
 ·exact PS _
 split
 ·split <;> rfl
 ·rfl
theorem ahi {m:cF} (h:gP m) (ws:List ByteArray):jm (jq m ws).2= true:=by
 unfold jq
 cases he:ns m ws with
 | none=>rfl
 | some q=>
  obtain⟨n,s⟩:=q
  show jm s= true
  cases ws with
  | nil=>cases he
  | cons w r=>
   rw [ns] at he
   cases h1:mf (eG w) with
   | none=>rw [h1] at he;cases he
   | some p=>
    rw [h1] at he
    dsimp only at he
    cases h2:lp m.bx p r with
    | none=>rw [h2] at he;cases he
    | some l=>
     rw [h2] at he
     dsimp only at he
     cases h3:sg (eG w) l with
     | some a=>
      rw [h3] at he
      dsimp only at he
      cases hm:gE m a with
      | none=>rw [hm] at he;cases he
      | some k=>rw [hm] at he;cases he;exact aoF _ _
     | none=>
      rw [h3] at he
      dsimp only at he
      cases bf:jL m (eG w) l with
      | none=>rw [bf] at he;cases he
      | some k=>rw [bf] at he;cases he;exact afU h bf
theorem aoM {s:ByteArray} (h:jm s= true):jm (oM s)= true∧(oM s).size≤200:=by
 unfold oM
 split
 ·exact⟨rfl,by decide⟩
 ·exact⟨h,by omega⟩
theorem aoE {l r:ByteArray} (h:lG l ⟨#[]⟩ =true) (aR:jm r= true) (aZ:r.size≤200):lG l r= true:=by
 unfold lG at h ⊢
 simp only [Bool.and_eq_true,decide_eq_true_eq] at h ⊢
 exact⟨h.1,aZ,h.2.2.1,aR,h.2.2.2.2⟩
theorem YU {l r:ByteArray} (h:lG l r= true):1≤l.size∧l.size≤160:=by
 unfold lG at h
 simp only [Bool.and_eq_true,decide_eq_true_eq,rH] at h
 omega
theorem agm {x:et} {l:ByteArray} (h:hR x= true) (bz:lG l ⟨#[]⟩ =true) (aG:(x.dR == 60)= false):BT x.log ⟨l,oM (qk x.kX l).2⟩ =0:=by
 obtain⟨dD,di⟩:=aoM (ahi (Fl h) (gO 32 l))
 have h1:kD (fV.c ⟨l,oM (qk x.kX l).2⟩) (fV.r ⟨l,oM (qk x.kX l).2⟩)= true:=by
  unfold kD
  rw [IT,IU]
  exact aoE bz dD di
 have h2:nc x.log.d x.log.p x.log.dR= true:=Tt h;have h3:(x.log.dR == 60)= false:=aG
 unfold BT tb qx
 rw [h2,h1,h3];rfl
theorem ago {x:et} {l:ByteArray} (h:hR x= true) (bz:lG l ⟨#[]⟩ =true) (aG:(x.dR == 60)= false):hR (Ab x l)= true:=by
 have h1:=(afJ (agm h bz aG)).2.1;have h2:gP (Ab x l).kX:=Ub (Fl h)
 unfold hR
 rw [Dc.2 h2,agn,h1];rfl
theorem MG {x:et} {l:ByteArray} (h:hR x= true):hR (qa x l)= true:=by
 unfold qa
 split
 ·rename_i aG
  simp only [Bool.and_eq_true,Bool.not_eq_true'] at aG
  exact ago h aG.2.1 aG.2.2
 ·exact h
structure aeg (x:et):Prop where
 km:x.bx.length≤1048576
 jR:x.bH.length≤1048576
 oK:x.bJ.length≤1048576
 ts:x.bM.length≤1048576
 xQ:x.bt.length≤1048576
 Ps:x.ef.size + x.eo.size≤1048576
theorem IX {x:et} (h:hR x= true):aeg x:=by
 obtain⟨a0,a1,a2,a3,a4⟩:=tv (Fl h)
 have h5:=(amN (Tt h)).1
 unfold et.kX at a0 a1 a2 a3 a4
 unfold et.log at h5
 simp only at a0 a1 a2 a3 a4 h5
 exact⟨by omega,by omega,by omega,by omega,by omega,by omega⟩
theorem MF (x:et) (l:ByteArray):(qB x l).size≤200:=by
 unfold qB
 split
 ·split
  ·split
   ·decide
   ·unfold oM;split
    ·decide
    ·omega
  ·decide
 ·decide
theorem Tu {x:et} {l:ByteArray} (h:hR x= false):qa x l= x∧qB x l= (⟨#[110,111]⟩ :ByteArray):=by
 unfold qa qB;rw [h];exact⟨rfl,rfl⟩
theorem Tr {x:et} {l:ByteArray} (h:hR x= true) (bz:lG l ⟨#[]⟩ =false):qa x l= x∧qB x l= (⟨#[98,97,100]⟩ :ByteArray):=by
 unfold qa qB;rw [h,bz];exact⟨rfl,rfl⟩
theorem Ts {x:et} {l:ByteArray} (h:hR x= true) (bz:lG l ⟨#[]⟩ =true) (aG:(x.dR == 60)= true):qa x l= x∧qB x l= (⟨#[102,117,108,108]⟩ :ByteArray):=by
 unfold qa qB;rw [h,bz,aG];exact⟨rfl,rfl⟩
theorem Tv {x:et} {l:ByteArray} (h:hR x= true) (bz:lG l ⟨#[]⟩ =true) (aG:(x.dR == 60)= false):qa x l= Ab x l∧qB x l= oM (qk x.kX l).2:=by
 unfold qa qB;rw [h,bz,aG];exact⟨rfl,rfl⟩
def tA (x:et) (ls:List ByteArray):Nat→et
 | 0=>x
 | k + 1=>match ls[k]? with | some l=>qa (tA x ls k) l | none=>tA x ls k
def Te (x:et) (l:ByteArray):Str:=⟨qB x l,by have:=MF x l;unfold maxLen;omega⟩
def tB (x:et) (ls:List ByteArray):Nat→List Str
 | 0=>[]
 | k + 1=>match ls[k]? with | some l=>tB x ls k ++ [Te (tA x ls k) l] | none=>tB x ls k
theorem Zv {x:et} {ls:List ByteArray} {k:Nat} {l:ByteArray} (h:ls[k]? =some l):tA x ls (k + 1)= qa (tA x ls k) l∧tB x ls (k + 1)= tB x ls k ++ [Te (tA x ls k) l]:=by
 rw [tA,tB,h];exact⟨rfl,rfl⟩
theorem KD {x:et} {ls:List ByteArray} (h:hR x= true):∀k,hR (tA x ls k)= true
 | 0=>h
 | k + 1=>by
  unfold tA
  split
  ·exact MG (KD h k)
  ·exact KD h k
theorem KE {x:et} {ls:List ByteArray}:∀k,k≤ls.length→(tB x ls k).length= k
 | 0,_=>rfl
 | k + 1,ax=>by
  have h:=List.getElem?_eq_getElem (l:=ls) (i:=k) (by omega)
  rw [(Zv h).2,List.length_append,KE k (by omega)];rfl
def oN (x:et) (t:ByteArray):Bool:=hR x && (decide (t.size≤4000) && decide ((gO 10 t).length≤30))
def jG (x:et) (t:ByteArray):List Str:=if oN x t then tB x (gO 10 t) (gO 10 t).length else []
theorem aqy (x:et) (t:ByteArray):(jG x t).length≤30:=by
 unfold jG
 split
 ·rename_i h
  unfold oN at h
  simp only [Bool.and_eq_true,decide_eq_true_eq] at h
  rw [KE _ (Nat.le_refl _)];exact h.2.2
 ·simp
open Go.RowKit Go.G9
structure ov (w:World):Prop where
 t:lf w
 e:By w
 m:wW w
theorem ov.U {w ah:World} (h:ov w) (aE:Below w w ah):ov ah:=⟨h.t.U aE,h.e.U aE,h.m.U aE⟩
theorem afZ:Builder.Extra Tryz.prog Tryz.Xy:={sizeBuilder:=by kernel_rfl,liesBuilder:=by kernel_rfl,t5:=Tryz.underlying5,a5:=Tryz.isAgg5,z5:=Tryz.sizeOf5,v5:=Tryz.zeroValue5,infoByte:=by kernel_rfl,cellsByte:=by kernel_rfl,sizeByte:=by kernel_rfl,neB5:=by decide}
theorem alX {ws:List ByteArray} {n:Nat} (h0:ws.length≠0) (h:∀x ∈ ws,x.size≤n):(lk ws).size≤ws.length * (n + 1):=by
 have h2:=Po h (ws.length - 1)
 rw [lk,if_neg h0]
 rwa [show ws.length - 1 + 1= ws.length by omega] at h2
theorem alY (A:Option Addr) (c:Nat) (ws:List ByteArray) (h0:ws.length≠0) (bd:ws.length≤1000) (cb:∀x ∈ ws,x.size≤1000) (w:World) (bN:aJ 1 hj w A ws) (ga:ws.length≤c):
 Calls Tryz.prog 249 #[.slice A ws c,.string (⟨#[32]⟩ :ByteArray)] w fun e ah=>e= .returned (.string (lk ws))∧Below w w ah:=by
 obtain⟨b,off,rfl,aE,aG⟩:=bN (by omega)
 have e:=alW h0;have aT:=alX h0 cb;have e2:(Lib.join (ws.map (·.data.toList)) ((⟨#[32]⟩ :ByteArray):ByteArray).data.toList).toArray.size= (lk ws).size:=congrArg ByteArray.size e
 rw [List.size_toArray] at e2
 have h:=Any.strings_Join Tryz.amB afZ b off c ws (⟨#[32]⟩ :ByteArray) w (fun j x ay=>by have:=aG j x ay 0 _ rfl;simpa using this) aE (by omega) ga (by omega)
 rw [e] at h
 exact h
theorem PL (A:Option Addr) (c:Nat) (ws:List ByteArray) (bd:ws.length≤1000) (cb:∀x ∈ ws,x.size≤1000) (w:World) (bN:aJ 1 hj w A ws) (ga:ws.length≤c):
 Calls Tryz.prog 171 #[.slice A ws c] w fun e ah=>e= .returned (.string (lk ws))∧Below w w ah:=by
 by_cases h0:ws.length= 0
 ·have e:lk ws= (⟨#[110,111,110,101]⟩ :ByteArray):=by rw [lk,if_pos h0]
  rw [e,h0]
  clear bN ga cb
  go_in
  go_wp2
  go_ret
  exact⟨rfl,Below.refl _ _⟩
 ·have eI:=J (alY A c ws h0 bd cb w bN ga)
  have h1:((ws.length:Int) == 0)= false:=by rw [beq_eq_false_iff_ne];omega
  clear bN ga cb
  go_in
  go_wp2_with fail
  refine (eI.out).mono ?_
  exact Rj
theorem acO {p:Prop} (h:p:=by
 clear g0
 go_wp2_with (at_builtin;refine kJ rfl _ _ 57 rfl w.heap.size 9 i0 _ 1 16 Tryz.underlying57 hi dk dx dC rfl (by decide) hj jM BU _ ((xs.take k).map eT) rfl (gW.alloc _) ⟨bg.heap.size,0,none⟩ 1 (eT x) rfl (aJ.one _ _) (by have:=lb.out;unfold maxLen;omega) (by have:=lb.out;omega) (by have:=aP.size;simp;omega) ?_;intro v4 cf eX fs kC)
 have gu:Below w w cf:=(aP.alloc aP.size _).grown fs (by have:=aP.size;simp;omega) (fun q bf=>(gW.lt q bf).1)
 go_roundw
 case rel=>exact⟨k + 1,by omega,by go_num,by rw [cg.out];exact eX,gu⟩
 case measure=>simp [intOf];omega):p:=h
theorem abI {p:Prop} (h:p:=by
 clear kB
 go_wp2_with fail
 refine eI.out.mono ?_
 rintro e bg ⟨rfl,bE⟩
 go_wp2
 go_ret
 exact⟨by rw [pe,Iz.out];rfl,ai aE bE⟩):p:=h
theorem Pu (A:Option Addr) (c:Nat) (xs:List Int) (bd:xs.length≤100) (cb:∀x ∈ xs,-999999≤x∧x≤999999) (w:World) (bN:aJ 1 bU w A xs) (bP:lf w):
 Calls Tryz.prog 173 #[.slice A xs c] w fun e ah=>e= .returned (.string (pe xs))∧Below w w ah:=by
 obtain⟨i0,hi,dk,dx,dC⟩:=info_parts xN
 have bj:=J cb;clear cb;have hL:=aX.made (f:=hj) (sz:=1) w (B:=w.heap.size) (Nat.le_refl _) 9
 obtain⟨ys,xL⟩ :∃ys,xs.map eT= ys:=⟨_,rfl⟩
 have Mc:=J (show ys.length≤1000 by rw [← xL,List.length_map];omega);have Md:=J (show∀s ∈ ys,s.size≤1000 from fun s aZ=>by rw [← xL] at aZ;obtain⟨x,ay,rfl⟩:=List.mem_map.1 aZ;have:=bj.out x ay;have:=xY x (by omega);omega);have Iz:=J xL;clear xL
 go_in
 go_wp2
 go_loopw [3,9] (fun y i wr=>∃k:Nat,k≤xs.length∧i= .int .i64 k∧aX w 9 1 hj wr y ((xs.take k).map eT)∧Below w w wr) (fun _ i _=>xs.length - (intOf i).toNat)
 case atStart=>exact⟨0,Nat.zero_le _,rfl,hL,ca _ _⟩
 case round=>
  obtain⟨k,ax,rfl,bR,aE⟩:=hrel
  have qO:((xs.take k).map eT).length= k:=by rw [List.length_map,List.length_take];omega
  have dp:=J bR;have aeE:=J qO;clear bR qO
  by_cases bn:k < xs.length
  ·obtain⟨ey,gN,x,rfl,dU,ay,bq⟩:=bN.at_ aE bn
   have WA:=bj.out x (List.mem_of_getElem? ay);have cy:=bq 0 _ rfl
   simp only [Nat.add_zero] at cy
   have g0:=cy (aB.self _)
   simp only [aB.self] at g0
   simp only [Nat.mul_one] at g0
   have qP:(xs.take (k + 1)).map eT= (xs.take k).map eT ++ [eT x]:=by rw [List.take_add_one,ay];simp
   have cg:=J qP;clear ay bq qP cy
   go_wp2_with fail
   refine (AN x (by omega) (by omega) _ (bP.U aE)).mono ?_
   rintro e bg ⟨rfl,bE⟩
   have aP:=ai aE bE;have gW:=dp.out.bh bE;have lb:=aeE
   exact acO
  ·obtain rfl:k= xs.length:=by omega
   have kB:=dp.out
   rw [List.take_length,Iz.out] at kB
   obtain⟨Y,gV,rfl,_,_,_⟩:=kB.form jM
   have eI:=J (PL Y gV ys Mc.out Md.out wr (kB.fk (hf:=jM)) (rP kB jM))
   exact abI
theorem Pr (A:Option Addr) (c:Nat) (ws:List ByteArray) (bd:ws.length≤1000) (cb:∀x ∈ ws,x.size≤1000) (w:World) (bN:aJ 1 hj w A ws):
 Calls Tryz.prog 189 #[.slice A ws c] w fun e ah=>e= .returned (.string (lk ws))∧Below w w ah:=by
 by_cases h0:ws.length= 0
 ·have e:lk ws= (⟨#[110,111,110,101]⟩ :ByteArray):=by rw [lk,if_pos h0]
  rw [e,h0]
  clear bN cb
  go_in
  go_wp2
  go_ret
  exact⟨rfl,Below.refl _ _⟩
 ·have e:lk ws= od ws (ws.length - 1):=by rw [lk,if_neg h0]
  rw [e]
  have bj:=J (fun k=>Po cb k);have afn:=J cb
  have h1:((ws.length:Int) == 0)= false:=by rw [beq_eq_false_iff_ne];omega
  obtain⟨b,off,dj,rfl,dU,kW,bq⟩:=bN.at_ (Below.refl _ _) (k:=0) (by omega)
  have g0:=bq 0 _ rfl (aB.self _)
  simp only [Nat.zero_mul,Nat.add_zero,aB.self] at g0
  have iM:od ws 0= dj:=by rw [od,kW];rfl
  have BM:=J iM;have qq:=J bN;clear kW bq cb e iM bN
  go_in
  go_wp2
  clear g0
  go_loopw [3,4] (fun s i wr=>∃k:Nat,k < ws.length∧i= .int .i64 (k + 1:Nat)∧s= .string (od ws k)∧wr= w) (fun _ i _=>ws.length - (intOf i).toNat)
  case atStart=>exact⟨0,by omega,rfl,by rw [BM.out],rfl⟩
  case round=>
   obtain⟨k,ax,rfl,rfl,rfl⟩:=hrel
   have atS:(od ws k).size≤1001000:=by
    have h1:=bj.out k;have h2:(k + 1) * (1000 + 1)≤1000 * 1001:=Nat.mul_le_mul_right _ (by omega)
    omega
   by_cases bn:k + 1 < ws.length
   ·obtain⟨du,PK,x,e2,uC,ay,bq⟩:=qq.out.at_ (Below.refl _ _) bn
    cases e2
    have f0:=bq 0 _ rfl (aB.self _)
    simp only [Nat.mul_one,Nat.add_zero,aB.self] at f0
    have GM:=afn.out x (List.mem_of_getElem? ay);have cg:=J (Xe ay);clear ay bq
    generalize od ws k= s at *
    go_wp2
    go_roundw
    case rel=>exact⟨k + 1,by omega,by go_num,by rw [cg.out],by first | rfl | trivial⟩
    case measure=>simp [intOf];omega
   ·obtain rfl:k= ws.length - 1:=by omega
    have za:¬((ws.length - 1 + 1:Nat):Int) < (ws.length:Int):=by omega
    go_wp2
    go_ret
    exact⟨rfl,Below.refl _ _⟩
theorem Xq (A:Option Addr) (c:Nat) (xs:List Int) (bd:xs.length≤100) (cb:∀x ∈ xs,-999999≤x∧x≤999999) (w:World) (bN:aJ 1 bU w A xs):
 Calls Tryz.prog 191 #[.slice A xs c] w fun e ah=>e= .returned (.string (pe xs))∧Below w w ah:=by
 obtain⟨i0,hi,dk,dx,dC⟩:=info_parts xN
 have bj:=J cb;clear cb;have hL:=aX.made (f:=hj) (sz:=1) w (B:=w.heap.size) (Nat.le_refl _) 9
 obtain⟨ys,xL⟩ :∃ys,xs.map eT= ys:=⟨_,rfl⟩
 have Mc:=J (show ys.length≤1000 by rw [← xL,List.length_map];omega);have Md:=J (show∀s ∈ ys,s.size≤1000 from fun s aZ=>by rw [← xL] at aZ;obtain⟨x,ay,rfl⟩:=List.mem_map.1 aZ;have:=bj.out x ay;have:=xY x (by omega);omega);have Iz:=J xL;clear xL
 go_in
 go_wp2
 go_loopw [3,4] (fun y i wr=>∃k:Nat,k≤xs.length∧i= .int .i64 k∧aX w 9 1 hj wr y ((xs.take k).map eT)∧Below w w wr) (fun _ i _=>xs.length - (intOf i).toNat)
 case atStart=>exact⟨0,Nat.zero_le _,rfl,hL,ca _ _⟩
 case round=>
  obtain⟨k,ax,rfl,bR,aE⟩:=hrel
  have qO:((xs.take k).map eT).length= k:=by rw [List.length_map,List.length_take];omega
  have dp:=J bR;have lb:=J qO;clear bR qO
  by_cases bn:k < xs.length
  ·obtain⟨ey,gN,x,rfl,dU,ay,bq⟩:=bN.at_ aE bn
   have WA:=bj.out x (List.mem_of_getElem? ay);have cy:=bq 0 _ rfl
   simp only [Nat.add_zero] at cy
   have g0:=cy (aB.self _)
   simp only [aB.self] at g0
   simp only [Nat.mul_one] at g0
   have qP:(xs.take (k + 1)).map eT= (xs.take k).map eT ++ [eT x]:=by rw [List.take_add_one,ay];simp
   have cg:=J qP;clear ay bq qP cy
   go_wp2_with fail
   refine (qT x (by omega) (by omega) _).mono ?_
   rintro e bg ⟨rfl,bE⟩
   have aP:=ai aE bE;have gW:=dp.out.bh bE
   exact acO
  ·obtain rfl:k= xs.length:=by omega
   have kB:=dp.out
   rw [List.take_length,Iz.out] at kB
   obtain⟨Y,gV,rfl,_,_,_⟩:=kB.form jM
   have eI:=J (Pr Y gV ys Mc.out Md.out wr (kB.fk (hf:=jM)))
   exact abI
end Go.Proofs.YtlaaemmmbodaaaaGreatDoor
