/- Parts. -/
import Derived.Test.YtlaaemmmbodaaaaGreatDoorEx8
import Derived.Laws.IdiomStrings
import Derived.Outline
import Derived.Laws.Bits64
import Derived.Laws.Bits64b
import Derived.Lib.IndexBytes
import Derived.Lib.Split
import Derived.Lib.Join
set_option maxHeartbeats 16000000
set_option maxRecDepth 100000
set_option linter.unnecessarySimpa false
set_option linter.unusedSimpArgs false
set_option linter.unusedVariables false
namespace Go.G9
open Go.RowKit
theorem aq.drew {w:World} {g:Nat} {t:TypeId} {cs:Array Value} (h:aq w g t cs):aq w.drew g t cs:=h
end Go.G9
namespace Go.Proofs.YtlaaemmmbodaaaaGreatDoor
open Go.RowKit Go.G9
theorem Pf (l:cr) (c:UInt8) (aS:l.length≤1048576) (w:World):Calls Tryz.prog 67 #[.string (bs l),.int .u8 (c.toNat:Int)] w fun e ag=>∃g m n,e= .returned (.slice (some ⟨g,0,none⟩) m n)∧1≤m∧m≤l.length + 1∧((2≤m)↔ji c l= true)∧ag.cell? ⟨g,0,none⟩ =some (.string (bs (cP c l)))∧w.heap.size≤g∧g < ag.heap.size∧Below w.heap.size w ag:=by
 refine (amk l c aS w).mono ?_
 rintro e ag ⟨A,n,ys,rfl,bP,bN,aB⟩
 have aO:0 < ys.length:=by have:=bN.ne;omega
 obtain⟨g,cap,cur,aw,bm,dQ,nj,kq,iy⟩:=bP.block aO
 injection aw with h1 h2 h3
 subst h1 h3
 obtain⟨b,off,aR,bl,aE⟩:=bP.dE (hf:=DP) aO
 injection aR with aR
 injection aR with hA1 hA2
 subst hA1 hA2
 refine⟨g,ys.length,n,rfl,by omega,bN.len,bN.two,?_,bm,bl,aB⟩
 exact aE 0 _ bN.first 0 _ rfl
theorem ZN {a b:ByteArray} (h:a≠b):(a.toList == b.toList)= false:=beq_eq_false_iff_ne.2 (by rw [ByteArray.toList_eq,ByteArray.toList_eq];exact fun e=>h (yI e))
theorem ZM {a b:ByteArray} (h:a= b):(a.toList == b.toList)= true:=beq_iff_eq.2 (by rw [h])
theorem amo (l t rest ask rep:cr) (k:Nat) (az:k < 100) (UG:(eQ (k:Int)).size≤10)
  (qB:Hid (∀W,Calls Tryz.prog 67 #[.string (bs l),.int .u8 35] W fun e ag=>∃g m n,e= .returned (.slice (some ⟨g,0,none⟩) m n)∧1≤m∧m≤l.length + 1∧((2≤m)↔ji 35 l= true)∧ag.cell? ⟨g,0,none⟩ =some (.string (bs t))∧W.heap.size≤g∧g < ag.heap.size∧Below W W ag)) (Sg:Hid (∀W,Calls Tryz.prog 67 #[.string (bs rest),.int .u8 64] W fun e ag=>∃g m n,e= .returned (.slice (some ⟨g,0,none⟩) m n)∧1≤m∧m≤rest.length + 1∧((2≤m)↔ji 64 rest= true)∧ag.cell? ⟨g,0,none⟩ =some (.string (bs ask))∧W.heap.size≤g∧g < ag.heap.size∧Below W W ag))
  (heq:((((bs t).extract 0 ((eQ (k:Int)).size + 1))).toList == (eQ (k:Int) ++ (⟨#[32]⟩ :ByteArray)).toList)= true) (wh:(eQ (k:Int)).size + 1≤(bs t).size) (Wf:(bs t).size≤1048576)
  (iZ:(bs t).extract ((eQ (k:Int)).size + 1) (bs t).size= bs rest) (AL:(bs rest).extract ((bs ask).size + 1) (bs rest).size= bs rep)
  (aB:(((bs ask).size:Int) == ((bs rest).size:Int))= false) (wi:(bs ask).size + 1≤(bs rest).size) (Gt:(bs rest).size≤1048576) (Gu:(bs rep).size≤1048576) (Gv:(bs l).size≤1048576)
  (v:Bool) (aw:(kK ask rep && decide (fp k ask rep= l))= v) (w:World):
  Calls Tryz.prog 153 #[.string (bs l),k] w fun e ag=>e= .returned (.tuple #[.agg #[.string (bs ask),.string (bs rep)],v])∧Below w w ag:=by
 have Vy:∀W,Calls Tryz.prog 60 #[.agg #[.string (bs ask),.string (bs rep)]] W fun e ag=>e= .returned (.bool (kK ask rep))∧Below W W ag:=fun W=>AX (bs ask) (bs rep) (by omega) (by omega) _ rfl W
 have hO:=J Vy;clear Vy
 cases gf:kK ask rep
 ·have pI:v= false:=by rw [← aw,gf];rfl
  subst pI
  rw [gf] at hO
  clear gf aw
  go_in
  go_wp2_with fail
  refine (rl k (by omega) (by omega) _).mono ?_
  rintro e bd ⟨rfl,bz⟩
  have au:=be w bz;have I:Below w w bd:=au;have ad:aq bd (w.heap.size) 56 #[.string ⟨#[]⟩,.string ⟨#[]⟩]:=aq.below (by repeat (first | exact aq.new _ _ _ | exact aq.fu _ _ _ _ | exact aq.fx _ _ _ _ _ | exact aq.gb _ _ _ _ _ _ | refine aq.alloc ?_ _)) bz (by simp <;> omega);have z0:=(ad.cell 0).trans (show _= some (.string ⟨#[]⟩) from rfl);have bw:=(ad.cell 1).trans (show _= some (.string ⟨#[]⟩) from rfl)
  go_wp2_with fail
  refine (qB.out _).mono ?_
  rintro e aM ⟨g,m2,n,rfl,AE,De,tx,aE,cw,hL,aN⟩
  have ao:=be bd aN;replace I:=ah I ao;replace ad:=ad.to ao;replace z0:=(ad.cell 0).trans (show _= some (.string ⟨#[]⟩) from rfl);replace bw:=(ad.cell 1).trans (show _= some (.string ⟨#[]⟩) from rfl)
  go_wp2_with fail
  refine (Sg.out _).mono ?_
  rintro e bB ⟨bo,m3,oz,rfl,VL,VM,VN,rI,uT,Vv,bG⟩
  have aK:=be aM bG;replace I:=ah I aK;replace ad:=ad.to aK;replace z0:=(ad.cell 0).trans (show _= some (.string ⟨#[]⟩) from rfl);replace bw:=(ad.cell 1).trans (show _= some (.string ⟨#[]⟩) from rfl)
  go_wp2
  have eO:aq (bB.alloc (.cells #[.string (bs ask),.string (bs rep)] 56)) bB.heap.size 56 #[.string (bs ask),.string (bs rep)]:=aq.new _ _ _;have FX:=ad.alloc (.cells #[.string (bs ask),.string (bs rep)] 56)
  haveI:Nonempty (cN fun V=>aq V bB.heap.size 56 #[.string (bs ask),.string (bs rep)]):=⟨⟨_,eO⟩⟩
  have gC:=aq.IU (fun K:cN (fun V=>aq V bB.heap.size 56 #[.string (bs ask),.string (bs rep)])=>K.holds)
  refine oU (fun V=>aq V bB.heap.size 56 #[.string (bs ask),.string (bs rep)]) [([0,1],2),([3,4,5,7,8],6),([9,10],11)] [12] (by kernel_rfl) (by kernel_rfl) eO.drew ?_
  refine ha fun K gj=>?_
  change wpQuiet _ _ _ _ (_ ::_ ::[]) _
  repeat (go_big_quiet_step (fail))
  refine wpQuiet_nil ?_
  change wpList _ _ _ (_ ::[]) _ _
  go_wp2_with fail
  refine (hO.out _).mono ?_
  rintro e ca ⟨rfl,cU⟩
  have xt:=eO.drew.below cU eO.lt;have za:=FX.drew.below cU FX.lt
  go_wp2
  refine hn xt (gj _ _ ?_)
  refine ha fun gz dZ=>?_
  change wpQuiet _ _ _ _ (_ ::_ ::_ ::_ ::_ ::[]) _
  repeat (go_big_quiet_step (fail))
  refine wpQuiet_nil ?_
  change wpList _ _ _ (_ ::[]) _ _
  go_wp2
  refine hn xt (dZ _ _ ?_)
  refine ha fun EC uH=>?_
  change wpQuiet _ _ _ _ (_ ::_ ::[]) _
  repeat (go_big_quiet_step (fail))
  refine wpQuiet_nil ?_
  change wpList _ _ _ (_ ::[]) _ _
  clear z0 bw
  obtain⟨z0,bw⟩:=za.mI
  obtain⟨kQ,ym⟩:=za.xq
  go_wp2
  refine hn ((xt.vY (by have:=bG.size;have:=ad.lt;simp;omega) _).vY (by have:=bG.size;have:=ad.lt;simp;omega) _) (uH _ _ ?_)
  refine mA ?_
  change wpQuiet _ _ _ _ (_ ::[]) _
  repeat (go_big_quiet_step (fail))
  refine wpQuiet_nil ?_
  have ai:=((za.gH 0 (.string (bs ask))).gH 1 (.string (bs rep)));have fT:=ai.mI
  go_wp2
  have gP:Below w w ca:=ah (ah I (bZ _ _)).drew cU
  refine bodyPost_ret (v:= .tuple #[.agg #[.string (bs ask),.string (bs rep)],false]) (by simp [results,Tryz.results153,go_sem,fT]) rfl ?_
  exact⟨rfl,(gP.setCell (Nat.le_refl _) _).setCell (Nat.le_refl _) _⟩
 ·have jq:∀W,Calls Tryz.prog 91 #[k,.agg #[.string (bs ask),.string (bs rep)]] W fun e ag=>e= .returned (.string (bs (fp k ask rep ++ [10])))∧Below W W ag:=fun W=>Xc k (by omega) (by omega) ask rep gf W
  have CU:((bs (fp k ask rep ++ [10])).toList == (bs l ++ (⟨#[10]⟩ :ByteArray)).toList)= v:=by
   rw [← aw,gf,Bool.true_and]
   by_cases he:fp k ask rep= l
   ·rw [decide_eq_true he,he];exact ZM (pb l [10]).symm
   ·rw [decide_eq_false he]
    refine ZN fun h=>he ?_
    rw [show (⟨#[10]⟩ :ByteArray)= bs [10] from rfl,pb] at h
    exact List.append_cancel_right (SV h)
  rw [gf] at hO
  have cH:=J jq;clear jq gf aw
  go_in
  go_wp2_with fail
  refine (rl k (by omega) (by omega) _).mono ?_
  rintro e bd ⟨rfl,bz⟩
  have au:=be w bz;have I:Below w w bd:=au;have ad:aq bd (w.heap.size) 56 #[.string ⟨#[]⟩,.string ⟨#[]⟩]:=aq.below (by repeat (first | exact aq.new _ _ _ | exact aq.fu _ _ _ _ | exact aq.fx _ _ _ _ _ | exact aq.gb _ _ _ _ _ _ | refine aq.alloc ?_ _)) bz (by simp <;> omega);have z0:=(ad.cell 0).trans (show _= some (.string ⟨#[]⟩) from rfl);have bw:=(ad.cell 1).trans (show _= some (.string ⟨#[]⟩) from rfl)
  go_wp2_with fail
  refine (qB.out _).mono ?_
  rintro e aM ⟨g,m2,n,rfl,AE,De,tx,aE,cw,hL,aN⟩
  have ao:=be bd aN;replace I:=ah I ao;replace ad:=ad.to ao;replace z0:=(ad.cell 0).trans (show _= some (.string ⟨#[]⟩) from rfl);replace bw:=(ad.cell 1).trans (show _= some (.string ⟨#[]⟩) from rfl)
  go_wp2_with fail
  refine (Sg.out _).mono ?_
  rintro e bB ⟨bo,m3,oz,rfl,VL,VM,VN,rI,uT,Vv,bG⟩
  have aK:=be aM bG;replace I:=ah I aK;replace ad:=ad.to aK;replace z0:=(ad.cell 0).trans (show _= some (.string ⟨#[]⟩) from rfl);replace bw:=(ad.cell 1).trans (show _= some (.string ⟨#[]⟩) from rfl)
  go_wp2
  have eO:aq (bB.alloc (.cells #[.string (bs ask),.string (bs rep)] 56)) bB.heap.size 56 #[.string (bs ask),.string (bs rep)]:=aq.new _ _ _;have FX:=ad.alloc (.cells #[.string (bs ask),.string (bs rep)] 56)
  haveI:Nonempty (cN fun V=>aq V bB.heap.size 56 #[.string (bs ask),.string (bs rep)]):=⟨⟨_,eO⟩⟩
  have gC:=aq.IU (fun K:cN (fun V=>aq V bB.heap.size 56 #[.string (bs ask),.string (bs rep)])=>K.holds)
  refine oU (fun V=>aq V bB.heap.size 56 #[.string (bs ask),.string (bs rep)]) [([0,1],2),([3,4,5,7,8],6),([9,10],11)] [12] (by kernel_rfl) (by kernel_rfl) eO.drew ?_
  refine ha fun K gj=>?_
  change wpQuiet _ _ _ _ (_ ::_ ::[]) _
  repeat (go_big_quiet_step (fail))
  refine wpQuiet_nil ?_
  change wpList _ _ _ (_ ::[]) _ _
  go_wp2_with fail
  refine (hO.out _).mono ?_
  rintro e ca ⟨rfl,cU⟩
  have xt:=eO.drew.below cU eO.lt;have za:=FX.drew.below cU FX.lt
  go_wp2
  refine hn xt (gj _ _ ?_)
  refine ha fun gz dZ=>?_
  change wpQuiet _ _ _ _ (_ ::_ ::_ ::_ ::_ ::[]) _
  repeat (go_big_quiet_step (fail))
  refine wpQuiet_nil ?_
  change wpList _ _ _ (_ ::[]) _ _
  go_wp2_with fail
  refine (cH.out _).mono ?_
  rintro e dc ⟨rfl,ei⟩
  have Uu:=xt.to ei;have cD:=za.to ei
  go_wp2
  refine hn Uu (dZ _ _ ?_)
  refine ha fun EC uH=>?_
  change wpQuiet _ _ _ _ (_ ::_ ::[]) _
  repeat (go_big_quiet_step (fail))
  refine wpQuiet_nil ?_
  change wpList _ _ _ (_ ::[]) _ _
  clear z0 bw
  obtain⟨z0,bw⟩:=cD.mI
  obtain⟨kQ,ym⟩:=cD.xq
  go_wp2
  refine hn ((Uu.vY (by have:=bG.size;have:=ad.lt;simp;omega) _).vY (by have:=bG.size;have:=ad.lt;simp;omega) _) (uH _ _ ?_)
  refine mA ?_
  change wpQuiet _ _ _ _ (_ ::[]) _
  repeat (go_big_quiet_step (fail))
  refine wpQuiet_nil ?_
  have ai:=((cD.gH 0 (.string (bs ask))).gH 1 (.string (bs rep)));have fT:=ai.mI
  go_wp2
  have lW:Below w w dc:=ah (ah (ah I (bZ _ _)).drew cU) ei
  exact hg ⟨rfl,(lW.setCell (Nat.le_refl _) _).setCell (Nat.le_refl _) _⟩ (by simp [results,Tryz.results153,go_sem,fT])
open Go.RowKit Go.G9
def Cj (l:cr) (k:Nat) (e:Ending):Prop:=∃(c r:ByteArray) (b:Bool),e= .returned (.tuple #[.agg #[.string c,.string r],.bool b])∧b= (sP l k).isSome∧∀x,sP l k= some x→c= bs x.1∧r= bs x.2
theorem Cj.no {l:cr} {k:Nat} (c r:ByteArray) (h:vo l k= none):Cj l k (.returned (.tuple #[.agg #[c,r],false])):=by
 rw [YG] at h
 exact⟨c,r,false,rfl,by rw [h];rfl,fun x ay=>by rw [h] at ay;cases ay⟩
theorem adA {p:Prop} (h:p:=by
 go_in
 go_wp2_with fail
 refine (rl k (by omega) (by omega) _).mono ?_
 rintro e bd ⟨rfl,bz⟩
 have au:=be w bz;have I:Below w w bd:=au;have ad:aq bd (w.heap.size) 56 #[.string ⟨#[]⟩,.string ⟨#[]⟩]:=aq.below (by repeat (first | exact aq.new _ _ _ | exact aq.fu _ _ _ _ | exact aq.fx _ _ _ _ _ | exact aq.gb _ _ _ _ _ _ | refine aq.alloc ?_ _)) bz (by simp <;> omega);have z0:=(ad.cell 0).trans (show _= some (.string ⟨#[]⟩) from rfl);have bw:=(ad.cell 1).trans (show _= some (.string ⟨#[]⟩) from rfl)
 go_wp2_with fail
 refine (qB.out _).mono ?_
 rintro e aM ⟨g,m2,n,rfl,AE,De,tx,aE,cw,hL,aN⟩
 have ao:=be bd aN;replace I:=ah I ao;replace ad:=ad.to ao;replace z0:=(ad.cell 0).trans (show _= some (.string ⟨#[]⟩) from rfl);replace bw:=(ad.cell 1).trans (show _= some (.string ⟨#[]⟩) from rfl);have nL:=ad.xq;have ai:=((ad.gH 0 (.string ⟨#[]⟩)).gH 1 (.string ⟨#[]⟩));have fT:=ai.mI
 go_wp2
 refine bodyPost_ret (v:= .tuple #[.agg #[.string ⟨#[]⟩,.string ⟨#[]⟩],false]) (by simp [results,Tryz.results153,go_sem,fT]) rfl ?_
 exact⟨Cj.no _ _ wZ.out,(by repeat (first | exact I | exact Below.refl _ _ | refine Below.alloc ?_ (by first | exact Nat.le_refl _ | (have eZ:=I.size;simp;omega) | (simp <;> omega)) _ | refine Below.setCell ?_ (by first | exact Nat.le_refl _ | (simp <;> omega)) _))⟩):p:=h
theorem amn (l:cr) (aS:l.length≤1048576) (k:Nat) (az:k < 100) (w:World):Calls Tryz.prog 153 #[.string (bs l),k] w fun e ag=>Cj l k e∧Below w w ag:=by
 have g1:=Co 35 l;have eL:=xY (k:Int) (by omega);have UG:=eL;have mr:(eQ (k:Int)).size= (rQ (k:Int)).length:=fY _;have UU:eQ (k:Int) ++⟨#[32]⟩ =bs (rQ (k:Int) ++ [32]):=pb _ [32]
 generalize cE:cP 35 l= t at g1
 have ou:∀W,Calls Tryz.prog 67 #[.string (bs l),.int .u8 35] W fun e ag=>∃g m n,e= .returned (.slice (some ⟨g,0,none⟩) m n)∧1≤m∧m≤l.length + 1∧((2≤m)↔ji 35 l= true)∧ag.cell? ⟨g,0,none⟩ =some (.string (bs t))∧W.heap.size≤g∧g < ag.heap.size∧Below W W ag:=fun W=>by
  have:=Pf l 35 aS W
  rwa [cE] at this
 have qB:=J ou;clear ou;have OR:=fY t
 generalize hm:(eQ (k:Int)).size= m at eL mr
 have ot:vo l k= if t.take (m + 1)= rQ k ++ [32] then (if (cP 64 (t.drop (m + 1))).length= (t.drop (m + 1)).length then none
   else if kK (cP 64 (t.drop (m + 1))) ((t.drop (m + 1)).drop ((cP 64 (t.drop (m + 1))).length + 1)) && decide (fp k (cP 64 (t.drop (m + 1))) ((t.drop (m + 1)).drop ((cP 64 (t.drop (m + 1))).length + 1))= l) then some (cP 64 (t.drop (m + 1)),(t.drop (m + 1)).drop ((cP 64 (t.drop (m + 1))).length + 1)) else none) else none:=by
  unfold vo
  simp only [cE,List.length_append,List.length_cons,List.length_nil,← mr]
 have RG:=J UU;have sY:=J ot;clear UU ot cE
 by_cases ld:t.length < m + 1
 ·have hM:vo l k= none:=by
   rw [sY.out,if_neg]
   intro h
   have:=congrArg List.length h
   simp at this;omega
  have wZ:=J hM;clear hM
  exact adA
 by_cases ql:t.take (m + 1)= rQ k ++ [32]
 case neg=>
  have hM:vo l k= none:=by rw [sY.out,if_neg ql]
  have wZ:=J hM;clear hM
  have eP:((((bs t).extract 0 ((eQ (k:Int)).size + 1))).toList == (eQ (k:Int) ++ (⟨#[32]⟩ :ByteArray)).toList)= false:=ZN (by
   rw [RG.out,vU,hm]
   intro h
   exact ql (by simpa using SV h))
  have wh:(eQ (k:Int)).size + 1≤(bs t).size:=by omega
  clear ql mr hm OR
  exact adA
 case pos=>
  have heq:((((bs t).extract 0 ((eQ (k:Int)).size + 1))).toList == (eQ (k:Int) ++ (⟨#[32]⟩ :ByteArray)).toList)= true:=ZM (by
   rw [RG.out,vU,hm]
   congr 1)
  have wh:(eQ (k:Int)).size + 1≤(bs t).size:=by omega
  have iZ:(bs t).extract ((eQ (k:Int)).size + 1) (bs t).size= bs (t.drop (m + 1)):=by rw [vU,hm,fY,List.take_of_length_le (by simp)]
  have ot:=sY.out
  rw [if_pos ql] at ot
  have oP:(t.drop (m + 1)).length≤t.length:=by simp
  generalize bu:t.drop (m + 1)= rest at iZ ot oP
  have OK:∀W,Calls Tryz.prog 67 #[.string ((bs t).extract ((eQ (k:Int)).size + 1) (bs t).size),.int .u8 64] W fun e ag=>∃g m n,e= .returned (.slice (some ⟨g,0,none⟩) m n)∧1≤m∧m≤rest.length + 1∧((2≤m)↔ji 64 rest= true)∧ag.cell? ⟨g,0,none⟩ =some (.string (bs (cP 64 rest)))∧W.heap.size≤g∧g < ag.heap.size∧Below W W ag:=fun W=>by
   rw [iZ];exact Pf rest 64 (by omega) W
  have ahM:=Co 64 rest
  generalize aiC:cP 64 rest= ask at ot OK ahM
  have zm:((bs t).extract ((eQ (k:Int)).size + 1) (bs t).size).size= rest.length:=by rw [iZ];exact fY _
  have has:=fY ask;have Sf:=J OK;have aeI:=J iZ;have bJ:=J bu;clear OK iZ bu aiC ql
  have Wf:(bs t).size≤1048576:=by omega
  have Jx:rest.length≤1048576:=by omega
  by_cases Jz:ask.length= rest.length
  ·rw [if_pos Jz] at ot
   have wZ:=J ot;clear ot
   have eZ:(bs t).size - ((eQ (k:Int)).size + 1)= rest.length:=by
    have e:=congrArg List.length bJ.out
    simp only [List.length_drop] at e
    omega
   have aB:(((bs ask).size:Int) == (((bs t).size - ((eQ (k:Int)).size + 1):Nat):Int))= true:=by rw [eZ,has,Jz];exact beq_iff_eq.2 rfl
   clear eZ Jz;clear zm has mr hm OR
   go_in
   go_wp2_with fail
   refine (rl k (by omega) (by omega) _).mono ?_
   rintro e bd ⟨rfl,bz⟩
   have au:=be w bz;have I:Below w w bd:=au;have ad:aq bd (w.heap.size) 56 #[.string ⟨#[]⟩,.string ⟨#[]⟩]:=aq.below (by repeat (first | exact aq.new _ _ _ | exact aq.fu _ _ _ _ | exact aq.fx _ _ _ _ _ | exact aq.gb _ _ _ _ _ _ | refine aq.alloc ?_ _)) bz (by simp <;> omega);have z0:=(ad.cell 0).trans (show _= some (.string ⟨#[]⟩) from rfl);have bw:=(ad.cell 1).trans (show _= some (.string ⟨#[]⟩) from rfl)
   go_wp2_with fail
   refine (qB.out _).mono ?_
   rintro e aM ⟨g,m2,n,rfl,AE,De,tx,aE,cw,hL,aN⟩
   have ao:=be bd aN;replace I:=ah I ao;replace ad:=ad.to ao;replace z0:=(ad.cell 0).trans (show _= some (.string ⟨#[]⟩) from rfl);replace bw:=(ad.cell 1).trans (show _= some (.string ⟨#[]⟩) from rfl)
   go_wp2_with fail
   refine (Sf.out _).mono ?_
   rintro e bB ⟨bo,m3,oz,rfl,VL,VM,VN,rI,uT,Vv,bG⟩
   have aK:=be aM bG;replace I:=ah I aK;replace ad:=ad.to aK;replace z0:=(ad.cell 0).trans (show _= some (.string ⟨#[]⟩) from rfl);replace bw:=(ad.cell 1).trans (show _= some (.string ⟨#[]⟩) from rfl);have nL:=ad.xq;have ai:=((ad.gH 0 (.string ⟨#[]⟩)).gH 1 (.string ⟨#[]⟩));have fT:=ai.mI
   go_wp2
   refine bodyPost_ret (v:= .tuple #[.agg #[.string ⟨#[]⟩,.string ⟨#[]⟩],false]) (by simp [results,Tryz.results153,go_sem,fT]) rfl ?_
   exact⟨Cj.no _ _ wZ.out,(by repeat (first | exact I | exact Below.refl _ _ | refine Below.alloc ?_ (by first | exact Nat.le_refl _ | (have eZ:=I.size;simp;omega) | (simp <;> omega)) _ | refine Below.setCell ?_ (by first | exact Nat.le_refl _ | (simp <;> omega)) _))⟩
  ·rw [if_neg Jz] at ot
   have bl:ask.length + 1≤rest.length:=by omega
   have ajP:(rest.drop (ask.length + 1)).length≤rest.length:=by simp
   have iZ:=aeI.out
   have AL:(bs rest).extract ((bs ask).size + 1) (bs rest).size= bs (rest.drop (ask.length + 1)):=by rw [vU,fY,fY,List.take_of_length_le (by simp)]
   have ajX:∀W,Calls Tryz.prog 67 #[.string (bs rest),.int .u8 64] W fun e ag=>∃g m n,e= .returned (.slice (some ⟨g,0,none⟩) m n)∧1≤m∧m≤rest.length + 1∧((2≤m)↔ji 64 rest= true)∧ag.cell? ⟨g,0,none⟩ =some (.string (bs ask))∧W.heap.size≤g∧g < ag.heap.size∧Below W W ag:=fun W=>by
    have:=Sf.out W
    rwa [iZ] at this
   generalize aO:rest.drop (ask.length + 1)= rep at ot AL ajP
   have aB:(((bs ask).size:Int) == ((bs rest).size:Int))= false:=by rw [fY,fY];exact beq_eq_false_iff_ne.2 (by omega)
   have wi:(bs ask).size + 1≤(bs rest).size:=by rw [fY,fY];omega
   have Gt:(bs rest).size≤1048576:=by rw [fY];omega
   have Gu:(bs rep).size≤1048576:=by rw [fY];omega
   have Gv:(bs l).size≤1048576:=by rw [fY];omega
   refine (amo l t rest ask rep k az UG qB (J ajX) heq wh Wf iZ AL aB wi Gt Gu Gv _ rfl w).mono ?_
   rintro e ag ⟨rfl,eW⟩
   rw [YG] at ot
   refine⟨⟨_,_,_,rfl,?_,?_⟩,eW⟩
   ·rw [ot];split <;> rename_i h <;> simp [h]
   ·intro x ay
    rw [ot] at ay
    split at ay
    ·injection ay with ay;subst ay;exact⟨rfl,rfl⟩
    ·cases ay
open Go.RowKit Go.G9
def yP (xs:List (cr×cr×Nat)):Nat:=(0 ::xs.map (·.2.2)).getLastD 0
def jJ (l:cr):Nat:=yP (hW l)
theorem TQ (xs:List (cr×cr×Nat)) (x:cr×cr×Nat):yP (xs ++ [x])= x.2.2:=by
 have e:(0 ::(xs ++ [x]).map (·.2.2))= (0 ::xs.map (·.2.2)) ++ [x.2.2]:=by simp
 unfold yP
 rw [e,List.getLastD_eq_getLast?,List.getLast?_append]
 rfl
theorem PN {f k:Nat} {l:cr} {a:Nat} (h:jc l k= none):iI f k l a= []:=by
 cases f with
 | zero=>rfl
 | succ f=>rw [iI,h]
theorem Yu (k:Nat):jc [] k= none:=by unfold jc;simp [ji]
theorem aoc (l:cr) {k:Nat} (h:60≤k):jc l k= none:=by unfold jc;rw [if_neg];simp;omega
theorem abo {p:Prop} (h:p:=by
 have fG:=J bO;clear bO lY
 go_wp2
 go_ret2
 obtain⟨A,c,h1,h2⟩:=RT.out fG.out
 exact⟨A,c,congrArg Ending.returned h1,h2⟩):p:=h
theorem aaO {p:Prop} (h:p:=by
 go_wp2
 go_ret2
 obtain⟨A,cM,h1,h2⟩:=RT.out fG.out
 exact⟨A,cM,congrArg Ending.returned h1,((h2.1.later bz).later aN).alloc _,(ah (ah h2.2 bz) aN).alloc (by omega) _⟩):p:=h
theorem Xd (l:cr) (aS:l.length≤1048576) (w:World):Calls Tryz.prog 87 #[.string (bs l)] w fun e ag=>∃A c,e= .returned (.tuple #[.slice A (iJ l).length c,.int .i64 (jJ l:Nat)])∧
  aV w 56 2 fX.cells ag (.slice A (iJ l).length c) (iJ l)∧Below w w ag:=by
 obtain⟨i0,hi,dy,dC,dN⟩:=info_parts WJ
 have eZ:=fY l
 have xG:(bs l).size≤1048576:=by omega
 have eA:=J eZ;clear eZ;have pd:=aV.built (B:=w.heap.size) (f:=fX.cells) w ([]:List fX) 56 (Nat.le_refl _) (by simp) fX.Cr
 simp only [List.flatMap_nil] at pd
 have ff:=J pd;clear pd
 go_in
 go_wp2
 go_loopw [4,5] (fun v4 v5 wr=>∃(xs:List (cr×cr×Nat)) (a:Nat),hW l= xs ++ iI (61 - xs.length) xs.length (l.drop a) a∧xs.length≤60∧a≤(bs l).size∧a= yP xs∧v5= .int .i64 a∧
   aV w 56 2 fX.cells wr v4 (xs.map qH)∧Below w w wr) (fun _ v5 _=>1048577 - (intOf v5).toNat)
 case atStart=>
  exact⟨[],0,rfl,by simp,Nat.zero_le _,rfl,rfl,by simpa using ff.out,bZ _ _⟩
 case round=>
  obtain⟨xs,a,lY,GQ,cT,UT,rfl,bP,aB⟩:=hrel
  obtain⟨aA,c4,rfl,ni,_,_⟩:=bP.form fX.Cr
  simp only [List.length_map] at bP ni ⊢
  have ajv:a≤l.length:=by rw [← eA.out];exact cT
  have z0:=aB.size;have wq:=J bP.lt;have dq:=J bP;have Ic:=J UT;clear bP UT
  have jM:jc (l.drop a) xs.length= none→hW l= xs:=fun h=>by rw [lY,PN h,List.append_nil]
  have Ig:=J jM;clear jM
  have uQ:hW l= xs→∃A c,Value.tuple #[.slice aA xs c4,a]= .tuple #[.slice A (iJ l).length c,.int .i64 (jJ l:Nat)]∧aV w 56 2 fX.cells wr (.slice A (iJ l).length c) (iJ l)∧Below w w wr:=fun h=>by
   have e1:iJ l= xs.map qH:=by rw [iJ,h]
   have e2:jJ l= a:=by rw [jJ,h,Ic.out]
   rw [e1,e2,List.length_map]
   exact⟨aA,c4,rfl,dq.out,aB⟩
  have RT:=J uQ;clear uQ
  by_cases bl:a < (bs l).size
  case neg=>
   have bO:hW l= xs:=Ig.out (by
    have:l.drop a= []:=List.drop_eq_nil_of_le (by rw [← eA.out];omega)
    rw [this];exact Yu _)
   exact abo
  by_cases az:xs.length < 60
  case neg=>
   have bO:hW l= xs:=Ig.out (aoc _ (by omega))
   exact abo
  have ay:(bs l).extract a (bs l).size= bs (l.drop a):=by rw [vU,fY,List.take_of_length_le (by simp)]
  have ou:∀W,Calls Tryz.prog 67 #[.string ((bs l).extract a (bs l).size),.int .u8 10] W fun e ag=>∃g m n,e= .returned (.slice (some ⟨g,0,none⟩) m n)∧1≤m∧m≤(l.drop a).length + 1∧((2≤m)↔ji 10 (l.drop a)= true)∧ag.cell? ⟨g,0,none⟩ =some (.string (bs (cP 10 (l.drop a))))∧W.heap.size≤g∧g < ag.heap.size∧Below W W ag:=fun W=>by
   rw [ay];exact Pf (l.drop a) 10 (by simp;omega) W
  have atj:=Co 10 (l.drop a)
  have oP:(l.drop a).length≤l.length:=by simp
  have ot:∀W,Calls Tryz.prog 153 #[.string (bs (cP 10 (l.drop a))),xs.length] W fun e ag=>Cj (cP 10 (l.drop a)) xs.length e∧Below W W ag:=fun W=>amn _ (by omega) xs.length (by omega) W
  have qB:=J ou;have sY:=J ot;have Ef:=J lY;clear ou ot ay lY
  have wk:jc (l.drop a) xs.length= if ji 10 (l.drop a) then (sP (cP 10 (l.drop a)) xs.length).map fun x=>(x.1,x.2,(cP 10 (l.drop a)).length + 1) else none:=by
   unfold jc;simp [az]
  have gm:=J wk;clear wk
  have Gk:(bs (cP 10 (l.drop a))).size≤1048576:=by rw [fY];omega
  cases dQ:ji 10 (l.drop a)
  ·have bO:hW l= xs:=Ig.out (by rw [gm.out,dQ];rfl)
   have fG:=J bO;have mF:=J dQ;clear bO dQ
   go_wp2_with fail
   refine (qB.out _).mono ?_
   rintro e bd ⟨g,m,n,rfl,AE,De,tx,aE,cw,hL,bz⟩
   have bw:=bz.size
   have VO:m < 2:=by
    have:=mF.out
    rcases Nat.lt_or_ge m 2 with h | h
    ·exact h
    ·rw [tx.1 h] at this;cases this
   clear tx
   go_wp2_with fail
   refine (sY.out _).mono ?_
   rintro e aM ⟨⟨c,r,b,rfl,iX,nE⟩,aN⟩
   have z2:=aN.size
   have jD:aM.cell? ⟨g,0,none⟩ =some (.string (bs (cP 10 (l.drop a)))):=by rw [aN.cell hL];exact aE
   exact aaO
  ·cases AK:sP (cP 10 (l.drop a)) xs.length with
   | none=>
    have bO:hW l= xs:=Ig.out (by rw [gm.out,dQ,AK];rfl);have fG:=J bO;have mF:=J dQ;have Ip:=J AK;clear bO dQ AK
    go_wp2_with fail
    refine (qB.out _).mono ?_
    rintro e bd ⟨g,m,n,rfl,AE,De,tx,aE,cw,hL,bz⟩
    have bw:=bz.size;have VO:2≤m:=tx.2 mF.out;clear tx
    go_wp2_with fail
    refine (sY.out _).mono ?_
    rintro e aM ⟨⟨c,r,b,rfl,iX,nE⟩,aN⟩
    have z2:=aN.size
    have jD:aM.cell? ⟨g,0,none⟩ =some (.string (bs (cP 10 (l.drop a)))):=by rw [aN.cell hL];exact aE
    have NK:b= false:=by rw [iX,Ip.out];rfl
    subst NK
    clear nE iX
    exact aaO
   | some x=>
    obtain⟨oM,sQ⟩:=x
    have Gy:hW l= (xs ++ [(oM,sQ,a + ((cP 10 (l.drop a)).length + 1))]) ++ iI (61 - (xs.length + 1)) (xs.length + 1) (l.drop (a + ((cP 10 (l.drop a)).length + 1))) (a + ((cP 10 (l.drop a)).length + 1)):=by
     rw [Ef.out,show 61 - xs.length= (61 - (xs.length + 1)) + 1 from by omega,iI,gm.out,dQ,AK]
     simp [List.drop_drop]
    have hle:a + ((cP 10 (l.drop a)).length + 1)≤(bs l).size:=by
     have h1:jc (l.drop a) xs.length= some (oM,sQ,(cP 10 (l.drop a)).length + 1):=by rw [gm.out,dQ,AK];rfl
     have:=DG h1
     rw [List.length_drop] at this
     rw [eA.out];omega
    have gu:=J Gy;have mF:=J dQ;have Ip:=J AK;clear Gy dQ AK
    go_wp2_with fail
    refine (qB.out _).mono ?_
    rintro e bd ⟨g,m,n,rfl,AE,De,tx,aE,cw,hL,bz⟩
    have bw:=bz.size;have VO:2≤m:=tx.2 mF.out;clear tx
    go_wp2_with fail
    refine (sY.out _).mono ?_
    rintro e aM ⟨⟨c,r,b,rfl,iX,nE⟩,aN⟩
    have z2:=aN.size
    have jD:aM.cell? ⟨g,0,none⟩ =some (.string (bs (cP 10 (l.drop a)))):=by rw [aN.cell hL];exact aE
    have NK:b= true:=by rw [iX,Ip.out];rfl
    obtain⟨rfl,rfl⟩:=nE _ Ip.out
    subst NK
    clear nE iX;have gW:=J ((((dq.out.later bz).later aN).alloc (.cells #[.string (bs oM),.string (bs sQ)] 56)).alloc (.cells #[.string (bs oM),.string (bs sQ)] 56))
    have ks:aH 2 fX.cells ((aM.alloc (.cells #[.string (bs oM),.string (bs sQ)] 56)).alloc (.cells #[.string (bs oM),.string (bs sQ)] 56)) (some ⟨aM.heap.size + 1,0,none⟩) [qH (oM,sQ,a + ((cP 10 (l.drop a)).length + 1))]:=by
     have h:=aH.one (sz:=2) (f:=fX.cells) (w:=aM.alloc (.cells #[.string (bs oM),.string (bs sQ)] 56)) (qH (oM,sQ,a + ((cP 10 (l.drop a)).length + 1))) 56
     rw [show (aM.alloc (.cells #[.string (bs oM),.string (bs sQ)] 56)).heap.size= aM.heap.size + 1 from by simp] at h
     exact h
    have sh:=J ks;clear ks
    go_upto_region 8 with (at_builtin;refine lA rfl _ _ 52 rfl w.heap.size 56 i0 _ 2 32 Tryz.underlying52 hi dy dC dN rfl (by decide) fX.cells fX.Cr fX.cells_one (.slice aA xs c4) (xs.map qH) rfl gW.out ⟨aM.heap.size + 1,0,none⟩ 1 (qH (oM,sQ,a + ((cP 10 (l.drop a)).length + 1))) rfl sh.out (by unfold maxLen;simp;omega) (by simp;omega) (by simp;omega) ?_;intro mf ca fj gx lX)
    have z4:=gx.size
    simp only [Vr] at z4
    have ni:ca.cell? ⟨g,0,none⟩ =some (.string (bs (cP 10 (l.drop a)))):=(World.cell?_of_block (gx.block g (by simp;omega) (fun e=>by have:=(wq.out g e.symm).2;omega))).trans (((xf aM _ _).cell (p:=⟨g,0,none⟩) (by show g < _;omega)).trans jD);have gP:Below w w ca:=(((ah (ah aB bz) aN).alloc (by omega) _).alloc (by simp;omega) _).grown gx (by simp;omega) (fun k az=>(wq.out k az).1)
    go_wp2
    go_roundw
    case rel=>
     refine⟨xs ++ [(oM,sQ,a + ((cP 10 (l.drop a)).length + 1))],a + ((cP 10 (l.drop a)).length + 1),by rw [List.length_append];exact gu.out,by simp;omega,hle,(TQ xs (oM,sQ,a + ((cP 10 (l.drop a)).length + 1))).symm,by rw [fY];congr 1,?_,gP⟩
     rw [List.map_append];exact fj
    case measure=>simp [intOf];omega
open Go.RowKit Go.G9
def np (d p:cr) (n:Int):Bool:=decide (d.length + p.length≤30000) && (((jJ (d ++ p):Nat):Int) == ((d.length:Int) + (p.length:Int)) && ((jJ d:Nat):Int) == (d.length:Int) && ((iJ (d ++ p)).length:Int) == n)
theorem Hb (d p:cr) (n:Int) (bO:d.length≤1048576) (aO:p.length≤1048576) (v:Bool) (aw:np d p n= v) (w:World):Calls Tryz.prog 44 #[.agg #[.string (bs d),.string (bs p),n]] w fun e ag=>e= .returned v∧Below w w ag:=by
 subst aw
 have Dg:=fY d;have ou:=fY p
 have s1:(bs d).size≤1048576:=by omega
 have s2:(bs p).size≤1048576:=by omega
 by_cases cE:d.length + p.length≤30000
 case neg=>
  have aw:np d p n= false:=by unfold np;rw [decide_eq_false cE];rfl
  have pT:30000 < (bs d).size + (bs p).size:=by omega
  have bC:=J aw;clear aw Dg ou cE;have eb:=boxed w #[.string (bs d),.string (bs p),n] 31 0 (.string (bs d)) rfl;have dx:=boxed w #[.string (bs d),.string (bs p),n] 31 1 (.string (bs p)) rfl;have dz:=boxed w #[.string (bs d),.string (bs p),n] 31 2 (.int .i64 n) rfl
  go_in
  go_wp2
  go_ret
  exact⟨by rw [bC.out];rfl,bZ _ _⟩
 have pT:(bs d).size + (bs p).size≤30000:=by omega
 have aw:np d p n= (((jJ (d ++ p):Nat):Int) == (((bs d).size:Int) + ((bs p).size:Int)) && ((jJ d:Nat):Int) == ((bs d).size:Int) && ((iJ (d ++ p)).length:Int) == n):=by
  unfold np;rw [decide_eq_true cE,Dg,ou,Bool.true_and]
 have hop:∀W,Calls Tryz.prog 87 #[.string (bs d ++ bs p)] W fun e ag=>∃A c,e= .returned (.tuple #[.slice A (iJ (d ++ p)).length c,.int .i64 (jJ (d ++ p):Nat)])∧
  aV W 56 2 fX.cells ag (.slice A (iJ (d ++ p)).length c) (iJ (d ++ p))∧Below W W ag:=fun W=>by
  rw [pb];exact Xd (d ++ p) (by simp;omega) W
 have VW:∀W,Calls Tryz.prog 87 #[.string (bs d)] W fun e ag=>∃A c,e= .returned (.tuple #[.slice A (iJ d).length c,.int .i64 (jJ d:Nat)])∧
  aV W 56 2 fX.cells ag (.slice A (iJ d).length c) (iJ d)∧Below W W ag:=fun W=>Xd d bO W
 have vP:=J hop;have aeB:=J VW;have bC:=J aw;clear hop VW aw Dg ou cE
 cases h1:(((jJ (d ++ p):Nat):Int) == (((bs d).size:Int) + ((bs p).size:Int)))
 all_goals cases h2:(((jJ d:Nat):Int) == ((bs d).size:Int))
 all_goals cases h3:(((iJ (d ++ p)).length:Int) == n)
 all_goals have nN:=bC.out
 all_goals rw [h1,h2,h3] at nN
 all_goals have cb:=J nN
 all_goals clear bC nN
 all_goals
  go_in
  go_wp2_with fail
  refine (vP.out _).mono ?_
  rintro e bd ⟨ar,c1,rfl,gW,bz⟩
  have au:=be w bz;have I:Below w w bd:=au;have jq:aq bd (w.heap.size) 31 #[.string (bs d),.string (bs p),n]:=aq.below (by repeat (first | exact aq.new _ _ _ | exact aq.fu _ _ _ _ | exact aq.fx _ _ _ _ _ | exact aq.gb _ _ _ _ _ _ | refine aq.alloc ?_ _)) bz (by simp <;> omega)
  obtain⟨eb,dx,dz⟩:=jq.cC
  go_wp2_with fail
  refine (aeB.out _).mono ?_
  rintro e aM ⟨aj,c2,rfl,pc,aN⟩
  have ao:=be bd aN;replace I:=ah I ao;replace jq:=jq.to ao;clear eb dx dz
  obtain⟨eb,dx,dz⟩:=jq.cC
  have aat:=jq.lt
  go_wp2
  go_ret
  exact⟨by rw [cb.out];rfl,(ah I av)⟩
open Go.RowKit Go.G9
theorem aiA (c:UInt8) (a b:cr):ji c (a ++ b)= (ji c a || ji c b):=by unfold ji;simp
theorem afG {c:UInt8} {a b:cr} (h:ji c a= true):cP c (a ++ b)= cP c a:=by
 have:=Qm (CS.1 h);have aY:=SR (c:=c) a
 conv=>lhs;rw [this,List.append_assoc,List.cons_append]
 exact Fl aY
theorem aod (d p:cr) (k:Nat):(∀c r n,jc (d ++ p) k= some (c,r,n)→n≤d.length→jc d k= some (c,r,n))∧(∀c r n,jc (d ++ p) k= some (c,r,n)→d.length < n→jc d k= none)∧(jc (d ++ p) k= none→jc d k= none):=by
 cases bO:ji 10 d
 ·have h0:jc d k= none:=by unfold jc;rw [bO];rfl
  refine⟨fun c r n h aY=>?_,fun _ _ _ _ _=>h0,fun _=>h0⟩
  obtain⟨h1,h2,rfl,h4⟩:=Hu h
  exfalso
  have h5:d= (fp k c r ++ 10 ::gn 10 (d ++ p)).take d.length:=by rw [← h4];simp
  refine Gb.1 bO ?_
  rw [h5,List.take_append,List.mem_append]
  refine .inr ?_
  rw [show d.length - (fp k c r).length= (d.length - ((fp k c r).length + 1)) + 1 from by omega]
  simp
 ·have e:jc (d ++ p) k= jc d k:=by
   unfold jc
   rw [aiA,bO,afG bO];simp
  refine⟨fun c r n h _=>by rw [← e];exact h,fun c r n h aY=>?_,fun h=>by rw [← e];exact h⟩
  rw [e] at h
  have:=DG h
  omega
theorem YB:∀(f k:Nat) (d p:cr) (a:Nat),iI f k d a= (iI f k (d ++ p) a).takeWhile (fun x=>decide (x.2.2≤a + d.length))
 | 0,_,_,_,_=>rfl
 | f + 1,k,d,p,a=>by
  obtain⟨h1,h2,h3⟩:=aod d p k
  cases h:jc (d ++ p) k with
  | none=>rw [iI,iI,h3 h,h];rfl
  | some x=>
   obtain⟨c,r,n⟩:=x
   by_cases aY:n≤d.length
   ·rw [iI,iI,h1 c r n h aY,h]
    simp only [List.takeWhile_cons]
    rw [decide_eq_true (by omega:a + n≤a + d.length)]
    simp only [if_true]
    rw [YB f (k + 1) (d.drop n) p (a + n),List.drop_append_of_le_length aY]
    have:a + n + (d.drop n).length= a + d.length:=by simp;omega
    rw [this]
   ·rw [iI,iI,h2 c r n h (by omega),h]
    simp only [List.takeWhile_cons]
    rw [decide_eq_false (by omega)]
    simp
theorem YA:∀(f k:Nat) (l:cr) (a:Nat),(a ::(iI f k l a).map (·.2.2)).Pairwise (· < ·)
 | 0,_,_,_=>by simp [iI]
 | f + 1,k,l,a=>by
  rw [iI]
  cases h:jc l k with
  | none=>simp
  | some x=>
   obtain⟨c,r,n⟩:=x
   have aY:=DG h;have eM:=YA f (k + 1) (l.drop n) (a + n)
   simp only [List.map_cons]
   rw [List.pairwise_cons]
   refine⟨fun y hy=>?_,eM⟩
   rw [List.mem_cons] at hy
   rcases hy with rfl | hy
   ·omega
   ·have:=(List.pairwise_cons.1 eM).1 y hy
    omega
theorem Yy:∀(f k:Nat) (l:cr) (a:Nat),∀x ∈ iI f k l a,x.2.2≤a + 372 * f∧x.2.2≤a + l.length
 | 0,_,_,_=>by simp [iI]
 | f + 1,k,l,a=>by
  rw [iI]
  cases h:jc l k with
  | none=>simp
  | some x=>
   obtain⟨c,r,n⟩:=x
   have aY:=DG h
   intro y hy
   rw [List.mem_cons] at hy
   rcases hy with rfl | hy
   ·simp only;omega
   ·have:=Yy f (k + 1) (l.drop n) (a + n) y hy
    rw [List.length_drop] at this
    omega
theorem Xk:∀(fU:List Nat) (a m:Nat),(a ::fU).Pairwise (· < ·)→a≤m→((a ::fU.takeWhile (fun x=>decide (x≤m))).getLastD 0= m↔m ∈ a ::fU)
 | [],a,m,_,_=>by simp [eq_comm]
 | z ::fU,a,m,h,cT=>by
  have h1:=(List.pairwise_cons.1 h).1;have h2:=(List.pairwise_cons.1 h).2;have atr:=h1 z (by simp)
  by_cases cc:z≤m
  ·have eM:=Xk fU z m h2 cc
   rw [List.takeWhile_cons,decide_eq_true cc]
   simp only [if_true]
   have e:(a ::z ::fU.takeWhile (fun x=>decide (x≤m))).getLastD 0= (z ::fU.takeWhile (fun x=>decide (x≤m))).getLastD 0:=by
    simp [List.getLastD_eq_getLast?,List.getLast?_cons]
   rw [e,eM]
   constructor
   ·exact fun h=>List.mem_cons_of_mem _ h
   ·intro h
    rcases List.mem_cons.1 h with rfl | h
    ·omega
    ·exact h
  ·rw [List.takeWhile_cons,decide_eq_false cc]
   simp only [Bool.false_eq_true,if_false]
   have h3:=(List.pairwise_cons.1 h2).1
   constructor
   ·intro h;simp at h;simp [h]
   ·intro h
    rcases List.mem_cons.1 h with rfl | h
    ·simp
    ·rcases List.mem_cons.1 h with rfl | h
     ·omega
     ·have:=h3 _ h;omega
theorem ZS (m:Nat):∀xs:List (cr×cr×Nat),(xs.takeWhile (fun x=>decide (x.2.2≤m))).map (·.2.2)= (xs.map (·.2.2)).takeWhile (fun x=>decide (x≤m))
 | []=>rfl
 | x ::xs=>by
  rw [List.map_cons,List.takeWhile_cons,List.takeWhile_cons]
  split
  ·rw [List.map_cons,ZS m xs]
  ·rfl
theorem agw (d p:cr):jJ d= d.length↔d.length ∈ 0 ::(hW (d ++ p)).map (·.2.2):=by
 have h:=YB 61 0 d p 0
 rw [Nat.zero_add] at h
 unfold jJ yP hW
 rw [h,ZS]
 exact Xk _ 0 d.length (YA 61 0 (d ++ p) 0) (Nat.zero_le _)
theorem TP (l:cr):jJ l≤22692∧jJ l≤l.length:=by
 have hm:jJ l ∈ 0 ::(hW l).map (·.2.2):=by
  unfold jJ yP
  rw [List.getLastD_eq_getLast?,List.getLast?_eq_some_getLast (by simp)]
  exact List.getLast_mem _
 rcases List.mem_cons.1 hm with h | h
 ·omega
 ·obtain⟨x,ay,e⟩:=List.mem_map.1 h
  have:=Yy 61 0 l 0 x ay
  omega
open Go.RowKit Go.G9
theorem agx (l:cr):(oe l)[(hW l).length]? =some ((jJ l:Nat):Int):=by
 unfold jJ yP oe
 rw [List.getLastD_eq_getLast?,List.getLast?_eq_getElem?]
 have e:(0:Int) ::(hW l).map xd= (0 ::(hW l).map (·.2.2)).map (fun (x:Nat)=>(x:Int)):=by
  simp [xd]
 rw [e,List.getElem?_map]
 have:(0 ::(hW l).map (·.2.2)).length - 1= (hW l).length:=by simp
 rw [this]
 have h:(0 ::(hW l).map (·.2.2))[(hW l).length]? =some ((0 ::(hW l).map (·.2.2))[(hW l).length]'(by simp)):=List.getElem?_eq_getElem _
 rw [h];rfl
theorem Kt (l:cr):(iJ l).length= (hW l).length:=by simp [iJ]
theorem agy (l:cr):(oe l).length= (hW l).length + 1:=by simp [oe]
theorem agz (l:cr) (m:Nat):(m:Int) ∈ oe l↔m ∈ 0 ::(hW l).map (·.2.2):=by
 have e:oe l= (0 ::(hW l).map (·.2.2)).map (fun (x:Nat)=>(x:Int)):=by simp [oe,xd]
 rw [e,List.mem_map]
 constructor
 ·rintro ⟨x,ay,h⟩
  have:x= m:=by omega
  subst this;exact ay
 ·exact fun h=>⟨m,h,rfl⟩
theorem amQ (d p:cr) (n:Int):np d p n= (((jJ (d ++ p):Nat):Int) == ((d.length:Int) + (p.length:Int)) && ((iJ (d ++ p)).length:Int) == n && decide ((d.length:Int) ∈ oe (d ++ p))):=by
 have h1:=agw d p;have h2:=TP (d ++ p)
 have h3:decide ((d.length:Int) ∈ oe (d ++ p))= (((jJ d:Nat):Int) == (d.length:Int)):=by
  rw [Bool.eq_iff_iff,decide_eq_true_iff,beq_iff_eq,agz,← h1]
  omega
 unfold np
 rw [h3]
 by_cases cE:d.length + p.length≤30000
 ·rw [decide_eq_true cE,Bool.true_and,Bool.and_assoc,Bool.and_assoc,Bool.and_comm (((jJ d:Nat):Int) == (d.length:Int))]
 ·rw [decide_eq_false cE]
  have:(((jJ (d ++ p):Nat):Int) == ((d.length:Int) + (p.length:Int)))= false:=by
   rw [beq_eq_false_iff_ne];omega
  rw [this];rfl
theorem GY (d p:cr) (n:Int) (cE:d.length + p.length≤1048576) (v:Bool) (aw:np d p n= v) (w:World) (dt:ll w):Calls Tryz.prog 64 #[.agg #[.string (bs d),.string (bs p),n]] w fun e ag=>e= .returned v∧Below w w ag:=by
 subst aw
 have Dg:=fY d;have ou:=fY p
 have pT:(bs d).size + (bs p).size≤1048576:=by omega
 have aw:np d p n= (((jJ (d ++ p):Nat):Int) == (((bs d).size:Int) + ((bs p).size:Int)) && ((iJ (d ++ p)).length:Int) == n && decide (((bs d).size:Int) ∈ oe (d ++ p))):=by
  rw [amQ,Dg,ou]
 have ot:∀W,ll W→Calls Tryz.prog 65 #[.string (bs d ++ bs p)] W fun e ag=>∃A c hc cM,e= .returned (.tuple #[.slice A (iJ (d ++ p)).length c,.slice hc (oe (d ++ p)).length cM])∧
  aV W 56 2 fX.cells ag (.slice A (iJ (d ++ p)).length c) (iJ (d ++ p))∧aV W 3 1 bR ag (.slice hc (oe (d ++ p)).length cM) (oe (d ++ p))∧Below W W ag:=fun W bI=>by
  rw [pb];exact aoC (d ++ p) (by simp;omega) W bI
 have jo:=Kt (d ++ p);have mQ:=agy (d ++ p);have qq:=Yw (d ++ p);have zg:=agx (d ++ p)
 rw [← jo] at zg
 have sI:(oe (d ++ p)).length= (iJ (d ++ p)).length + 1:=by omega
 have amw:(iJ (d ++ p)).length≤60:=by omega
 generalize bL:iJ (d ++ p)= R at *
 generalize eO:oe (d ++ p)= E at *
 generalize eL:((jJ (d ++ p):Nat):Int)= N at *
 have sY:=J ot;have bC:=J aw;have cH:=J zg;clear ot aw zg Dg ou jo mQ qq bL eO eL
 have aud:R.length < E.length:=by omega
 have aue:E.length≤61:=by omega
 have UL:=dt.below (bZ w (.cells #[.string (bs d),.string (bs p),n] 31));have bX:=J UL;clear UL
 have aiK:∀dx dz,(N == (((bs d).size:Int) + ((bs p).size:Int)))= dx→((R.length:Int) == n)= dz→Calls Tryz.prog 64 #[.agg #[.string (bs d),.string (bs p),n]] w fun e ag=>e= .returned (.bool (dx && dz && decide (((bs d).size:Int) ∈ E)))∧Below w w ag:=by
  intro dx dz h1 h2
  have Uk:(N != (((bs d).size:Int) + ((bs p).size:Int)))= !dx:=by rw [bne,h1]
  have Ul:((R.length:Int) != n)= !dz:=by rw [bne,h2]
  rcases aB:dx && dz with _ | _
  ·have adV:=J aB;clear aB
   cases dx
   all_goals cases dz
   case true.true=>cases adV.out
   all_goals simp only [Bool.not_true,Bool.not_false] at Uk Ul
   all_goals
    go_in
    go_wp2_with fail
    refine (sY.out _ bX.out).mono ?_
    rintro e bd ⟨ar,c1,aj,c2,rfl,bP,eO,bz⟩
    have au:=be w bz;have I:Below w w bd:=au;have jq:aq bd (w.heap.size) 31 #[.string (bs d),.string (bs p),n]:=aq.below (by repeat (first | exact aq.new _ _ _ | exact aq.fu _ _ _ _ | exact aq.fx _ _ _ _ _ | exact aq.gb _ _ _ _ _ _ | refine aq.alloc ?_ _)) bz (by simp <;> omega)
    obtain⟨eb,dx,dz⟩:=jq.cC
    obtain⟨g2,Py,rfl,zj,bk⟩:=eO.dE (hf:=fZ) (by omega)
    have f0:=bk _ _ cH.out 0 _ rfl
    simp only [Nat.mul_one,Nat.add_zero] at f0
    have aat:=jq.lt
    go_wp2
    go_ret
    exact⟨rfl,(ah I av)⟩
  ·obtain⟨rfl,rfl⟩ :dx= true∧dz= true:=by simpa using aB
   clear aB
   simp only [Bool.not_true] at Uk Ul
   go_in
   go_wp2_with fail
   refine (sY.out _ bX.out).mono ?_
   rintro e bd ⟨ar,c1,aj,c2,rfl,bP,eO,bz⟩
   have au:=be w bz;have I:Below w w bd:=au;have jq:aq bd (w.heap.size) 31 #[.string (bs d),.string (bs p),n]:=aq.below (by repeat (first | exact aq.new _ _ _ | exact aq.fu _ _ _ _ | exact aq.fx _ _ _ _ _ | exact aq.gb _ _ _ _ _ _ | refine aq.alloc ?_ _)) bz (by simp <;> omega)
   obtain⟨eb,dx,dz⟩:=jq.cC
   obtain⟨g2,Py,rfl,zj,bk⟩:=eO.dE (hf:=fZ) (by omega)
   have f0:=bk _ _ cH.out 0 _ rfl
   simp only [Nat.mul_one,Nat.add_zero] at f0
   have aat:=jq.lt
   go_wp2
   go_loop [35] (fun i=>∃k:Nat,k≤E.length∧i= .int .i64 k∧∀j,j < k→E[j]?≠some ((bs d).size:Int)) (fun i=>E.length - (intOf i).toNat)
   case atStart=>exact⟨0,Nat.zero_le _,rfl,fun j bH=>absurd bH (Nat.not_lt_zero _)⟩
   case round=>
    obtain⟨k,az,rfl,hM⟩:=hrel
    have wZ:=J hM;clear hM
    by_cases bl:k < E.length
    ·have ay:E[k]? =some E[k]:=List.getElem?_eq_getElem bl
     generalize E[k]= x at ay
     have f1:=bk k x ay 0 _ rfl
     simp only [Nat.mul_one,Nat.add_zero] at f1
     have cb:=J ay;clear ay
     cases he:(x == ((bs d).size:Int))
     ·have cX:=J he
      go_wp2
      go_round
      case rel=>
       refine⟨k + 1,by omega,by go_num,fun j bH=>?_⟩
       rcases Nat.lt_or_ge j k with h | h
       ·exact wZ.out j h
       ·obtain rfl:j= k:=by omega
        rw [cb.out]
        intro h2;injection h2 with h2
        exact beq_eq_false_iff_ne.1 cX.out h2
      case measure=>simp [intOf];omega
     ·have cX:=J he
      go_wp2
      go_ret
      have hm:((bs d).size:Int) ∈ E:=List.mem_of_getElem? (by rw [cb.out,beq_iff_eq.1 cX.out])
      exact⟨by rw [decide_eq_true hm];rfl,(ah I av)⟩
    ·obtain rfl:k= E.length:=by omega
     go_wp2
     go_ret
     have hm:¬((bs d).size:Int) ∈ E:=fun h=>by
      obtain⟨j,bH⟩:=List.getElem?_of_mem h
      exact wZ.out j (List.getElem?_eq_some_iff.1 bH).1 bH
     exact⟨by rw [decide_eq_false hm];rfl,(ah I av)⟩
 have:=aiK _ _ rfl rfl
 rw [bC.out];exact this
open Go.RowKit Go.G9
def PV (l:cr):cr:=if l.length≤30000 then l.take (jJ l) else []
def PW (l:cr):Nat:=if l.length≤30000 then (iJ l).length else 0
def YI (l:cr):Nat:=if l.length≤30000 then jJ l else 0
def Pk (d p:cr) (n:Int):List fX:=if np d p n then iJ (d ++ p) else []
open Go.RowKit Go.G9
def qG (d p:cr) (n:Int) (c r:cr):Bool:=np d p n && kK c r
def tn (d p:cr) (n:Int) (c r:cr):cr:=if qG d p n c r && !(n == 60) then p ++ (fp n c r ++ [10]) else p
def uA (d p:cr) (n:Int) (c r:cr):Int:=if qG d p n c r && !(n == 60) then n + 1 else n
def tm (d p:cr) (n:Int) (c r:cr):Int:=if qG d p n c r then (if n == 60 then 2 else 0) else 1
def oc (d p:cr) (n:Int) (c r:cr):Value:= .tuple #[.agg #[.string (bs d),.string (bs (tn d p n c r)),.int .i64 (uA d p n c r)],.int .i64 (tm d p n c r)]
theorem JT {d p:cr} {n:Int} (h:np d p n= true):0≤n∧n≤60∧d.length + p.length≤30000:=by
 unfold np at h
 simp only [Bool.and_eq_true,decide_eq_true_eq,beq_iff_eq] at h
 have h1:=Kt (d ++ p);have h2:=Yw (d ++ p)
 omega
theorem agu {n:Int} {c r:cr} {w0:World} (h:∀W,ll W→Calls Tryz.prog 105 #[n,.agg #[.string (bs c),.string (bs r)]] W fun e ag=>e= .returned (.string (bs (fp n c r ++ [10])))∧Below W W ag) (dt:ll w0) (K:ax w0.heap.size w0):
 Calls Tryz.prog 105 #[n,.agg #[.string (bs c),.string (bs r)]] K.world fun e ag=>e= .returned (.string (bs (fp n c r ++ [10])))∧Below K.world.heap.size K.world ag:=h _ (dt.below K.below)
theorem acC {p:Prop} (h:p:=by
 have HV:=ad.og;have ai:=(((ad.gH 0 (.string (bs d))).gH 1 (.string (bs p))).gH 2 (.int .i64 n));have fT:=ai.cC
 go_wp2
 refine bodyPost_ret (v:= .tuple #[.agg #[.string (bs d),.string (bs p),n],(1:Int)]) (by simp [results,Tryz.results57,go_sem,fT]) rfl ?_
 exact⟨by rw [bC.out],(by repeat (first | exact I | exact Below.refl _ _ | refine Below.alloc ?_ (by first | exact Nat.le_refl _ | (have eZ:=I.size;simp;omega) | (simp <;> omega)) _ | refine Below.setCell ?_ (by first | exact Nat.le_refl _ | (simp <;> omega)) _))⟩):p:=h
theorem Lc {p:Prop} (h:p:=by
 exact⟨by rw [bC.out],(by repeat (first | exact I | exact Below.refl _ _ | refine Below.alloc ?_ (by first | exact Nat.le_refl _ | (have eZ:=I.size;simp;omega) | (simp <;> omega)) _ | refine Below.setCell ?_ (by first | exact Nat.le_refl _ | (simp <;> omega)) _))⟩):p:=h
theorem aku (d p:cr) (n:Int) (cE:d.length + p.length≤1048576) (c r:cr) (aE:c.length≤1048576) (bu:r.length≤1048576) (w:World) (dt:ll w):Calls Tryz.prog 57 #[.agg #[.string (bs d),.string (bs p),n],.agg #[.string (bs c),.string (bs r)]] w fun e ag=>e= .returned (oc d p n c r)∧Below w w ag:=by
 have s1:(bs c).size≤1048576:=by rw [fY];exact aE
 have s2:(bs r).size≤1048576:=by rw [fY];exact bu
 have bX:=J (dt.below (Ms w (.cells #[.string (bs d),.string (bs p),n] 31) (.cells #[.string (bs c),.string (bs r)] 56) (.cells #[.string ⟨#[]⟩,.string ⟨#[]⟩,(0:Int)] 31)))
 cases aS:np d p n
 ·have aw:oc d p n c r= .tuple #[.agg #[.string (bs d),.string (bs p),n],(1:Int)]:=by simp [oc,tn,uA,tm,qG,aS]
  have bC:=J aw;have cH:=J aS;clear aw aS
  go_in
  go_wp2_with fail
  refine (GY d p n cE _ cH.out _ bX.out).mono ?_
  rintro e bd ⟨rfl,bz⟩
  have au:=be w bz;have I:Below w w bd:=au;have bm:aq bd (w.heap.size) 31 #[.string (bs d),.string (bs p),n]:=aq.below (by repeat (first | exact aq.new _ _ _ | exact aq.fu _ _ _ _ | exact aq.fx _ _ _ _ _ | exact aq.gb _ _ _ _ _ _ | refine aq.alloc ?_ _)) bz (by simp <;> omega);have fy:=bm.cC;have ad:aq bd ((w.heap.size + 1 + 1)) 31 #[.string ⟨#[]⟩,.string ⟨#[]⟩,(0:Int)]:=aq.below (by repeat (first | exact aq.new _ _ _ | exact aq.fu _ _ _ _ | exact aq.fx _ _ _ _ _ | exact aq.gb _ _ _ _ _ _ | refine aq.alloc ?_ _)) bz (by simp <;> omega)
  obtain⟨z0,bw,z2⟩:=ad.cC
  exact acC
 ·obtain⟨n0,n1,DJ⟩:=JT aS
  have apb:(bs d).size + (bs p).size≤30000:=by rw [fY,fY];exact DJ
  cases cY:kK c r
  ·have aw:oc d p n c r= .tuple #[.agg #[.string (bs d),.string (bs p),n],(1:Int)]:=by simp [oc,tn,uA,tm,qG,aS,cY]
   have bC:=J aw;have cH:=J aS;have dq:=J cY;clear aw aS cY
   go_in
   go_wp2_with fail
   refine (GY d p n cE _ cH.out _ bX.out).mono ?_
   rintro e bd ⟨rfl,bz⟩
   have au:=be w bz;have I:Below w w bd:=au;have bm:aq bd (w.heap.size) 31 #[.string (bs d),.string (bs p),n]:=aq.below (by repeat (first | exact aq.new _ _ _ | exact aq.fu _ _ _ _ | exact aq.fx _ _ _ _ _ | exact aq.gb _ _ _ _ _ _ | refine aq.alloc ?_ _)) bz (by simp <;> omega);have fy:=bm.cC;have bL:aq bd ((w.heap.size + 1)) 56 #[.string (bs c),.string (bs r)]:=aq.below (by repeat (first | exact aq.new _ _ _ | exact aq.fu _ _ _ _ | exact aq.fx _ _ _ _ _ | exact aq.gb _ _ _ _ _ _ | refine aq.alloc ?_ _)) bz (by simp <;> omega)
   have mX:=bL.mI;have ad:aq bd ((w.heap.size + 1 + 1)) 31 #[.string ⟨#[]⟩,.string ⟨#[]⟩,(0:Int)]:=aq.below (by repeat (first | exact aq.new _ _ _ | exact aq.fu _ _ _ _ | exact aq.fx _ _ _ _ _ | exact aq.gb _ _ _ _ _ _ | refine aq.alloc ?_ _)) bz (by simp <;> omega);obtain⟨z0,bw,z2⟩:=ad.cC
   go_wp2_with fail
   refine (xP (bs c) (bs r) s1 s2 _ dq.out _).mono ?_
   rintro e aM ⟨rfl,aN⟩
   have ao:=be bd aN;replace I:=ah I ao;replace bm:=bm.to ao;clear fy;have fy:=bm.cC;clear mX;replace ad:=ad.to ao;clear z0 bw z2;obtain⟨z0,bw,z2⟩:=ad.cC
   exact acC
  ·cases h6:n == 60
   ·have aw:oc d p n c r= .tuple #[.agg #[.string (bs d),.string (bs p ++ bs (fp n c r ++ [10])),.int .i64 (n + 1)],(0:Int)]:=by simp [oc,tn,uA,tm,qG,aS,cY,h6,pb]
    have zc:∀W,ll W→Calls Tryz.prog 105 #[n,.agg #[.string (bs c),.string (bs r)]] W fun e ag=>e= .returned (.string (bs (fp n c r ++ [10])))∧Below W W ag:=fun W bI=>TO n (by omega) (by omega) c r cY W bI
    have apc:(bs (fp n c r ++ [10])).size≤372:=by rw [fY];have:=Dt n0 (by omega) cY;simp;omega
    have bC:=J aw;have cH:=J aS;have dq:=J cY;have cX:=J zc;clear aw aS cY zc
    go_in
    go_wp2_with fail
    refine (GY d p n cE _ cH.out _ bX.out).mono ?_
    rintro e bd ⟨rfl,bz⟩
    have au:=be w bz;have I:Below w w bd:=au;have bm:aq bd (w.heap.size) 31 #[.string (bs d),.string (bs p),n]:=aq.below (by repeat (first | exact aq.new _ _ _ | exact aq.fu _ _ _ _ | exact aq.fx _ _ _ _ _ | exact aq.gb _ _ _ _ _ _ | refine aq.alloc ?_ _)) bz (by simp <;> omega);have fy:=bm.cC;have bL:aq bd ((w.heap.size + 1)) 56 #[.string (bs c),.string (bs r)]:=aq.below (by repeat (first | exact aq.new _ _ _ | exact aq.fu _ _ _ _ | exact aq.fx _ _ _ _ _ | exact aq.gb _ _ _ _ _ _ | refine aq.alloc ?_ _)) bz (by simp <;> omega)
    have mX:=bL.mI;have ad:aq bd ((w.heap.size + 1 + 1)) 31 #[.string ⟨#[]⟩,.string ⟨#[]⟩,(0:Int)]:=aq.below (by repeat (first | exact aq.new _ _ _ | exact aq.fu _ _ _ _ | exact aq.fx _ _ _ _ _ | exact aq.gb _ _ _ _ _ _ | refine aq.alloc ?_ _)) bz (by simp <;> omega);obtain⟨z0,bw,z2⟩:=ad.cC
    go_wp2_with fail
    refine (xP (bs c) (bs r) s1 s2 _ dq.out _).mono ?_
    rintro e aM ⟨rfl,aN⟩
    have ao:=be bd aN;replace I:=ah I ao;replace bm:=bm.to ao;clear fy;have fy:=bm.cC;replace bL:=bL.to ao;clear mX;have mX:=bL.mI;replace ad:=ad.to ao;clear z0 bw z2;obtain⟨z0,bw,z2⟩:=ad.cC
    go_wp2
    have aeM:=J (dt.below I);clear fy;have fy:=aq.jV (fun K:ax aM.heap.size aM=>(bm.below K.below bm.lt));clear mX;have mX:=aq.IU (fun K:ax aM.heap.size aM=>(bL.below K.below bL.lt));clear z0 bw z2
    have z0:=fun K:ax aM.heap.size aM=>((ad.below K.below ad.lt).cell 0).trans (show _= some (.string ⟨#[]⟩) from rfl)
    have bw:=fun K:ax aM.heap.size aM=>((ad.below K.below ad.lt).cell 1).trans (show _= some (.string ⟨#[]⟩) from rfl)
    have z2:=fun K:ax aM.heap.size aM=>((ad.below K.below ad.lt).cell 2).trans (show _= some (.int .i64 0) from rfl)
    refine HP 13 (by kernel_rfl) (by kernel_rfl) ?_
    change wpQuiet _ _ _ _ (_ ::_ ::_ ::_ ::_ ::_ ::_ ::_ ::_ ::_ ::_ ::_ ::_ ::[]) _
    repeat (go_big_quiet_step ((first | (go_at_call 105;exact ax.call _ (by first | exact Nat.le_refl _ | omega) (agu cX.out aeM.out _)))))
    refine wpQuiet_nil ?_
    intro K
    change wpList _ _ _ (_ ::_ ::[]) _ _
    clear fy;clear mX;clear z0 bw z2;have aK:Below aM aM K.world:=ah av K.below;replace I:=ah I aK;replace ad:=ad.to aK;obtain⟨z0,bw,z2⟩:=ad.cC;have HV:=ad.og;have ai:=(((ad.gH 0 (.string (bs d))).gH 1 (.string (bs p ++ bs (fp n c r ++ [10])))).gH 2 (.int .i64 (n + 1)))
    have fT:=ai.cC
    go_wp2
    refine bodyPost_ret (v:= .tuple #[.agg #[.string (bs d),.string (bs p ++ bs (fp n c r ++ [10])),.int .i64 (n + 1)],(0:Int)]) (by simp [results,Tryz.results57,go_sem,fT]) rfl ?_
    exact Lc
   ·have aw:oc d p n c r= .tuple #[.agg #[.string (bs d),.string (bs p),n],(2:Int)]:=by simp [oc,tn,uA,tm,qG,aS,cY,h6]
    have bC:=J aw;have cH:=J aS;have dq:=J cY;clear aw aS cY
    go_in
    go_wp2_with fail
    refine (GY d p n cE _ cH.out _ bX.out).mono ?_
    rintro e bd ⟨rfl,bz⟩
    have au:=be w bz;have I:Below w w bd:=au;have bm:aq bd (w.heap.size) 31 #[.string (bs d),.string (bs p),n]:=aq.below (by repeat (first | exact aq.new _ _ _ | exact aq.fu _ _ _ _ | exact aq.fx _ _ _ _ _ | exact aq.gb _ _ _ _ _ _ | refine aq.alloc ?_ _)) bz (by simp <;> omega);have fy:=bm.cC;have bL:aq bd ((w.heap.size + 1)) 56 #[.string (bs c),.string (bs r)]:=aq.below (by repeat (first | exact aq.new _ _ _ | exact aq.fu _ _ _ _ | exact aq.fx _ _ _ _ _ | exact aq.gb _ _ _ _ _ _ | refine aq.alloc ?_ _)) bz (by simp <;> omega)
    have mX:=bL.mI;have ad:aq bd ((w.heap.size + 1 + 1)) 31 #[.string ⟨#[]⟩,.string ⟨#[]⟩,(0:Int)]:=aq.below (by repeat (first | exact aq.new _ _ _ | exact aq.fu _ _ _ _ | exact aq.fx _ _ _ _ _ | exact aq.gb _ _ _ _ _ _ | refine aq.alloc ?_ _)) bz (by simp <;> omega);obtain⟨z0,bw,z2⟩:=ad.cC
    go_wp2_with fail
    refine (xP (bs c) (bs r) s1 s2 _ dq.out _).mono ?_
    rintro e aM ⟨rfl,aN⟩
    have ao:=be bd aN;replace I:=ah I ao;replace bm:=bm.to ao;clear fy;have fy:=bm.cC;clear mX;replace ad:=ad.to ao;clear z0 bw z2;obtain⟨z0,bw,z2⟩:=ad.cC;have HV:=ad.og;have ai:=(((ad.gH 0 (.string (bs d))).gH 1 (.string (bs p))).gH 2 (.int .i64 n))
    have fT:=ai.cC
    go_wp2
    refine bodyPost_ret (v:= .tuple #[.agg #[.string (bs d),.string (bs p),n],(2:Int)]) (by simp [results,Tryz.results57,go_sem,fT]) rfl ?_
    exact Lc
theorem amN {n:Int} {c r:cr} {tC:ByteArray} {w0:World} (h:∀W,Calls Tryz.prog 91 #[n,.agg #[.string (bs c),.string (bs r)]] W fun e ag=>e= .returned tC∧Below W W ag) (K:ax w0.heap.size w0):
 Calls Tryz.prog 91 #[n,.agg #[.string (bs c),.string (bs r)]] K.world fun e ag=>e= .returned tC∧Below K.world.heap.size K.world ag:=h _
theorem acD {p:Prop} (h:p:=by
 have HV:=ad.og;have ai:=(((ad.gH 0 (.string (bs d))).gH 1 (.string (bs p))).gH 2 (.int .i64 n));have fT:=ai.cC
 go_wp2
 refine bodyPost_ret (v:= .tuple #[.agg #[.string (bs d),.string (bs p),n],(1:Int)]) (by simp [results,Tryz.results51,go_sem,fT]) rfl ?_
 exact⟨by rw [bC.out],(by repeat (first | exact I | exact Below.refl _ _ | refine Below.alloc ?_ (by first | exact Nat.le_refl _ | (have eZ:=I.size;simp;omega) | (simp <;> omega)) _ | refine Below.setCell ?_ (by first | exact Nat.le_refl _ | (simp <;> omega)) _))⟩):p:=h
theorem apj (d p:cr) (n:Int) (cE:d.length + p.length≤1048576) (c r:cr) (aE:c.length≤1048576) (bu:r.length≤1048576) (w:World):Calls Tryz.prog 51 #[.agg #[.string (bs d),.string (bs p),n],.agg #[.string (bs c),.string (bs r)]] w fun e ag=>e= .returned (oc d p n c r)∧Below w w ag:=by
 have s1:(bs c).size≤1048576:=by rw [fY];exact aE
 have s2:(bs r).size≤1048576:=by rw [fY];exact bu
 have bO:d.length≤1048576:=by omega
 have aO:p.length≤1048576:=by omega
 cases aS:np d p n
 ·have aw:oc d p n c r= .tuple #[.agg #[.string (bs d),.string (bs p),n],(1:Int)]:=by simp [oc,tn,uA,tm,qG,aS]
  have bC:=J aw;have cH:=J aS;clear aw aS
  go_in
  go_wp2_with fail
  refine (Hb d p n bO aO _ cH.out _).mono ?_
  rintro e bd ⟨rfl,bz⟩
  have au:=be w bz;have I:Below w w bd:=au;have bm:aq bd (w.heap.size) 31 #[.string (bs d),.string (bs p),n]:=aq.below (by repeat (first | exact aq.new _ _ _ | exact aq.fu _ _ _ _ | exact aq.fx _ _ _ _ _ | exact aq.gb _ _ _ _ _ _ | refine aq.alloc ?_ _)) bz (by simp <;> omega);have fy:=bm.cC;have ad:aq bd ((w.heap.size + 1 + 1)) 31 #[.string ⟨#[]⟩,.string ⟨#[]⟩,(0:Int)]:=aq.below (by repeat (first | exact aq.new _ _ _ | exact aq.fu _ _ _ _ | exact aq.fx _ _ _ _ _ | exact aq.gb _ _ _ _ _ _ | refine aq.alloc ?_ _)) bz (by simp <;> omega)
  obtain⟨z0,bw,z2⟩:=ad.cC
  exact acD
 ·obtain⟨n0,n1,DJ⟩:=JT aS
  have apb:(bs d).size + (bs p).size≤30000:=by rw [fY,fY];exact DJ
  cases cY:kK c r
  ·have aw:oc d p n c r= .tuple #[.agg #[.string (bs d),.string (bs p),n],(1:Int)]:=by simp [oc,tn,uA,tm,qG,aS,cY]
   have bC:=J aw;have cH:=J aS;have dq:=J cY;clear aw aS cY
   go_in
   go_wp2_with fail
   refine (Hb d p n bO aO _ cH.out _).mono ?_
   rintro e bd ⟨rfl,bz⟩
   have au:=be w bz;have I:Below w w bd:=au;have bm:aq bd (w.heap.size) 31 #[.string (bs d),.string (bs p),n]:=aq.below (by repeat (first | exact aq.new _ _ _ | exact aq.fu _ _ _ _ | exact aq.fx _ _ _ _ _ | exact aq.gb _ _ _ _ _ _ | refine aq.alloc ?_ _)) bz (by simp <;> omega);have fy:=bm.cC;have bL:aq bd ((w.heap.size + 1)) 56 #[.string (bs c),.string (bs r)]:=aq.below (by repeat (first | exact aq.new _ _ _ | exact aq.fu _ _ _ _ | exact aq.fx _ _ _ _ _ | exact aq.gb _ _ _ _ _ _ | refine aq.alloc ?_ _)) bz (by simp <;> omega)
   have mX:=bL.mI;have ad:aq bd ((w.heap.size + 1 + 1)) 31 #[.string ⟨#[]⟩,.string ⟨#[]⟩,(0:Int)]:=aq.below (by repeat (first | exact aq.new _ _ _ | exact aq.fu _ _ _ _ | exact aq.fx _ _ _ _ _ | exact aq.gb _ _ _ _ _ _ | refine aq.alloc ?_ _)) bz (by simp <;> omega);obtain⟨z0,bw,z2⟩:=ad.cC
   go_wp2_with fail
   refine (AX (bs c) (bs r) s1 s2 _ dq.out _).mono ?_
   rintro e aM ⟨rfl,aN⟩
   have ao:=be bd aN;replace I:=ah I ao;replace bm:=bm.to ao;clear fy;have fy:=bm.cC;clear mX;replace ad:=ad.to ao;clear z0 bw z2;obtain⟨z0,bw,z2⟩:=ad.cC
   exact acD
  ·cases h6:n == 60
   ·have aw:oc d p n c r= .tuple #[.agg #[.string (bs d),.string (bs p ++ bs (fp n c r ++ [10])),.int .i64 (n + 1)],(0:Int)]:=by simp [oc,tn,uA,tm,qG,aS,cY,h6,pb]
    have zc:∀W,Calls Tryz.prog 91 #[n,.agg #[.string (bs c),.string (bs r)]] W fun e ag=>e= .returned (.string (bs (fp n c r ++ [10])))∧Below W W ag:=fun W=>Xc n (by omega) (by omega) c r cY W
    have apc:(bs (fp n c r ++ [10])).size≤372:=by rw [fY];have:=Dt n0 (by omega) cY;simp;omega
    have bC:=J aw;have cH:=J aS;have dq:=J cY;have cX:=J zc;clear aw aS cY zc
    generalize bs (fp n c r ++ [10])= tC at *
    go_in
    go_wp2_with fail
    refine (Hb d p n bO aO _ cH.out _).mono ?_
    rintro e bd ⟨rfl,bz⟩
    have au:=be w bz;have I:Below w w bd:=au;have bm:aq bd (w.heap.size) 31 #[.string (bs d),.string (bs p),n]:=aq.below (by repeat (first | exact aq.new _ _ _ | exact aq.fu _ _ _ _ | exact aq.fx _ _ _ _ _ | exact aq.gb _ _ _ _ _ _ | refine aq.alloc ?_ _)) bz (by simp <;> omega);have fy:=bm.cC;have bL:aq bd ((w.heap.size + 1)) 56 #[.string (bs c),.string (bs r)]:=aq.below (by repeat (first | exact aq.new _ _ _ | exact aq.fu _ _ _ _ | exact aq.fx _ _ _ _ _ | exact aq.gb _ _ _ _ _ _ | refine aq.alloc ?_ _)) bz (by simp <;> omega)
    have mX:=bL.mI;have ad:aq bd ((w.heap.size + 1 + 1)) 31 #[.string ⟨#[]⟩,.string ⟨#[]⟩,(0:Int)]:=aq.below (by repeat (first | exact aq.new _ _ _ | exact aq.fu _ _ _ _ | exact aq.fx _ _ _ _ _ | exact aq.gb _ _ _ _ _ _ | refine aq.alloc ?_ _)) bz (by simp <;> omega);obtain⟨z0,bw,z2⟩:=ad.cC
    go_wp2_with fail
    refine (AX (bs c) (bs r) s1 s2 _ dq.out _).mono ?_
    rintro e aM ⟨rfl,aN⟩
    have ao:=be bd aN;replace I:=ah I ao;replace bm:=bm.to ao;clear fy;have fy:=bm.cC;replace bL:=bL.to ao;clear mX;have mX:=bL.mI;replace ad:=ad.to ao;clear z0 bw z2;obtain⟨z0,bw,z2⟩:=ad.cC
    go_wp2
    clear fy;have fy:=aq.jV (fun K:ax aM.heap.size aM=>(bm.below K.below bm.lt));clear mX;have mX:=aq.IU (fun K:ax aM.heap.size aM=>(bL.below K.below bL.lt));clear z0 bw z2
    have z0:=fun K:ax aM.heap.size aM=>((ad.below K.below ad.lt).cell 0).trans (show _= some (.string ⟨#[]⟩) from rfl)
    have bw:=fun K:ax aM.heap.size aM=>((ad.below K.below ad.lt).cell 1).trans (show _= some (.string ⟨#[]⟩) from rfl)
    have z2:=fun K:ax aM.heap.size aM=>((ad.below K.below ad.lt).cell 2).trans (show _= some (.int .i64 0) from rfl)
    refine HP 8 (by kernel_rfl) (by kernel_rfl) ?_
    change wpQuiet _ _ _ _ (_ ::_ ::_ ::_ ::_ ::_ ::_ ::_ ::[]) _
    repeat (go_big_quiet_step ((first | (go_at_call 91;exact ax.call _ (by first | exact Nat.le_refl _ | omega) (amN cX.out _)))))
    refine wpQuiet_nil ?_
    intro K
    change wpList _ _ _ (_ ::[]) _ _
    clear fy;clear mX;clear z0 bw z2;have aK:Below aM aM K.world:=ah av K.below;replace I:=ah I aK;replace bm:=bm.to aK;have fy:=bm.cC;replace ad:=ad.to aK;obtain⟨z0,bw,z2⟩:=ad.cC
    have ahs:=bm.frozen 1
    go_upto_region 6 with fail
    clear ahs;clear fy z0 bw z2;replace I:Below w w (World.setCell K.world ⟨w.heap.size,1,none⟩ (.string (bs p ++ tC))):=I.setCell (by show w.heap.size≤w.heap.size;omega) _;replace bm:aq (World.setCell K.world ⟨w.heap.size,1,none⟩ (.string (bs p ++ tC))) (w.heap.size) 31 #[.string (bs d),.string (bs p ++ tC),n]:=bm.gH 1 (.string (bs p ++ tC));replace ad:=ad.vY (p:=⟨w.heap.size,1,none⟩) (by show _≠w.heap.size;omega) (.string (bs p ++ tC))
    generalize World.setCell K.world ⟨w.heap.size,1,none⟩ (.string (bs p ++ tC))= lT at *
    have fy:=bm.cC;obtain⟨z0,bw,z2⟩:=ad.cC;have aht:=bm.frozen 2
    go_upto_region 7 with fail
    clear aht;clear fy z0 bw z2;replace I:Below w w (World.setCell lT ⟨w.heap.size,2,none⟩ (.int .i64 (n + 1))):=I.setCell (by show w.heap.size≤w.heap.size;omega) _;replace bm:aq (World.setCell lT ⟨w.heap.size,2,none⟩ (.int .i64 (n + 1))) (w.heap.size) 31 #[.string (bs d),.string (bs p ++ tC),.int .i64 (n + 1)]:=bm.gH 2 (.int .i64 (n + 1));replace ad:=ad.vY (p:=⟨w.heap.size,2,none⟩) (by show _≠w.heap.size;omega) (.int .i64 (n + 1))
    generalize World.setCell lT ⟨w.heap.size,2,none⟩ (.int .i64 (n + 1))= kb at *
    have fy:=bm.cC;obtain⟨z0,bw,z2⟩:=ad.cC;have HV:=ad.og;have ai:=(((ad.gH 0 (.string (bs d))).gH 1 (.string (bs p ++ tC))).gH 2 (.int .i64 (n + 1)));have fT:=ai.cC
    go_wp2
    refine bodyPost_ret (v:= .tuple #[.agg #[.string (bs d),.string (bs p ++ tC),.int .i64 (n + 1)],(0:Int)]) (by simp [results,Tryz.results51,go_sem,fT]) rfl ?_
    exact Lc
   ·have aw:oc d p n c r= .tuple #[.agg #[.string (bs d),.string (bs p),n],(2:Int)]:=by simp [oc,tn,uA,tm,qG,aS,cY,h6]
    have bC:=J aw;have cH:=J aS;have dq:=J cY;clear aw aS cY
    go_in
    go_wp2_with fail
    refine (Hb d p n bO aO _ cH.out _).mono ?_
    rintro e bd ⟨rfl,bz⟩
    have au:=be w bz;have I:Below w w bd:=au;have bm:aq bd (w.heap.size) 31 #[.string (bs d),.string (bs p),n]:=aq.below (by repeat (first | exact aq.new _ _ _ | exact aq.fu _ _ _ _ | exact aq.fx _ _ _ _ _ | exact aq.gb _ _ _ _ _ _ | refine aq.alloc ?_ _)) bz (by simp <;> omega);have fy:=bm.cC;have bL:aq bd ((w.heap.size + 1)) 56 #[.string (bs c),.string (bs r)]:=aq.below (by repeat (first | exact aq.new _ _ _ | exact aq.fu _ _ _ _ | exact aq.fx _ _ _ _ _ | exact aq.gb _ _ _ _ _ _ | refine aq.alloc ?_ _)) bz (by simp <;> omega)
    have mX:=bL.mI;have ad:aq bd ((w.heap.size + 1 + 1)) 31 #[.string ⟨#[]⟩,.string ⟨#[]⟩,(0:Int)]:=aq.below (by repeat (first | exact aq.new _ _ _ | exact aq.fu _ _ _ _ | exact aq.fx _ _ _ _ _ | exact aq.gb _ _ _ _ _ _ | refine aq.alloc ?_ _)) bz (by simp <;> omega);obtain⟨z0,bw,z2⟩:=ad.cC
    go_wp2_with fail
    refine (AX (bs c) (bs r) s1 s2 _ dq.out _).mono ?_
    rintro e aM ⟨rfl,aN⟩
    have ao:=be bd aN;replace I:=ah I ao;replace bm:=bm.to ao;clear fy;have fy:=bm.cC;clear mX;replace ad:=ad.to ao;clear z0 bw z2;obtain⟨z0,bw,z2⟩:=ad.cC;have HV:=ad.og;have ai:=(((ad.gH 0 (.string (bs d))).gH 1 (.string (bs p))).gH 2 (.int .i64 n))
    have fT:=ai.cC
    go_wp2
    refine bodyPost_ret (v:= .tuple #[.agg #[.string (bs d),.string (bs p),n],(2:Int)]) (by simp [results,Tryz.results51,go_sem,fT]) rfl ?_
    exact Lc
end Go.Proofs.YtlaaemmmbodaaaaGreatDoor
namespace Go.G9
open Go.RowKit
end Go.G9
namespace Go.Proofs.YtlaaemmmbodaaaaGreatDoor
open Go.RowKit Go.G9
structure vI (w:World) (g:Nat) (l:cr):Prop where
 lt:g < w.heap.size
 cell:∀i (h:i < l.length),w.cell? ⟨g,i,none⟩ =some (.int .u8 (l[i].toNat:Int))
 free:∀i,i < l.length→w.frozen? ⟨g,i,none⟩ =false
theorem vI.new (w:World) (l:cr) (C:Array Value) (t:TypeId) (aX:(bs l).size≤C.size) (eU:∀i (h:i < (bs l).size),C[i]? =some (.int .u8 ((bs l)[i].toNat:Int))):vI (w.alloc (.cells C t (C.size,C.size + 1))) w.heap.size l:=by
 have cc:=fY l;have aB:(w.alloc (.cells C t (C.size,C.size + 1))).heap[w.heap.size]? =some (.cells C t (C.size,C.size + 1)):=heap_alloc_new w _
 refine⟨by simp,fun i h=>?_,fun i h=>?_⟩
 ·rw [cell_of_row _ _ i C t _ aB,eU i (by omega),Fo]
 ·unfold World.frozen?
  simp only [aB]
  simp
  omega
theorem vI.drew {w:World} {g:Nat} {l:cr} (h:vI w g l):vI w.drew g l:=⟨h.lt,h.cell,h.free⟩
theorem vI.bytes {w:World} {g:Nat} {l:cr} (h:vI w g l):Lib.Bytes w g 0 (bs l):=fun i hi=>by
 have cc:=fY l
 rw [Nat.zero_add,h.cell i (by omega),Fo]
theorem vI.gH {w:World} {g:Nat} {l:cr} (h:vI w g l) (j:Nat) (bH:j < l.length) (x:UInt8):vI (w.setCell ⟨g,j,none⟩ (.int .u8 (x.toNat:Int))) g (l.set j x):=by
 refine⟨by have:=h.lt;simpa [World.setCell] using this,fun i hi=>?_,fun i hi=>?_⟩
 ·rw [List.length_set] at hi
  by_cases e:j= i
  ·subst e
   rw [World.cell?_setCell_same (v:= .int .u8 (x.toNat:Int)) (h:=h.cell j bH)]
   simp
  ·rw [World.cell?_setCell_other (h:=by simp [e]),h.cell i hi,List.getElem_set_ne e]
 ·rw [List.length_set] at hi
  rw [World.frozen?_setCell]
  exact h.free i hi
open Go.RowKit Go.G9
structure hZ where
 eJ:ByteArray
 eR:ByteArray
 ec:Int
def hZ.cells (x:hZ):List Value:=[.string x.eJ,.string x.eR,.int .i64 x.ec]
def hZ.d (x:hZ):cr:=x.eJ.data.toList
def hZ.p (x:hZ):cr:=x.eR.data.toList
theorem hZ.len (x:hZ) (h:x.eJ.size + x.eR.size≤1048576):x.d.length + x.p.length≤1048576:=by
 unfold hZ.d hZ.p;rw [Array.length_toList,Array.length_toList];exact h
theorem Fm (x:hZ):bs x.d= x.eJ:=Fp _
theorem Fq (x:hZ):bs x.p= x.eR:=Fp _
def fX.c (x:fX):cr:=x.cmd.data.toList
def fX.r (x:fX):cr:=x.rep.data.toList
theorem IN (x:fX):bs x.c= x.cmd:=Fp _
theorem IP (x:fX):bs x.r= x.rep:=Fp _
theorem fX.Td (x:fX) (h:x.cmd.size≤1048576):x.c.length≤1048576:=by unfold fX.c;rw [Array.length_toList];exact h
theorem fX.YN (x:fX) (h:x.rep.size≤1048576):x.r.length≤1048576:=by unfold fX.r;rw [Array.length_toList];exact h
theorem akW (x:hZ) (h:x.eJ.size + x.eR.size≤1048576) (v:Bool) (aw:np x.d x.p x.ec= v) (w:World) (dt:ll w):Calls Tryz.prog 64 #[.agg #[x.eJ,x.eR,x.ec]] w fun e ag=>e= .returned v∧Below w w ag:=by
 have:=GY x.d x.p x.ec (x.len h) v aw w dt
 rwa [Fm,Fq] at this
open Go.RowKit Go.G9
def anu:hZ:=⟨⟨#[]⟩,⟨#[]⟩,0⟩
def hZ.ok (x:hZ):Bool:=np x.d x.p x.ec
def ZO (x:hZ):hZ:=if x.ok then ⟨x.eJ ++ x.eR,⟨#[]⟩,x.ec⟩ else anu
def iQ (x:hZ) (y:fX):hZ:=⟨x.eJ,bs (tn x.d x.p x.ec y.c y.r),uA x.d x.p x.ec y.c y.r⟩
def Cl (x:hZ) (y:fX):Int:=tm x.d x.p x.ec y.c y.r
def aoE (s:ByteArray):hZ:=⟨bs (PV s.data.toList),⟨#[]⟩,(PW s.data.toList:Nat)⟩
def YK (s:ByteArray):Int:=(YI s.data.toList:Nat)
def YJ (s:ByteArray):Bool:=decide (s.data.toList.length≤30000)
def zt (x:hZ):List fX:=Pk x.d x.p x.ec
theorem akX (x:hZ) (h:x.eJ.size + x.eR.size≤1048576) (w:World) (dt:ll w):Calls Tryz.prog 64 #[.agg #[x.eJ,x.eR,x.ec]] w fun e ag=>e= .returned x.ok∧Below w w ag:=akW x h _ rfl w dt
theorem amm (x:hZ) (h:x.eJ.size + x.eR.size≤1048576) (w:World):Calls Tryz.prog 44 #[.agg #[x.eJ,x.eR,x.ec]] w fun e ag=>e= .returned x.ok∧Below w w ag:=by
 have aS:=x.len h;have:=Hb x.d x.p x.ec (by omega) (by omega) _ rfl w
 rwa [Fm,Fq] at this
theorem akt (x:hZ) (h:x.eJ.size + x.eR.size≤1048576) (y:fX) (aE:y.cmd.size≤1048576) (bu:y.rep.size≤1048576) (w:World) (dt:ll w):Calls Tryz.prog 57 #[.agg #[x.eJ,x.eR,x.ec],.agg #[y.cmd,y.rep]] w fun e ag=>e= .returned (.tuple #[.agg #[.string (iQ x y).eJ,.string (iQ x y).eR,.int .i64 (iQ x y).ec],.int .i64 (Cl x y)])∧Below w w ag:=by
 have:=aku x.d x.p x.ec (x.len h) y.c y.r (y.Td aE) (y.YN bu) w dt
 unfold oc at this
 rwa [Fm,Fq,IN,IP] at this
theorem api (x:hZ) (h:x.eJ.size + x.eR.size≤1048576) (y:fX) (aE:y.cmd.size≤1048576) (bu:y.rep.size≤1048576) (w:World):Calls Tryz.prog 51 #[.agg #[x.eJ,x.eR,x.ec],.agg #[y.cmd,y.rep]] w fun e ag=>e= .returned (.tuple #[.agg #[.string (iQ x y).eJ,.string (iQ x y).eR,.int .i64 (iQ x y).ec],.int .i64 (Cl x y)])∧Below w w ag:=by
 have:=apj x.d x.p x.ec (x.len h) y.c y.r (y.Td aE) (y.YN bu) w
 unfold oc at this
 rwa [Fm,Fq,IN,IP] at this
open Go.RowKit Go.G9
def fv.log (x:fv):hZ:=⟨x.eJ,x.eR,x.ec⟩
def lH (x:fv):Bool:=pL x.kI && x.log.ok
theorem Tg {x:fv} (h:pL x.kI= false):lH x= false:=by rw [lH,h];rfl
theorem Th {x:fv} (h:pL x.kI= true):lH x= x.log.ok:=by rw [lH,h];rfl
theorem abW {p:Prop} (h:p:=by
 replace aQ:=aQ.to ao;clear al;have al:=aQ.bM
 go_wp2
 go_ret
 exact⟨rfl,(ah I av)⟩):p:=h
theorem abY {p:Prop} (h:p:=by
 replace aQ:=aQ.to aK;clear al;have al:=aQ.bM
 go_wp2
 go_ret
 exact⟨rfl,(ah I av)⟩):p:=h
theorem JJ (x:fv) (an ar aj ak aA:Option Addr) (c0 c1 c2 c3 c4:Nat) (h0:x.br.length≤1048576) (h1:x.bD.length≤1048576) (h2:x.bE.length≤1048576) (h3:x.bK.length≤1048576) (h4:x.bt.length≤1048576) (cc:x.eJ.size + x.eR.size≤1048576) (v:Bool) (aw:lH x= v) (w:World) (aU:aH 7 aJ.cells w an x.br) (aT:aH 3 aL.cells w ar x.bD) (bj:aH 1 bR w aj x.bE) (bh:aH 3 aI.cells w ak x.bK) (bU:aH 3 Out.cells w aA x.bt) (dY:x.br.length≤c0) (eB:x.bD.length≤c1) (cp:x.bE.length≤c2) (ed:x.bK.length≤c3) (hp:x.bt.length≤c4) (bX:ll w):
 Calls Tryz.prog 21 #[.agg #[.slice an x.br c0,.slice ar x.bD c1,x.cZ,x.cQ,x.dH,.slice aj x.bE c2,.slice ak x.bK c3,.slice aA x.bt c4,x.eJ,x.eR,x.ec]] w fun e ag=>e= .returned v∧Below w w ag:=by
 cases hm:pL x.kI
 ·have bC:=J hm
  rw [Tg hm] at aw
  subst aw
  clear hm
  go_in
  go_upto_region 1 with fail
  refine cR fun aF au aQ=>?_
  replace aU:=aU.below au;replace aT:=aT.below au;replace bj:=bj.below au;replace bh:=bh.below au;replace bU:=bU.below au;replace bX:=bX.below au;have I:=au;have al:=aQ.bM;have HU:=aQ.lt
  go_wp2_with fail
  refine (AP x.kI an ar aj ak aA c0 c1 c2 c3 c4 h0 h1 h2 h3 h4 _ bC.out _ (aU.below av) (aT.below av) (bj.below av) (bh.below av) (bU.below av) dY eB cp ed hp).mono ?_
  rintro e aM ⟨rfl,aN⟩
  have ao:=be aF aN;replace I:=ah I ao;replace aU:=aU.below ao;replace aT:=aT.below ao;replace bj:=bj.below ao;replace bh:=bh.below ao;replace bU:=bU.below ao;replace bX:=bX.below ao
  exact abW
 ·have bC:=J hm
  rw [Th hm] at aw
  subst aw
  clear hm
  go_in
  go_upto_region 1 with fail
  refine cR fun aF au aQ=>?_
  replace aU:=aU.below au;replace aT:=aT.below au;replace bj:=bj.below au;replace bh:=bh.below au;replace bU:=bU.below au;replace bX:=bX.below au;have I:=au;have al:=aQ.bM;have HU:=aQ.lt
  go_wp2_with fail
  refine (AP x.kI an ar aj ak aA c0 c1 c2 c3 c4 h0 h1 h2 h3 h4 _ bC.out _ (aU.below av) (aT.below av) (bj.below av) (bh.below av) (bU.below av) dY eB cp ed hp).mono ?_
  rintro e aM ⟨rfl,aN⟩
  have ao:=be aF aN;replace I:=ah I ao;replace aU:=aU.below ao;replace aT:=aT.below ao;replace bj:=bj.below ao;replace bh:=bh.below ao;replace bU:=bU.below ao;replace bX:=bX.below ao;replace aQ:=aQ.to ao;clear al;have al:=aQ.bM;have HU:=aQ.lt
  go_wp2_with fail
  refine (akX x.log cc _ (bX.below av)).mono ?_
  rintro e bB ⟨rfl,bG⟩
  have aK:=be aM bG;replace I:=ah I aK;replace aU:=aU.below aK;replace aT:=aT.below aK;replace bj:=bj.below aK;replace bh:=bh.below aK;replace bU:=bU.below aK;replace bX:=bX.below aK
  exact abY
theorem JP (x:fv) (an ar aj ak aA:Option Addr) (c0 c1 c2 c3 c4:Nat) (h0:x.br.length≤1048576) (h1:x.bD.length≤1048576) (h2:x.bE.length≤1048576) (h3:x.bK.length≤1048576) (h4:x.bt.length≤1048576) (cc:x.eJ.size + x.eR.size≤1048576) (v:Bool) (aw:lH x= v) (w:World) (aU:aH 7 aJ.cells w an x.br) (aT:aH 3 aL.cells w ar x.bD) (bj:aH 1 bR w aj x.bE) (bh:aH 3 aI.cells w ak x.bK) (bU:aH 3 Out.cells w aA x.bt) (dY:x.br.length≤c0) (eB:x.bD.length≤c1) (cp:x.bE.length≤c2) (ed:x.bK.length≤c3) (hp:x.bt.length≤c4):
 Calls Tryz.prog 59 #[.agg #[.slice an x.br c0,.slice ar x.bD c1,x.cZ,x.cQ,x.dH,.slice aj x.bE c2,.slice ak x.bK c3,.slice aA x.bt c4,x.eJ,x.eR,x.ec]] w fun e ag=>e= .returned v∧Below w w ag:=by
 cases hm:pL x.kI
 ·have bC:=J hm
  rw [Tg hm] at aw
  subst aw
  clear hm
  go_in
  go_upto_region 1 with fail
  refine cR fun aF au aQ=>?_
  replace aU:=aU.below au;replace aT:=aT.below au;replace bj:=bj.below au;replace bh:=bh.below au;replace bU:=bU.below au;have I:=au;have al:=aQ.bM;have HU:=aQ.lt
  go_wp2_with fail
  refine (AW x.kI an ar aj ak aA c0 c1 c2 c3 c4 h0 h1 h2 h3 h4 _ bC.out _ (aU.below av) (aT.below av) (bj.below av) (bh.below av) (bU.below av) dY eB cp ed hp).mono ?_
  rintro e aM ⟨rfl,aN⟩
  have ao:=be aF aN;replace I:=ah I ao;replace aU:=aU.below ao;replace aT:=aT.below ao;replace bj:=bj.below ao;replace bh:=bh.below ao;replace bU:=bU.below ao
  exact abW
 ·have bC:=J hm
  rw [Th hm] at aw
  subst aw
  clear hm
  go_in
  go_upto_region 1 with fail
  refine cR fun aF au aQ=>?_
  replace aU:=aU.below au;replace aT:=aT.below au;replace bj:=bj.below au;replace bh:=bh.below au;replace bU:=bU.below au;have I:=au;have al:=aQ.bM;have HU:=aQ.lt
  go_wp2_with fail
  refine (AW x.kI an ar aj ak aA c0 c1 c2 c3 c4 h0 h1 h2 h3 h4 _ bC.out _ (aU.below av) (aT.below av) (bj.below av) (bh.below av) (bU.below av) dY eB cp ed hp).mono ?_
  rintro e aM ⟨rfl,aN⟩
  have ao:=be aF aN;replace I:=ah I ao;replace aU:=aU.below ao;replace aT:=aT.below ao;replace bj:=bj.below ao;replace bh:=bh.below ao;replace bU:=bU.below ao;replace aQ:=aQ.to ao;clear al;have al:=aQ.bM;have HU:=aQ.lt
  go_wp2_with fail
  refine (amm x.log cc _).mono ?_
  rintro e bB ⟨rfl,bG⟩
  have aK:=be aM bG;replace I:=ah I aK;replace aU:=aU.below aK;replace aT:=aT.below aK;replace bj:=bj.below aK;replace bh:=bh.below aK;replace bU:=bU.below aK
  exact abY
open Go.RowKit Go.G9
theorem anm {rs:List aJ} (h:kx rs= true) {id:Int} {r:aJ} (bu:hD rs id= some r):r.name.size≤10:=by
 obtain⟨k,az⟩:=List.mem_iff_getElem?.1 (List.mem_of_find?_eq_some bu)
 have:=(zA (zB h az)).2.2.2.2.2.2
 simp [wO,fc] at this;omega
open Go.RowKit Go.G9
theorem take_set {α:Type} (p:List α) (j:Nat) (y:α) (h:j < p.length):(p.take (j + 1)).set j y= p.take j ++ [y]:=by
 rw [List.take_succ_eq_append_getElem h,List.set_append_right _ _ (by rw [List.length_take];omega)]
 rw [List.length_take,show j - min j p.length= 0 from by omega]
 rfl
theorem amR {d p:cr} {n:Int} (h:np d p n= true):d.length + p.length≤30000∧jJ (d ++ p)= d.length + p.length∧jJ d= d.length∧((iJ (d ++ p)).length:Int)= n:=by
 unfold np at h
 simp only [Bool.and_eq_true,decide_eq_true_eq,beq_iff_eq] at h
 omega
open Go.RowKit Go.G9
theorem aof (f k a:Nat):iI f k [] a= []:=PN (Yu k)
theorem Yx (n:Nat) (aY:n < 60) {c r:cr} (gf:kK c r= true):∀(f k:Nat) (l:cr) (a:Nat),(a ::(iI f k l a).map (·.2.2)).getLastD 0= a + l.length→(iI f k l a).length < f→k + (iI f k l a).length= n→
  iI f k (l ++ (fp n c r ++ [10])) a= iI f k l a ++ [(c,r,a + l.length + ((fp n c r).length + 1))]
 | 0,_,_,_,_,h,_=>by omega
 | f + 1,k,l,a,aS,hf,az=>by
  cases ay:jc l k with
  | none=>
   rw [PN ay] at aS az ⊢
   simp only [List.map_nil,List.length_nil,Nat.add_zero] at aS az
   have h0:l= []:=by
    simp at aS
    exact aS
   subst h0;subst az
   rw [List.nil_append,iI,Yv aY gf]
   simp only
   have e:(fp k c r ++ [10]).drop ((fp k c r).length + 1)= []:=by simp
   rw [e,aof]
   simp
  | some x=>
   obtain⟨cM,fT,m⟩:=x
   obtain⟨h0,h1,e,h2⟩:=Hu ay
   have hm:=DG ay
   have agm:iI (f + 1) k l a= (cM,fT,a + m) ::iI f (k + 1) (l.drop m) (a + m):=by rw [iI,ay]
   rw [agm] at aS hf az ⊢
   simp only [List.map_cons,List.length_cons] at aS hf az
   have gC:∀L:List Nat,(a ::(a + m) ::L).getLastD 0= ((a + m) ::L).getLastD 0:=fun L=>by simp [List.getLastD_eq_getLast?,List.getLast?_cons]
   rw [gC] at aS
   have eM:=Yx n aY gf f (k + 1) (l.drop m) (a + m) (by rw [aS,List.length_drop];omega) (by omega) (by omega)
   have bu:jc (l ++ (fp n c r ++ [10])) k= some (cM,fT,m):=by
    rw [h2,List.append_assoc,List.cons_append,Yv h0 h1,e]
   rw [iI,bu]
   simp only
   rw [List.drop_append_of_le_length hm.1,eM,List.length_drop]
   simp
   omega
theorem aoe {l:cr} {c r:cr} (aS:jJ l= l.length) (aY:(hW l).length < 60) (gf:kK c r= true):
  hW (l ++ (fp ((hW l).length:Nat) c r ++ [10]))= hW l ++ [(c,r,l.length + ((fp ((hW l).length:Nat) c r).length + 1))]:=by
 have h:=Yx (hW l).length aY gf 61 0 l 0 (by rw [Nat.zero_add];exact aS) (by show (hW l).length < 61;omega) (by rw [Nat.zero_add];rfl)
 rw [Nat.zero_add] at h
 exact h
theorem hZ.ext {x y:hZ} (h1:x.eJ= y.eJ) (h2:x.eR= y.eR) (h3:x.ec= y.ec):x= y:=by
 cases x;cases y;simp at h1 h2 h3;subst h1;subst h2;subst h3;rfl
theorem afr {x:hZ} {y:fX} (h:Cl x y= 0):
  x.ok= true∧(iQ x y).ok= true∧zt (iQ x y)= zt x ++ [y]∧(iQ x y).ec= ((zt (iQ x y)).length:Int)∧YJ ((iQ x y).eJ ++ (iQ x y).eR)= true∧YK ((iQ x y).eJ ++ (iQ x y).eR)= (((iQ x y).eJ ++ (iQ x y).eR).size:Int)∧ZO (iQ x y)= aoE ((iQ x y).eJ ++ (iQ x y).eR):=by
 have h0:qG x.d x.p x.ec y.c y.r= true∧(x.ec == 60)= false:=by
  unfold Cl tm at h
  cases cT:qG x.d x.p x.ec y.c y.r
  ·rw [cT] at h;simp at h
  ·rw [cT,if_pos rfl] at h
   cases aB:x.ec == 60
   ·exact⟨rfl,rfl⟩
   ·rw [aB] at h;simp at h
 obtain⟨cT,aB⟩:=h0
 have At:=cT
 unfold qG at At
 rw [Bool.and_eq_true] at At
 obtain⟨aS,gf⟩:=At
 obtain⟨dI,dj,ya,pO⟩:=amR aS
 obtain⟨n0,n1,_⟩:=JT aS
 have eP:x.ec≠60:=fun e=>by rw [e] at aB;simp at aB
 have hlen:(hW (x.d ++ x.p)).length < 60:=by rw [Kt] at pO;omega
 have aiN:x.ec= ((hW (x.d ++ x.p)).length:Nat):=by rw [Kt] at pO;omega
 have aR:=aoe (c:=y.c) (r:=y.r) (by rw [dj,List.length_append]) hlen gf
 rw [← aiN] at aR
 have Nq:(iQ x y).p= x.p ++ (fp x.ec y.c y.r ++ [10]):=by
  show (bs (tn x.d x.p x.ec y.c y.r)).data.toList= _
  rw [vV]
  unfold tn
  rw [cT,aB]
  rfl
 have yW:(iQ x y).d= x.d:=rfl
 have eL:(iQ x y).ec= x.ec + 1:=by
  unfold iQ uA
  simp only
  rw [cT,aB]
  rfl
 have eO:jJ (x.d ++ (x.p ++ (fp x.ec y.c y.r ++ [10])))= (x.d ++ (x.p ++ (fp x.ec y.c y.r ++ [10]))).length:=by
  show yP (hW _)= _
  rw [← List.append_assoc,aR,TQ]
  simp
  omega
 have hle:=(TP (x.d ++ (x.p ++ (fp x.ec y.c y.r ++ [10])))).1
 have bL:iJ (x.d ++ (x.p ++ (fp x.ec y.c y.r ++ [10])))= iJ (x.d ++ x.p) ++ [y]:=by
  unfold iJ
  have e:∀m,qH (y.c,y.r,m)= y:=fun m=>by
   unfold qH
   simp only
   rw [IN,IP]
  rw [← List.append_assoc,aR,List.map_append]
  simp only [List.map_cons,List.map_nil,e]
 have bN:np x.d (x.p ++ (fp x.ec y.c y.r ++ [10])) (x.ec + 1)= true:=by
  unfold np
  rw [eO,bL,ya]
  rw [eO] at hle
  simp only [List.length_append] at hle pO ⊢
  simp
  omega
 have VV:(iQ x y).ok= true:=by unfold hZ.ok;rw [yW,Nq,eL];exact bN
 have jq:zt (iQ x y)= zt x ++ [y]:=by
  unfold zt Pk
  rw [yW,Nq,eL,if_pos bN,if_pos aS,bL]
 have aif:zt x= iJ (x.d ++ x.p):=by unfold zt Pk;rw [if_pos aS]
 have q1:((iQ x y).eJ ++ (iQ x y).eR).data.toList= x.d ++ (x.p ++ (fp x.ec y.c y.r ++ [10])):=by
  rw [← Fm,← Fq,yW,Nq,pb,vV]
 have gr:(((iQ x y).eJ ++ (iQ x y).eR).size:Nat)= (x.d ++ (x.p ++ (fp x.ec y.c y.r ++ [10]))).length:=by
  rw [← q1,Array.length_toList];rfl
 rw [eO] at hle
 refine⟨aS,VV,jq,?_,?_,?_,?_⟩
 ·rw [eL,jq,aif,List.length_append,List.length_singleton];omega
 ·unfold YJ;rw [q1,decide_eq_true_eq];omega
 ·unfold YK YI;rw [q1,gr,if_pos (by omega),eO]
 ·unfold ZO
  rw [VV,if_pos rfl]
  refine hZ.ext ?_ rfl ?_
  ·show _= bs (PV _)
   rw [q1]
   unfold PV
   rw [if_pos (by omega),eO,List.take_length]
   rw [← q1,Fp]
  ·show (iQ x y).ec= ((PW _:Nat):Int)
   rw [q1]
   unfold PW
   rw [if_pos (by omega),eL,bL,List.length_append,List.length_singleton]
   omega
end Go.Proofs.YtlaaemmmbodaaaaGreatDoor
namespace Go.G9
open Go.RowKit
def art (x:UInt8):List Value:=[.int .u8 (x.toNat:Int)]
end Go.G9
namespace Go.Proofs.YtlaaemmmbodaaaaGreatDoor
open Go.RowKit Go.G9
structure wT (w:World) (p:Nat) (A:Option Addr) (c:Nat) (cs:List UInt8) (N:Nat):Prop where
  box:∃(i s:Int),aq w p 95 #[.slice A cs.length c,.int .i64 i,.int .u64 s]∧0≤i∧i≤N
  dE:aH 1 art w A cs
  lo:∀jf,A= some jf→0 < cs.length→jf.block < p
theorem wT.mono {w:World} {p:Nat} {A:Option Addr} {c:Nat} {cs:List UInt8} {N M:Nat} (h:wT w p A c cs N) (aW:N≤M):wT w p A c cs M:=by
  obtain⟨⟨i,s,bm,h0,h1⟩,bL,eP⟩:=h
  exact⟨⟨i,s,bm,h0,by omega⟩,bL,eP⟩
theorem wT.lt {w:World} {p:Nat} {A:Option Addr} {c:Nat} {cs:List UInt8} {N:Nat} (h:wT w p A c cs N):p < w.heap.size:=by
  obtain⟨⟨i,s,bm,h0,h1⟩,bL,eP⟩:=h
  exact bm.lt
theorem wT.later {w ag:World} {p:Nat} {A:Option Addr} {c:Nat} {cs:List UInt8} {N:Nat} (h:wT w p A c cs N) (aB:Below w w ag):wT ag p A c cs N:=by
  obtain⟨⟨i,s,bm,h0,h1⟩,bL,eP⟩:=h
  exact⟨⟨i,s,bm.below aB bm.lt,h0,h1⟩,bL.below aB,eP⟩
def Stepped (w ag:World) (p:Nat) (A:Option Addr) (c:Nat) (cs:List UInt8) (N:Nat):Prop:=wT ag p A c cs N∧w.grownBy ag (some p)
theorem Stepped.size {w ag:World} {p:Nat} {A:Option Addr} {c:Nat} {cs:List UInt8} {N:Nat} (h:Stepped w ag p A c cs N):w.heap.size≤ag.heap.size:=h.2.size
def hC (x:ByteArray):List Value:=[.string x]
theorem kD (y:ByteArray):(hC y).length= 1:=rfl
end Go.Proofs.YtlaaemmmbodaaaaGreatDoor
namespace Go.G9
open Go.RowKit
def Fs (l:List UInt8):ByteArray:=⟨l.toArray⟩
theorem IQ (s:ByteArray):Fs s.data.toList= s:=by obtain⟨⟨l⟩⟩:=s;rfl
def lg (c:UInt8):List UInt8→List (List UInt8)
 | []=>[[]]
 | x ::l=>if x == c then [] ::lg c l else match lg c l with | []=>[[x]] | w ::ws=>(x ::w) ::ws
theorem Qk {c:UInt8}:∀{u:List UInt8},(∀x ∈ u,(x == c)= false)→lg c u= [u]
 | [],_=>rfl
 | x ::u,h=>by
  have ay:=h x (by simp);have eM:=Qk (u:=u) (fun y hy=>h y (by simp [hy]))
  simp only [lg,ay,eM];rfl
theorem Ql {c:UInt8}:∀{u v:List UInt8},(∀x ∈ u,(x == c)= false)→lg c (u ++ c ::v)= u ::lg c v
 | [],v,_=>by simp [lg]
 | x ::u,v,h=>by
  have ay:=h x (by simp);have eM:=Ql (u:=u) (v:=v) (fun y hy=>h y (by simp [hy]))
  simp only [List.cons_append,lg,ay,eM];rfl
theorem Qj (c:UInt8) (l:List UInt8):lg c l≠[]:=by
  cases l with
  | nil=>simp [lg]
  | cons x l=>unfold lg;split;· simp
              split <;> simp
theorem Qi (c:UInt8):∀l:List UInt8,(lg c l).length≤l.length + 1
 | []=>by simp [lg]
 | x ::l=>by
  have eM:=Qi c l
  unfold lg
  split
  ·simp;omega
  ·split
   ·simp
   ·rename_i h;rw [h] at eM;simp at eM ⊢;omega
theorem TW (s:ByteArray) (a b:Nat):(s.extract a b).data.toList= (s.data.toList.drop a).take (b - a):=by
 rw [ByteArray.data_extract,Array.toList_extract]
theorem SQ (s:ByteArray) {k:Nat} (az:k < s.size):s.data.toList[k]? =some s[k]:=by
 have h:k < s.data.toList.length:=by simpa using az
 rw [List.getElem?_eq_getElem h];rfl
end Go.G9
namespace Go.Proofs.YtlaaemmmbodaaaaGreatDoor
open Go.RowKit Go.G9
theorem AR:(Tryz.prog.info? 9).map (fun i=>(i.zero,i.size,i.bytes))= some (some (.string ⟨#[]⟩),1,16):=by kernel_rfl
theorem Cn (y:ByteArray) (u:Value) (h:u ∈ hC y):u.oneCell'= true:=by simp [hC] at h;subst h;rfl
def jk (c:UInt8) (s:ByteArray):List ByteArray:=(lg c s.data.toList).map Fs
theorem amj (s:ByteArray) (c:UInt8) (aX:s.size≤1048576) (w:World):Calls Tryz.prog 67 #[s,.int .u8 (c.toNat:Int)] w fun e ag=>∃A n,e= .returned (.slice A (jk c s).length n)∧aV w 9 1 hC ag (.slice A (jk c s).length n) (jk c s)∧Below w w ag:=by
 obtain⟨i0,hi,dy,dC,dN⟩:=info_parts AR
 have pd:=aV.built (B:=w.heap.size) (f:=hC) w ([]:List ByteArray) 9 (Nat.le_refl _) (by simp) kD
 simp only [List.flatMap_nil] at pd
 have ff:=J pd;clear pd;have jK:c.toNat < 256:=c.toNat_lt
 have aiM:(c.toNat:Int) < 256:=by omega
 go_in
 go_wp2
 go_loopw [5,6,7] (fun v5 v6 mg wr=>∃(xs:List ByteArray) (a k:Nat),k≤s.size∧a≤k∧v6= .int .i64 a∧mg= .int .i64 k∧xs.length≤k∧jk c s= xs ++ (lg c (s.data.toList.drop a)).map Fs∧(∀x ∈ (s.data.toList.drop a).take (k - a),(x == c)= false)∧
   aV w 9 1 hC wr v5 xs∧Below w w wr) (fun _ _ mg _=>1048577 - (intOf mg).toNat)
 case atStart=>
  exact⟨[],0,0,Nat.zero_le _,Nat.le_refl _,rfl,rfl,Nat.le_refl _,by simp [jk],by simp,ff.out,bZ _ _⟩
 case round=>
  obtain⟨xs,a,k,az,cT,rfl,rfl,qp,lK,GM,bP,aB⟩:=hrel
  obtain⟨py,c5,rfl,sA,_,_⟩:=bP.form kD
  have z0:=aB.size;have wq:=J bP.lt;have vJ:=J lK;have H1:=J GM;have dq:=J bP;clear lK GM bP
  by_cases bl:k < s.size
  ·have hK:s[k].toNat < 256:=s[k].toNat_lt
   have NS:=SQ s bl
   have Da:(s.data.toList.drop a)[k - a]? =some s[k]:=by rw [List.getElem?_drop,show a + (k - a)= k by omega];exact NS
   by_cases aE:s[k]= c
   ·have jD:((s[k].toNat:Int) == (c.toNat:Int))= true:=by rw [aE];exact beq_iff_eq.2 rfl
    have pG:jk c s= (xs ++ [s.extract a k]) ++ (lg c (s.data.toList.drop (k + 1))).map Fs:=by
     have e:s.data.toList.drop a= (s.data.toList.drop a).take (k - a) ++ c ::s.data.toList.drop (k + 1):=by
      have h1:k - a < (s.data.toList.drop a).length:=(List.getElem?_eq_some_iff.1 Da).1
      conv=>lhs;rw [← List.take_append_drop (k - a) (s.data.toList.drop a)]
      rw [List.drop_eq_getElem_cons h1]
      have h2:(s.data.toList.drop a)[k - a]= c:=by
       have:=(List.getElem?_eq_some_iff.1 Da).2
       rw [this,aE]
      rw [h2,List.drop_drop,show a + (k - a + 1)= k + 1 by omega]
     rw [vJ.out,e,Ql H1.out]
     simp only [List.map_cons,List.append_assoc,List.singleton_append]
     congr 2
     rw [← IQ (s.extract a k),TW]
    have gu:=J pG;clear pG aE NS Da;have ks:aH 1 hC (wr.alloc (.cells #[.string (s.extract a k)] 9)) (some ⟨wr.heap.size,0,none⟩) [s.extract a k]:=aH.one (sz:=1) (f:=hC) _ _;have sh:=J ks;clear ks;have lB:=J (dq.out.alloc (.cells #[.string (s.extract a k)] 9))
    go_wp2_with (at_builtin;refine lA rfl _ _ 57 rfl w.heap.size 9 i0 _ 1 16 Tryz.underlying57 hi dy dC dN rfl (by decide) hC kD Cn (.slice py xs c5) xs rfl lB.out ⟨wr.heap.size,0,none⟩ 1 (s.extract a k) rfl sh.out (by unfold maxLen;omega) (by omega) (by simp;omega) ?_;intro v4 ca fj gx lX)
    have z4:=gx.size;have gP:Below w w ca:=(aB.alloc (by omega) _).grown gx (by simp;omega) (fun q aZ=>(wq.out q aZ).1)
    go_roundw
    case rel=>exact⟨xs ++ [s.extract a k],k + 1,k + 1,by omega,Nat.le_refl _,by go_num,by go_num,by simp;omega,gu.out,by simp,fj,gP⟩
    case measure=>simp [intOf];omega
   ·have jD:((s[k].toNat:Int) == (c.toNat:Int))= false:=by
     rw [beq_eq_false_iff_ne]
     intro e
     exact aE (UInt8.toNat_inj.1 (by omega))
    have pG:∀x ∈ (s.data.toList.drop a).take (k + 1 - a),(x == c)= false:=fun x ay=>by
     have h1:k - a < (s.data.toList.drop a).length:=(List.getElem?_eq_some_iff.1 Da).1
     rw [show k + 1 - a= k - a + 1 by omega,List.take_succ_eq_append_getElem h1] at ay
     simp only [List.mem_append,List.mem_singleton] at ay
     rcases ay with ay | ay
     ·exact H1.out x ay
     ·rw [(List.getElem?_eq_some_iff.1 Da).2] at ay
      subst ay;exact beq_eq_false_iff_ne.2 aE
    have gu:=J pG;clear pG aE NS Da
    go_wp2
    go_roundw
    case rel=>exact⟨xs,a,k + 1,by omega,by omega,rfl,by go_num,by omega,vJ.out,gu.out,dq.out,aB⟩
    case measure=>simp [intOf];omega
  ·obtain rfl:k= s.size:=by omega
   have jM:xs ++ [s.extract a s.size]= jk c s:=by
    have eZ:s.data.toList.length= s.size:=by simp
    have h1:=H1.out
    rw [List.take_of_length_le (by rw [List.length_drop,eZ];omega)] at h1
    rw [vJ.out,Qk h1]
    simp only [List.map_cons,List.map_nil]
    congr 1
    rw [← IQ (s.extract a s.size),TW,List.take_of_length_le (by rw [List.length_drop,eZ];omega)]
   have cB:=J jM;clear jM;have ks:aH 1 hC (wr.alloc (.cells #[.string (s.extract a s.size)] 9)) (some ⟨wr.heap.size,0,none⟩) [s.extract a s.size]:=aH.one (sz:=1) (f:=hC) _ _;have sh:=J ks;clear ks;have lB:=J (dq.out.alloc (.cells #[.string (s.extract a s.size)] 9))
   go_wp2_with (at_builtin;refine lA rfl _ _ 57 rfl w.heap.size 9 i0 _ 1 16 Tryz.underlying57 hi dy dC dN rfl (by decide) hC kD Cn (.slice py xs c5) xs rfl lB.out ⟨wr.heap.size,0,none⟩ 1 (s.extract a s.size) rfl sh.out (by unfold maxLen;omega) (by omega) (by simp;omega) ?_;intro v4 ca fj gx lX)
   have z4:=gx.size;have gP:Below w w ca:=(aB.alloc (by omega) _).grown gx (by simp;omega) (fun q aZ=>(wq.out q aZ).1)
   rw [cB.out] at fj
   obtain⟨Le,rB,rfl,_,_,_⟩:=fj.form kD
   go_ret
   exact⟨Le,rB,rfl,fj,gP⟩
end Go.Proofs.YtlaaemmmbodaaaaGreatDoor
namespace Go.G9
open Go.RowKit
theorem Tq (c:UInt8):∀l:List UInt8,(∀x ∈ l,(x == c)= false)∨∃u v,l= u ++ c ::v∧∀x ∈ u,(x == c)= false
 | []=> .inl (by simp)
 | y ::l=>by
  cases hy:y == c
  ·rcases Tq c l with h | ⟨u,v,e,h⟩
   ·left;intro x ay
    rcases List.mem_cons.1 ay with rfl | ay
    ·exact hy
    ·exact h x ay
   ·right
    exact⟨y ::u,v,by rw [e];rfl,fun x ay=>by
     rcases List.mem_cons.1 ay with rfl | ay
     ·exact hy
     ·exact h x ay⟩
  ·right
   have:y= c:=by simpa using hy
   exact⟨[],l,by rw [this];rfl,by simp⟩
theorem WR {c:UInt8}:∀{l:List UInt8},(∀x ∈ l,(x == c)= false)→Lib.indexByte l c= -1
 | [],_=>rfl
 | y ::l,h=>by
  have eM:=WR (l:=l) (fun x ay=>h x (by simp [ay]))
  simp [Lib.indexByte,h y (by simp),eM]
theorem WQ {c:UInt8}:∀{u v:List UInt8},(∀x ∈ u,(x == c)= false)→Lib.indexByte (u ++ c ::v) c= (u.length:Int)
 | [],v,_=>by simp [Lib.indexByte]
 | y ::u,v,h=>by
  have eM:=WQ (u:=u) (v:=v) (fun x ay=>h x (by simp [ay]))
  have eP:((u.length:Int) == -1)= false:=by rw [beq_eq_false_iff_ne];omega
  simp only [List.cons_append,Lib.indexByte,h y (by simp),eM,eP,List.length_cons]
  simp
theorem ZJ (c:UInt8) (l:List UInt8):Lib.splitK [c] 0 (Lib.count l [c]) l= lg c l:=by
 rcases Tq c l with h | ⟨u,v,e,h⟩
 ·have hi:Lib.index l [c]= -1:=by rw [Lib.index_one,WR h]
  rw [Lib.count_miss hi,Qk h];rfl
 ·have hi:Lib.index l [c]= (u.length:Nat):=by rw [Lib.index_one,e,WQ h]
  have hm:¬(Lib.index l [c] == -1)= true:=fun q=>by have:=beq_iff_eq.1 q;omega
  have bO:l.drop (u.length + [c].length)= v:=by
   rw [e];simp [List.drop_append]
  have cE:l.take (u.length + 0)= u:=by rw [e];simp
  rw [Lib.count_hit (by simp) hi,bO,Nat.add_comm 1,Lib.splitK,if_neg hm]
  have aY:(Lib.index l [c]).toNat= u.length:=by omega
  rw [aY,bO,cE,ZJ c v,e,Ql h]
termination_by l.length
decreasing_by rw [e];simp;omega
theorem aqA (c:UInt8) (s:ByteArray):Lib.splitB ⟨#[c]⟩ 0 (Lib.countB s ⟨#[c]⟩) s= (lg c s.data.toList).map Fs:=by
 have h:=Lib.splitB_data ⟨#[c]⟩ 0 (Lib.countB s ⟨#[c]⟩) s;have h2:Lib.splitK (⟨#[c]⟩ :ByteArray).data.toList 0 (Lib.countB s ⟨#[c]⟩) s.data.toList= lg c s.data.toList:=ZJ c s.data.toList
 rw [h2] at h
 rw [← h,List.map_map]
 conv=>lhs;rw [← List.map_id (Lib.splitB ⟨#[c]⟩ 0 (Lib.countB s ⟨#[c]⟩) s)]
 exact List.map_congr_left fun x _=>(IQ x).symm
end Go.G9
namespace Go.Proofs.YtlaaemmmbodaaaaGreatDoor
open Go.RowKit Go.G9
def Ag (w:World):Prop:=1 < w.heap.size∧∃m:Int,w.cell? ⟨1,0,none⟩ =some (.int .i64 m)
theorem Ag.below {w ag:World} (h:Ag w) (aB:Below w w ag):Ag ag:=by
 obtain⟨h1,m,h2⟩:=h
 exact⟨Nat.lt_of_lt_of_le h1 aB.size,m,(aB.cell (p:=⟨1,0,none⟩) h1).trans h2⟩
theorem alz (s:ByteArray) (c:UInt8) (aX:s.size≤1048576) (w:World) (aW:Ag w):Calls Tryz.prog 66 #[s,.string ⟨#[c]⟩] w fun e ag=>∃A n,e= .returned (.slice A (jk c s).length n)∧aV w 9 1 hC ag (.slice A (jk c s).length n) (jk c s)∧Below w w ag:=by
 obtain⟨h1,m,h2⟩:=aW
 refine (Tryz.strings_Split s ⟨#[c]⟩ m w (by omega) h2 (Nat.le_refl _)).mono ?_
 rintro e ag ⟨rfl,rfl⟩
 have ou:=aqA c s
 have hlen:Lib.countB s ⟨#[c]⟩ + 1= (jk c s).length:=by
  have:=Lib.splitB_all ⟨#[c]⟩ (Nat.le_refl _) 0 (Lib.countB s ⟨#[c]⟩) s rfl
  rw [ou] at this;exact this.symm
 have jK:(jk c s).length≤maxLen:=by
  have:=Qi c s.data.toList
  have h3:s.data.toList.length= s.size:=by simp
  unfold jk maxLen;rw [List.length_map];omega
 have bP:=aV.built (B:=w.heap.size) (f:=hC) w (jk c s) 9 (Nat.le_refl _) jK kD
 have aiL:(jk c s).flatMap hC= (jk c s).map Value.string:=by
  generalize jk c s= L
  induction L with
  | nil=>rfl
  | cons x L eM=>simp [hC,eM]
 rw [aiL] at bP
 rw [hlen]
 refine⟨some ⟨w.heap.size,0,none⟩,(jk c s).length,rfl,?_,bZ _ _⟩
 rw [ou]
 exact bP
end Go.Proofs.YtlaaemmmbodaaaaGreatDoor
namespace Go.G9
open Go.RowKit
theorem Mr (a b:ByteArray):(a ++ b).data.toList= a.data.toList ++ b.data.toList:=by simp
end Go.G9
namespace Go.Proofs.YtlaaemmmbodaaaaGreatDoor
open Go.RowKit Go.G9
def ov (ws:List ByteArray):Nat→ByteArray
 | 0=>(ws[0]?).getD ⟨#[]⟩
 | k + 1=>match ws[k + 1]? with | some y=>ov ws k ++ (⟨#[32]⟩ :ByteArray) ++ y | none=>ov ws k
def lu (ws:List ByteArray):ByteArray:=if ws.length= 0 then (⟨#[110,111,110,101]⟩ :ByteArray) else ov ws (ws.length - 1)
theorem WU {ws:List ByteArray} {k:Nat} {y:ByteArray} (h:ws[k + 1]? =some y):ov ws (k + 1)= ov ws k ++ (⟨#[32]⟩ :ByteArray) ++ y:=by rw [ov,h]
theorem WT (x:ByteArray) (r:List ByteArray):∀k,k≤r.length→(ov (x ::r) k).data.toList= x.data.toList ++ Lib.joinTail ((⟨#[32]⟩ :ByteArray):ByteArray).data.toList ((r.map (·.data.toList)).take k)
 | 0,_=>by simp [ov,Lib.joinTail]
 | k + 1,az=>by
  have eM:=WT x r k (by omega);have hy:r[k]? =some r[k]:=List.getElem?_eq_getElem (by omega)
  rw [WU (y:=r[k]) (by simp),Mr,Mr,eM,Lib.joinTail_take_succ _ _ k (r[k]).data.toList (by simp [hy])]
  simp only [List.append_assoc]
theorem alZ {ws:List ByteArray} (h:ws.length≠0):(⟨(Lib.join (ws.map (·.data.toList)) ((⟨#[32]⟩ :ByteArray):ByteArray).data.toList).toArray⟩ :ByteArray)= lu ws:=by
 cases ws with
 | nil=>simp at h
 | cons x r=>
  have e:=WT x r r.length (Nat.le_refl _)
  rw [lu,if_neg h,List.length_cons,Nat.add_sub_cancel,List.map_cons,Lib.join_cons]
  have e2:((r.map (·.data.toList)).take r.length)= r.map (·.data.toList):=List.take_of_length_le (by simp)
  rw [e2] at e
  rw [← e]
theorem Pd {ws:List ByteArray} {n:Nat} (h:∀x ∈ ws,x.size≤n):∀k,(ov ws k).size≤(k + 1) * (n + 1)
 | 0=>by
  cases ws with
  | nil=>exact Nat.zero_le _
  | cons x r=>have:=h x (by simp);simp [ov];omega
 | k + 1=>by
  have eM:=Pd h k
  have e:(k + 1 + 1) * (n + 1)= (k + 1) * (n + 1) + (n + 1):=by rw [Nat.succ_mul]
  unfold ov
  split
  ·rename_i y hy
   have:=h y (List.mem_of_getElem? hy);have e1:((⟨#[32]⟩ :ByteArray):ByteArray).size= 1:=rfl
   simp only [ByteArray.size_append];omega
  ·omega
def lL (rs:List aJ) (id:Int):ByteArray:=match hD rs id with | some r=>r.name | none=>⟨#[]⟩
def lx (rs:List aJ) (q:aL):ByteArray:=lL rs q.fW
theorem XZ {rs:List aJ} {id:Int} {r:aJ} (h:hD rs id= some r):lL rs id= r.name:=by rw [lL,h]
def pk (xs:List Int):ByteArray:=lu (xs.map eQ)
def Hl (nm:ByteArray) (z:aJ):Bool:=z.name.toList == nm.toList
def uE (rs:List aJ) (nm:ByteArray):Option aJ:=rs.find? (Hl nm)
def rX (rs:List aJ) (p:UInt8) (w:ByteArray):Option Int:=if p= 110 then (if fg w then some (hk w.data.toList) else none) else (uE rs w).map (fun r=>r.id)
def nK (rs:List aJ) (ps:List UInt8) (ws:List ByteArray):Nat→Option (List Int)
 | 0=>some []
 | k + 1=>match nK rs ps ws k,ps[k]?,ws[k]? with | some l,some p,some w=>(rX rs p w).map (fun n=>l ++ [n]) | _,_,_=>none
def ly (rs:List aJ) (pt:ByteArray) (ws:List ByteArray):Option (List Int):=if ws.length= pt.size then nK rs pt.data.toList ws ws.length else none
theorem wC {rs:List aJ} {ps:List UInt8} {ws:List ByteArray} {k:Nat} {l:List Int} {p:UInt8} {w:ByteArray} (h:nK rs ps ws k= some l) (aO:ps[k]? =some p) (hw:ws[k]? =some w):nK rs ps ws (k + 1)= (rX rs p w).map (fun n=>l ++ [n]):=by rw [nK,h,aO,hw]
theorem Hv {rs:List aJ} {ps:List UInt8} {ws:List ByteArray} {k:Nat} (h:nK rs ps ws k= none):∀j,nK rs ps ws (k + j)= none
 | 0=>h
 | j + 1=>by rw [← Nat.add_assoc,nK,Hv h j]
theorem PO {rs:List aJ} {ps:List UInt8} {ws:List ByteArray}:∀{k:Nat} {l:List Int},nK rs ps ws k= some l→l.length= k
 | 0,l,h=>by cases h;rfl
 | k + 1,l,h=>by
  rw [nK] at h
  split at h
  ·rename_i js p w h0 _ _
   cases bu:rX rs p w with
   | none=>rw [bu] at h;cases h
   | some n=>rw [bu] at h;cases h;simp [PO h0]
  ·cases h
def eF (w:ByteArray):Nat:=if w= (⟨#[110,101,120,116]⟩ :ByteArray) then 0 else if w= (⟨#[121,105,101,108,100]⟩ :ByteArray) then 1 else if w= (⟨#[100,114,111,112]⟩ :ByteArray) then 2 else if w= (⟨#[112,101,110,100,105,110,103]⟩ :ByteArray) then 3 else if w= (⟨#[109,97,121]⟩ :ByteArray) then 4 else if w= (⟨#[111,114,100,101,114]⟩ :ByteArray) then 5 else if w= (⟨#[97,100,111,112,116,101,100]⟩ :ByteArray) then 6 else if w= (⟨#[115,101,99,111,110,100]⟩ :ByteArray) then 7 else if w= (⟨#[97,115,107]⟩ :ByteArray) then 8 else if w= (⟨#[115,112,101,97,107]⟩ :ByteArray) then 9 else if w= (⟨#[119,105,116,104,100,114,97,119]⟩ :ByteArray) then 10 else if w= (⟨#[108,101,102,116]⟩ :ByteArray) then 11 else if w= (⟨#[109,111,118,101,100]⟩ :ByteArray) then 12 else if w= (⟨#[109,111,118,101]⟩ :ByteArray) then 13 else if w= (⟨#[118,111,116,101]⟩ :ByteArray) then 14 else 15
structure zQ (w:ByteArray) (i:Nat):Prop where
 f0:(w.toList == [110,101,120,116])= (i == 0)
 f1:(w.toList == [121,105,101,108,100])= (i == 1)
 f2:(w.toList == [100,114,111,112])= (i == 2)
 f3:(w.toList == [112,101,110,100,105,110,103])= (i == 3)
 f4:(w.toList == [109,97,121])= (i == 4)
 f5:(w.toList == [111,114,100,101,114])= (i == 5)
 f6:(w.toList == [97,100,111,112,116,101,100])= (i == 6)
 f7:(w.toList == [115,101,99,111,110,100])= (i == 7)
 f8:(w.toList == [97,115,107])= (i == 8)
 f9:(w.toList == [115,112,101,97,107])= (i == 9)
 f10:(w.toList == [119,105,116,104,100,114,97,119])= (i == 10)
 f11:(w.toList == [108,101,102,116])= (i == 11)
 f12:(w.toList == [109,111,118,101,100])= (i == 12)
 f13:(w.toList == [109,111,118,101])= (i == 13)
 f14:(w.toList == [118,111,116,101])= (i == 14)
theorem WO {p:Prop} [Decidable p] {a b n:Nat} (cT:a≤n) (aB:b≤n):(if p then a else b)≤n:=by split <;> assumption
theorem Fu (w:ByteArray):eF w≤15:=by
 unfold eF
 repeat (first | exact WO (by decide) (by decide) | refine WO (by decide) ?_)
theorem qv (w:ByteArray) (l:List UInt8):(w.toList == l)= decide (w=⟨l.toArray⟩):=by
 rw [ByteArray.toList_eq]
 by_cases h:w=⟨l.toArray⟩
 ·subst h;simp
 ·rw [decide_eq_false h,beq_eq_false_iff_ne]
  intro e
  exact h (yI (by rw [e]))
theorem ry {p:Prop} (h:p:=by
 refine⟨?_,?_,?_,?_,?_,?_,?_,?_,?_,?_,?_,?_,?_,?_,?_⟩ <;> rw [qv] <;> decide +kernel):p:=h
theorem Ct (w:ByteArray):zQ w (eF w):=by
 unfold eF
 by_cases h0:w= (⟨#[110,101,120,116]⟩ :ByteArray)
 ·subst h0
  exact ry
 rw [if_neg h0]
 by_cases h1:w= (⟨#[121,105,101,108,100]⟩ :ByteArray)
 ·subst h1
  exact ry
 rw [if_neg h1]
 by_cases h2:w= (⟨#[100,114,111,112]⟩ :ByteArray)
 ·subst h2
  exact ry
 rw [if_neg h2]
 by_cases h3:w= (⟨#[112,101,110,100,105,110,103]⟩ :ByteArray)
 ·subst h3
  exact ry
 rw [if_neg h3]
 by_cases h4:w= (⟨#[109,97,121]⟩ :ByteArray)
 ·subst h4
  exact ry
 rw [if_neg h4]
 by_cases h5:w= (⟨#[111,114,100,101,114]⟩ :ByteArray)
 ·subst h5
  exact ry
 rw [if_neg h5]
 by_cases h6:w= (⟨#[97,100,111,112,116,101,100]⟩ :ByteArray)
 ·subst h6
  exact ry
 rw [if_neg h6]
 by_cases h7:w= (⟨#[115,101,99,111,110,100]⟩ :ByteArray)
 ·subst h7
  exact ry
 rw [if_neg h7]
 by_cases h8:w= (⟨#[97,115,107]⟩ :ByteArray)
 ·subst h8
  exact ry
 rw [if_neg h8]
 by_cases h9:w= (⟨#[115,112,101,97,107]⟩ :ByteArray)
 ·subst h9
  exact ry
 rw [if_neg h9]
 by_cases h10:w= (⟨#[119,105,116,104,100,114,97,119]⟩ :ByteArray)
 ·subst h10
  exact ry
 rw [if_neg h10]
 by_cases h11:w= (⟨#[108,101,102,116]⟩ :ByteArray)
 ·subst h11
  exact ry
 rw [if_neg h11]
 by_cases h12:w= (⟨#[109,111,118,101,100]⟩ :ByteArray)
 ·subst h12
  exact ry
 rw [if_neg h12]
 by_cases h13:w= (⟨#[109,111,118,101]⟩ :ByteArray)
 ·subst h13
  exact ry
 rw [if_neg h13]
 by_cases h14:w= (⟨#[118,111,116,101]⟩ :ByteArray)
 ·subst h14
  exact ry
 rw [if_neg h14]
 exact⟨by rw [qv,decide_eq_false h0];rfl,by rw [qv,decide_eq_false h1];rfl,by rw [qv,decide_eq_false h2];rfl,by rw [qv,decide_eq_false h3];rfl,by rw [qv,decide_eq_false h4];rfl,by rw [qv,decide_eq_false h5];rfl,by rw [qv,decide_eq_false h6];rfl,by rw [qv,decide_eq_false h7];rfl,by rw [qv,decide_eq_false h8];rfl,by rw [qv,decide_eq_false h9];rfl,by rw [qv,decide_eq_false h10];rfl,by rw [qv,decide_eq_false h11];rfl,by rw [qv,decide_eq_false h12];rfl,by rw [qv,decide_eq_false h13];rfl,by rw [qv,decide_eq_false h14];rfl⟩
theorem Kc {i:Nat} (h:i≤15):i= 0∨i= 1∨i= 2∨i= 3∨i= 4∨i= 5∨i= 6∨i= 7∨i= 8∨i= 9∨i= 10∨i= 11∨i= 12∨i= 13∨i= 14∨i= 15:=by omega
def my:Nat→Option ByteArray
 | 0 | 1 | 2 | 3 | 4 | 5 | 6=>some ⟨#[]⟩
 | 7 | 8 | 9 | 10 | 11 | 12=>some (⟨#[110]⟩ :ByteArray)
 | 13=>some (⟨#[114,110]⟩ :ByteArray)
 | 14=>some (⟨#[110,110,110]⟩ :ByteArray)
 | _=>none
def sk:Nat→List Int→Option oG
 | 0,_=>some ⟨4,0,0,0,0,0⟩
 | 1,_=>some ⟨6,0,0,0,0,0⟩
 | 2,_=>some ⟨9,0,0,0,0,0⟩
 | 7,[n]=>some ⟨2,n,0,0,0,0⟩
 | 8,[n]=>some ⟨3,n,0,0,0,0⟩
 | 9,[n]=>some ⟨5,0,n,0,0,0⟩
 | 10,[n]=>some ⟨8,n,0,0,0,0⟩
 | 13,[v,n]=>some ⟨1,n,v,0,0,0⟩
 | 14,[a,b,c]=>some ⟨7,0,0,a,b,c⟩
 | _,_=>none
def amM (m:cz) (n:Int):Int:=m.cQ - (ev m.bK n).cQ
def jU (m:cz):Nat→List Int→Option ByteArray
 | 3,_=>some (lu (m.bD.map (lx m.br)))
 | 4,_=>some (lu ((hz m.br m.bD).map (lL m.br)))
 | 5,_=>some (pk (kM m.gD))
 | 6,_=>some (pk (ko m.bt m.bt.length))
 | 11,[n]=>if eG n then some (eQ (amM m n)) else none
 | 12,[n]=>if eG n then some (pk [(hE m.bt n m.bt.length).1,(hE m.bt n m.bt.length).2]) else none
 | _,_=>none
def Hd (m:cz):Bool:=match m.bt[m.bt.length - 1]? with | some o=>o.hB | none=>false
def pR (n:cz) (kind:Int):ByteArray:=if kind= 4 then eQ n.dH else if kind= 7 then (if Hd n then (⟨#[97,100,111,112,116,101,100]⟩ :ByteArray) else (⟨#[108,111,115,116]⟩ :ByteArray)) else (⟨#[111,107]⟩ :ByteArray)
def nB (m:cz):List ByteArray→Option (cz×ByteArray)
 | []=>none
 | w ::r=>match my (eF w) with
  | none=>none
  | some p=>match ly m.br p r with
   | none=>none
   | some l=>match sk (eF w) l with
    | some a=>(gF m a).map (fun n=>(n,pR n a.kind))
    | none=>(jU m (eF w) l).map (fun s=>(m,s))
def jy (m:cz) (ws:List ByteArray):cz×ByteArray:=(nB m ws).getD (m,(⟨#[63]⟩ :ByteArray))
def oy (m:cz) (a:oG) (s:ByteArray):cz×ByteArray:=match gF m a with | some n=>(n,s) | none=>(m,(⟨#[63]⟩ :ByteArray))
def sl (m:cz) (a:oG):cz×ByteArray:=match gF m a with | some n=>(n,pR n a.kind) | none=>(m,(⟨#[63]⟩ :ByteArray))
theorem agY {m n:cz} {ws:List ByteArray} {s:ByteArray} (h:gM m) (he:nB m ws= some (n,s)):gM n:=by
 cases ws with
 | nil=>cases he
 | cons w r=>
  rw [nB] at he
  cases h1:my (eF w) with
  | none=>rw [h1] at he;cases he
  | some p=>
   rw [h1] at he
   dsimp only at he
   cases h2:ly m.br p r with
   | none=>rw [h2] at he;cases he
   | some l=>
    rw [h2] at he
    dsimp only at he
    cases h3:sk (eF w) l with
    | some a=>
     rw [h3] at he
     dsimp only at he
     cases hm:gF m a with
     | none=>rw [hm] at he;cases he
     | some k=>rw [hm] at he;cases he;exact JZ h hm
    | none=>
     rw [h3] at he
     dsimp only at he
     cases aZ:jU m (eF w) l with
     | none=>rw [aZ] at he;cases he
     | some k=>rw [aZ] at he;cases he;exact h
theorem TS {m:cz} {ws:List ByteArray} (h:gM m):gM (jy m ws).1:=by
 unfold jy
 cases he:nB m ws with
 | none=>exact h
 | some q=>obtain⟨n,s⟩:=q;exact agY h he
theorem agW {m:cz} {w:ByteArray} {r:List ByteArray} (h:my (eF w)= none):jy m (w ::r)= (m,(⟨#[63]⟩ :ByteArray)):=by simp [jy,nB,h]
theorem agU {m:cz} {w p:ByteArray} {r:List ByteArray} (h:my (eF w)= some p) (aS:r.length≠p.size):jy m (w ::r)= (m,(⟨#[63]⟩ :ByteArray)):=by simp [jy,nB,h,ly,aS]
theorem Jb {m:cz} {w p:ByteArray} {r:List ByteArray} (h:my (eF w)= some p) (aS:ly m.br p r= none):jy m (w ::r)= (m,(⟨#[63]⟩ :ByteArray)):=by simp [jy,nB,h,aS]
theorem CA {m:cz} {w p:ByteArray} {r:List ByteArray} {l:List Int} {a:oG} (h:my (eF w)= some p) (aS:ly m.br p r= some l) (cT:sk (eF w) l= some a):jy m (w ::r)= sl m a:=by
 simp only [jy,nB,h,aS,cT,sl]
 cases gF m a <;> rfl
theorem TR {m:cz} {w p:ByteArray} {r:List ByteArray} {l:List Int} {s:Option ByteArray} (h:my (eF w)= some p) (aS:ly m.br p r= some l) (cT:sk (eF w) l= none) (aX:jU m (eF w) l= s):jy m (w ::r)= (m,s.getD (⟨#[63]⟩ :ByteArray)):=by
 simp only [jy,nB,h,aS,cT,aX]
 cases s <;> rfl
theorem Kr (rs:List aJ):ly rs ⟨#[]⟩ []= some []:=rfl
theorem Hx (rs:List aJ) (x:ByteArray):rX rs 110 x= if fg x then some (hk x.data.toList) else none:=by rw [rX,if_pos rfl]
theorem aon (rs:List aJ) (x:ByteArray):rX rs 114 x= (uE rs x).map (fun r=>r.id):=by rw [rX,if_neg (by decide)]
theorem aoh (rs:List aJ) (x:ByteArray):ly rs (⟨#[110]⟩ :ByteArray) [x]= if fg x then some [hk x.data.toList] else none:=by
 rw [ly,if_pos (show [x].length= ((⟨#[110]⟩ :ByteArray):ByteArray).size from rfl)]
 show nK rs [110] [x] 1= _
 rw [wC (l:=[]) (p:=110) (w:=x) rfl rfl rfl,Hx]
 cases fg x <;> rfl
theorem aoj (rs:List aJ) (x y:ByteArray):ly rs (⟨#[114,110]⟩ :ByteArray) [x,y]= match uE rs x with | some r=>(if fg y then some [r.id,hk y.data.toList] else none) | none=>none:=by
 rw [ly,if_pos (show [x,y].length= ((⟨#[114,110]⟩ :ByteArray):ByteArray).size from rfl)]
 show nK rs [114,110] [x,y] 2= _
 have e1:nK rs [114,110] [x,y] 1= (rX rs 114 x).map (fun n=>[] ++ [n]):=wC rfl rfl rfl
 rw [aon] at e1
 cases hf:uE rs x with
 | none=>rw [hf] at e1;exact Hv e1 1
 | some r=>
  rw [hf] at e1
  rw [wC (k:=1) (l:=[r.id]) (p:=110) (w:=y) e1 rfl rfl,Hx]
  cases fg y <;> rfl
theorem aoi (rs:List aJ) (x y z:ByteArray):ly rs (⟨#[110,110,110]⟩ :ByteArray) [x,y,z]= if fg x && (fg y && fg z) then some [hk x.data.toList,hk y.data.toList,hk z.data.toList] else none:=by
 rw [ly,if_pos (show [x,y,z].length= ((⟨#[110,110,110]⟩ :ByteArray):ByteArray).size from rfl)]
 show nK rs [110,110,110] [x,y,z] 3= _
 have e1:nK rs [110,110,110] [x,y,z] 1= (rX rs 110 x).map (fun n=>[] ++ [n]):=wC rfl rfl rfl
 rw [Hx] at e1
 cases ay:fg x
 ·rw [ay] at e1;exact Hv e1 2
 rw [ay] at e1
 have e2:nK rs [110,110,110] [x,y,z] 2= (rX rs 110 y).map (fun n=>[hk x.data.toList] ++ [n]):=wC e1 rfl rfl
 rw [Hx] at e2
 cases hy:fg y
 ·rw [hy] at e2;exact Hv e2 1
 rw [hy] at e2
 rw [wC (k:=2) (l:=[hk x.data.toList,hk y.data.toList]) (p:=110) (w:=z) e2 rfl rfl,Hx]
 cases fg z <;> rfl
open Go.RowKit Go.G9
def po (s:ByteArray):ByteArray:=if 200 < s.size then (⟨#[108,111,110,103]⟩ :ByteArray) else s
def qt (m:cz) (l:ByteArray):cz×ByteArray:=jy m (jk 32 l)
def Al (x:fv) (l:ByteArray):fv:=(qt x.kI l).1.Tf (iQ x.log ⟨l,po (qt x.kI l).2⟩).eJ (iQ x.log ⟨l,po (qt x.kI l).2⟩).eR (iQ x.log ⟨l,po (qt x.kI l).2⟩).ec
def cG (x:fv) (l:ByteArray):fv:=if lH x && (lM l ⟨#[]⟩ && !(x.ec == 60)) then Al x l else x
def sq (x:fv) (l:ByteArray):ByteArray:=if lH x then (if lM l ⟨#[]⟩ then (if x.ec == 60 then (⟨#[102,117,108,108]⟩ :ByteArray) else po (qt x.kI l).2) else (⟨#[98,97,100]⟩ :ByteArray)) else (⟨#[110,111]⟩ :ByteArray)
theorem afV (x:fv) (l:ByteArray):(Al x l).log= iQ x.log ⟨l,po (qt x.kI l).2⟩:=rfl
theorem Fv {x:fv} (h:lH x= true):gM x.kI:=by
 unfold lH at h;rw [Bool.and_eq_true] at h;exact Dv.1 h.1
theorem Tk {x:fv} (h:lH x= true):x.log.ok= true:=by
 unfold lH at h;rw [Bool.and_eq_true] at h;exact h.2
theorem amS {x:hZ} (h:x.ok= true):x.eJ.size + x.eR.size≤30000∧0≤x.ec∧x.ec≤60:=by
 obtain⟨h0,h1,h2⟩:=JT h
 unfold hZ.d hZ.p at h2
 rw [Array.length_toList,Array.length_toList] at h2
 exact⟨h2,h0,h1⟩
theorem Yn (a b:ByteArray):jt (a ++ b)= (jt a && jt b):=by unfold jt;rw [Mr,List.all_append]
theorem ach {p:Prop} (h:p:=by
 simp only [oT,h2,Bool.and_eq_true,decide_eq_true_eq,Bool.not_false,and_true]
 omega):p:=h
theorem PG (n:Int):jt (eQ n)= true:=by
 unfold jt eQ
 show (Lib.itoa n).all oT= true
 have bO:∀u,(Lib.decDigits u).all oT= true:=fun u=>by
  rw [List.all_eq_true]
  intro c aE
  have h1:=(An u).2.1 c aE
  simp only [mJ,Bool.and_eq_true,decide_eq_true_eq] at h1
  have h2:(c == 35)= false:=by
   rw [beq_eq_false_iff_ne]
   rintro rfl
   have:=h1.1
   revert this;decide
  exact ach
 unfold Lib.itoa
 split
 ·rw [List.all_cons,bO];rfl
 ·exact bO _
theorem anT {s:ByteArray} (h:wO s= true):jt s= true:=by
 unfold wO at h
 rw [Bool.and_eq_true] at h
 have h1:=h.1
 unfold tD at h1
 rw [List.all_eq_true] at h1
 unfold jt
 rw [List.all_eq_true]
 intro c aE
 have h3:=h1 c aE
 simp only [Bool.and_eq_true,decide_eq_true_eq] at h3
 have h2:(c == 35)= false:=by
  rw [beq_eq_false_iff_ne]
  rintro rfl
  have:=h3.1
  revert this;decide
 exact ach
theorem Yo {ws:List ByteArray} (h:∀x ∈ ws,jt x= true):∀k,jt (ov ws k)= true
 | 0=>by
  unfold ov
  cases hw:ws[0]? with
  | none=>rfl
  | some x=>exact h x (List.mem_of_getElem? hw)
 | k + 1=>by
  have eM:=Yo h k
  unfold ov
  split
  ·rename_i y hy
   rw [Yn,Yn,eM,h y (List.mem_of_getElem? hy)];rfl
  ·exact eM
theorem PE {ws:List ByteArray} (h:∀x ∈ ws,jt x= true):jt (lu ws)= true:=by
 unfold lu
 split
 ·rfl
 ·exact Yo h _
theorem PF (xs:List Int):jt (pk xs)= true:=PE fun x ay=>by
 obtain⟨n,_,rfl⟩:=List.mem_map.1 ay
 exact PG n
theorem XY {rs:List aJ} (h:kx rs= true) (id:Int):jt (lL rs id)= true:=by
 unfold lL
 cases hf:hD rs id with
 | none=>rfl
 | some r=>
  obtain⟨k,az⟩:=List.mem_iff_getElem?.1 (List.mem_of_find?_eq_some hf)
  exact anT (zA (zB h az)).2.2.2.2.2.2
theorem afD {m:cz} (h:gM m) {i:Nat} {l:List Int} {s:ByteArray} (aX:jU m i l= some s):jt s= true:=by
 have bu:=(nr h.hq).1
 unfold jU at aX
 split at aX
 ·cases aX;exact PE fun x ay=>by obtain⟨q,_,rfl⟩:=List.mem_map.1 ay;exact XY bu _
 ·cases aX;exact PE fun x ay=>by obtain⟨q,_,rfl⟩:=List.mem_map.1 ay;exact XY bu _
 ·cases aX;exact PF _
 ·cases aX;exact PF _
 ·split at aX
  ·cases aX;exact PG _
  ·cases aX
 ·split at aX
  ·cases aX;exact PF _
  ·cases aX
 ·cases aX
theorem aoG (n:cz) (k:Int):jt (pR n k)= true:=by
 unfold pR
 split
 ·exact PG _
 split
 ·split <;> rfl
 ·rfl
theorem agV {m:cz} (h:gM m) (ws:List ByteArray):jt (jy m ws).2= true:=by
 unfold jy
 cases he:nB m ws with
 | none=>rfl
 | some q=>
  obtain⟨n,s⟩:=q
  show jt s= true
  cases ws with
  | nil=>cases he
  | cons w r=>
   rw [nB] at he
   cases h1:my (eF w) with
   | none=>rw [h1] at he;cases he
   | some p=>
    rw [h1] at he
    dsimp only at he
    cases h2:ly m.br p r with
    | none=>rw [h2] at he;cases he
    | some l=>
     rw [h2] at he
     dsimp only at he
     cases h3:sk (eF w) l with
     | some a=>
      rw [h3] at he
      dsimp only at he
      cases hm:gF m a with
      | none=>rw [hm] at he;cases he
      | some k=>rw [hm] at he;cases he;exact aoG _ _
     | none=>
      rw [h3] at he
      dsimp only at he
      cases aZ:jU m (eF w) l with
      | none=>rw [aZ] at he;cases he
      | some k=>rw [aZ] at he;cases he;exact afD h aZ
theorem aoN {s:ByteArray} (h:jt s= true):jt (po s)= true∧(po s).size≤200:=by
 unfold po
 split
 ·exact⟨rfl,by decide⟩
 ·exact⟨h,by omega⟩
theorem aoF {l r:ByteArray} (h:lM l ⟨#[]⟩ =true) (aO:jt r= true) (aX:r.size≤200):lM l r= true:=by
 unfold lM at h ⊢
 simp only [Bool.and_eq_true,decide_eq_true_eq] at h ⊢
 exact⟨h.1,aX,h.2.2.1,aO,h.2.2.2.2⟩
theorem YL {l r:ByteArray} (h:lM l r= true):1≤l.size∧l.size≤160:=by
 unfold lM at h
 simp only [Bool.and_eq_true,decide_eq_true_eq,rM] at h
 omega
theorem afU {x:fv} {l:ByteArray} (h:lH x= true) (bu:lM l ⟨#[]⟩ =true) (aE:(x.ec == 60)= false):Cl x.log ⟨l,po (qt x.kI l).2⟩ =0:=by
 obtain⟨dI,dj⟩:=aoN (agV (Fv h) (jk 32 l))
 have h1:kK (fX.c ⟨l,po (qt x.kI l).2⟩) (fX.r ⟨l,po (qt x.kI l).2⟩)= true:=by
  unfold kK
  rw [IN,IP]
  exact aoF bu dI dj
 have h2:np x.log.d x.log.p x.log.ec= true:=Tk h;have h3:(x.log.ec == 60)= false:=aE
 unfold Cl tm qG
 rw [h2,h1,h3];rfl
theorem afW {x:fv} {l:ByteArray} (h:lH x= true) (bu:lM l ⟨#[]⟩ =true) (aE:(x.ec == 60)= false):lH (Al x l)= true:=by
 have h1:=(afr (afU h bu aE)).2.1;have h2:gM (Al x l).kI:=TS (Fv h)
 unfold lH
 rw [Dv.2 h2,afV,h1];rfl
theorem afX {x:fv} {l:ByteArray} (h:lH x= true):lH (cG x l)= true:=by
 unfold cG
 split
 ·rename_i aE
  simp only [Bool.and_eq_true,Bool.not_eq_true'] at aE
  exact afW h aE.2.1 aE.2.2
 ·exact h
structure jw (x:fv):Prop where
 js:x.br.length≤1048576
 jo:x.bD.length≤1048576
 mQ:x.bE.length≤1048576
 qq:x.bK.length≤1048576
 sI:x.bt.length≤1048576
 amw:x.eJ.size + x.eR.size≤1048576
theorem afY {x:fv} (h:lH x= true):jw x:=by
 obtain⟨a0,a1,a2,a3,a4⟩:=tE (Fv h)
 have h5:=(amS (Tk h)).1
 unfold fv.kI at a0 a1 a2 a3 a4
 unfold fv.log at h5
 simp only at a0 a1 a2 a3 a4 h5
 exact⟨by omega,by omega,by omega,by omega,by omega,by omega⟩
theorem kp {x:fv} (l:ByteArray) (h:jw x):jw (cG x l):=by
 cases aB:lH x
 ·unfold cG;rw [aB];exact h
 ·exact afY (afX aB)
theorem Tl {x:fv} {l:ByteArray} (h:lH x= false):cG x l= x∧sq x l= (⟨#[110,111]⟩ :ByteArray):=by
 unfold cG sq;rw [h];exact⟨rfl,rfl⟩
theorem Ti {x:fv} {l:ByteArray} (h:lH x= true) (bu:lM l ⟨#[]⟩ =false):cG x l= x∧sq x l= (⟨#[98,97,100]⟩ :ByteArray):=by
 unfold cG sq;rw [h,bu];exact⟨rfl,rfl⟩
theorem Tj {x:fv} {l:ByteArray} (h:lH x= true) (bu:lM l ⟨#[]⟩ =true) (aE:(x.ec == 60)= true):cG x l= x∧sq x l= (⟨#[102,117,108,108]⟩ :ByteArray):=by
 unfold cG sq;rw [h,bu,aE];exact⟨rfl,rfl⟩
theorem Tm {x:fv} {l:ByteArray} (h:lH x= true) (bu:lM l ⟨#[]⟩ =true) (aE:(x.ec == 60)= false):cG x l= Al x l∧sq x l= po (qt x.kI l).2:=by
 unfold cG sq;rw [h,bu,aE];exact⟨rfl,rfl⟩
open Go.RowKit Go.G9
structure pZ (w:World):Prop where
 t:ll w
 e:BJ w
 m:Ag w
theorem pZ.below {w ag:World} (h:pZ w) (aB:Below w w ag):pZ ag:=⟨h.t.below aB,h.e.below aB,h.m.below aB⟩
theorem afI:Builder.Extra Tryz.prog Tryz.Xl:={sizeBuilder:=by kernel_rfl,liesBuilder:=by kernel_rfl,t5:=Tryz.underlying5,a5:=Tryz.isAgg5,z5:=Tryz.sizeOf5,v5:=Tryz.zeroValue5,infoByte:=by kernel_rfl,cellsByte:=by kernel_rfl,sizeByte:=by kernel_rfl,neB5:=by decide}
theorem ama {ws:List ByteArray} {n:Nat} (h0:ws.length≠0) (h:∀x ∈ ws,x.size≤n):(lu ws).size≤ws.length * (n + 1):=by
 have h2:=Pd h (ws.length - 1)
 rw [lu,if_neg h0]
 rwa [show ws.length - 1 + 1= ws.length by omega] at h2
theorem amb (A:Option Addr) (c:Nat) (ws:List ByteArray) (h0:ws.length≠0) (aY:ws.length≤1000) (cc:∀x ∈ ws,x.size≤1000) (w:World) (bL:aH 1 hC w A ws) (ga:ws.length≤c):
 Calls Tryz.prog 249 #[.slice A ws c,.string (⟨#[32]⟩ :ByteArray)] w fun e ag=>e= .returned (.string (lu ws))∧Below w w ag:=by
 obtain⟨b,off,rfl,aB,aE⟩:=bL (by omega)
 have e:=alZ h0;have aS:=ama h0 cc;have e2:(Lib.join (ws.map (·.data.toList)) ((⟨#[32]⟩ :ByteArray):ByteArray).data.toList).toArray.size= (lu ws).size:=congrArg ByteArray.size e
 rw [List.size_toArray] at e2
 have h:=Any.strings_Join Tryz.amG afI b off c ws (⟨#[32]⟩ :ByteArray) w (fun j x ay=>by have:=aE j x ay 0 _ rfl;simpa using this) aB (by omega) ga (by omega)
 rw [e] at h
 exact h
theorem Pz (A:Option Addr) (c:Nat) (ws:List ByteArray) (aY:ws.length≤1000) (cc:∀x ∈ ws,x.size≤1000) (w:World) (bL:aH 1 hC w A ws) (ga:ws.length≤c):
 Calls Tryz.prog 171 #[.slice A ws c] w fun e ag=>e= .returned (.string (lu ws))∧Below w w ag:=by
 by_cases h0:ws.length= 0
 ·have e:lu ws= (⟨#[110,111,110,101]⟩ :ByteArray):=by rw [lu,if_pos h0]
  rw [e,h0]
  clear bL ga cc
  go_in
  go_wp2
  go_ret
  exact⟨rfl,Below.refl _ _⟩
 ·have eH:=J (amb A c ws h0 aY cc w bL ga)
  have h1:((ws.length:Int) == 0)= false:=by rw [beq_eq_false_iff_ne];omega
  clear bL ga cc
  go_in
  go_wp2_with fail
  refine (eH.out).mono ?_
  exact QV
theorem acw {p:Prop} (h:p:=by
 clear g0
 go_wp2_with (at_builtin;refine lA rfl _ _ 57 rfl w.heap.size 9 i0 _ 1 16 Tryz.underlying57 hi dy dC dN rfl (by decide) hC kD Cn _ ((xs.take k).map eQ) rfl (gW.alloc _) ⟨bd.heap.size,0,none⟩ 1 (eQ x) rfl (aH.one _ _) (by have:=nv.out;unfold maxLen;omega) (by have:=nv.out;omega) (by have:=aN.size;simp;omega) ?_;intro v4 ca fj gx lX)
 have gP:Below w w ca:=(aN.alloc aN.size _).grown gx (by have:=aN.size;simp;omega) (fun q aZ=>(gW.lt q aZ).1)
 go_roundw
 case rel=>exact⟨k + 1,by omega,by go_num,by rw [cb.out];exact fj,gP⟩
 case measure=>simp [intOf];omega):p:=h
theorem abr {p:Prop} (h:p:=by
 clear kH
 go_wp2_with fail
 refine eH.out.mono ?_
 rintro e bd ⟨rfl,bz⟩
 go_wp2
 go_ret
 exact⟨by rw [pk,Iv.out];rfl,ah aB bz⟩):p:=h
theorem Pj (A:Option Addr) (c:Nat) (xs:List Int) (aY:xs.length≤100) (cc:∀x ∈ xs,-999999≤x∧x≤999999) (w:World) (bL:aH 1 bR w A xs) (bX:ll w):
 Calls Tryz.prog 173 #[.slice A xs c] w fun e ag=>e= .returned (.string (pk xs))∧Below w w ag:=by
 obtain⟨i0,hi,dy,dC,dN⟩:=info_parts AR
 have bf:=J cc;clear cc;have hJ:=aV.made (f:=hC) (sz:=1) w (B:=w.heap.size) (Nat.le_refl _) 9
 obtain⟨ys,xO⟩ :∃ys,xs.map eQ= ys:=⟨_,rfl⟩
 have LU:=J (show ys.length≤1000 by rw [← xO,List.length_map];omega);have LV:=J (show∀s ∈ ys,s.size≤1000 from fun s aX=>by rw [← xO] at aX;obtain⟨x,ay,rfl⟩:=List.mem_map.1 aX;have:=bf.out x ay;have:=xY x (by omega);omega);have Iv:=J xO;clear xO
 go_in
 go_wp2
 go_loopw [3,9] (fun y i wr=>∃k:Nat,k≤xs.length∧i= .int .i64 k∧aV w 9 1 hC wr y ((xs.take k).map eQ)∧Below w w wr) (fun _ i _=>xs.length - (intOf i).toNat)
 case atStart=>exact⟨0,Nat.zero_le _,rfl,hJ,bZ _ _⟩
 case round=>
  obtain⟨k,az,rfl,bP,aB⟩:=hrel
  have qX:((xs.take k).map eQ).length= k:=by rw [List.length_map,List.length_take];omega
  have dq:=J bP;have ael:=J qX;clear bP qX
  by_cases bl:k < xs.length
  ·obtain⟨gJ,gL,x,rfl,dU,ay,bk⟩:=bL.at_ aB bl
   have Wp:=bf.out x (List.mem_of_getElem? ay);have cu:=bk 0 _ rfl
   simp only [Nat.add_zero] at cu
   have g0:=cu (ax.self _)
   simp only [ax.self] at g0
   simp only [Nat.mul_one] at g0
   have ra:(xs.take (k + 1)).map eQ= (xs.take k).map eQ ++ [eQ x]:=by rw [List.take_add_one,ay];simp
   have cb:=J ra;clear ay bk ra cu
   go_wp2_with fail
   refine (AU x (by omega) (by omega) _ (bX.below aB)).mono ?_
   rintro e bd ⟨rfl,bz⟩
   have aN:=ah aB bz;have gW:=dq.out.later bz;have nv:=ael
   exact acw
  ·obtain rfl:k= xs.length:=by omega
   have kH:=dq.out
   rw [List.take_length,Iv.out] at kH
   obtain⟨Y,gT,rfl,_,_,_⟩:=kH.form kD
   have eH:=J (Pz Y gT ys LU.out LV.out wr (kH.dE (hf:=kD)) (rU kH kD))
   exact abr
theorem Pg (A:Option Addr) (c:Nat) (ws:List ByteArray) (aY:ws.length≤1000) (cc:∀x ∈ ws,x.size≤1000) (w:World) (bL:aH 1 hC w A ws):
 Calls Tryz.prog 189 #[.slice A ws c] w fun e ag=>e= .returned (.string (lu ws))∧Below w w ag:=by
 by_cases h0:ws.length= 0
 ·have e:lu ws= (⟨#[110,111,110,101]⟩ :ByteArray):=by rw [lu,if_pos h0]
  rw [e,h0]
  clear bL cc
  go_in
  go_wp2
  go_ret
  exact⟨rfl,Below.refl _ _⟩
 ·have e:lu ws= ov ws (ws.length - 1):=by rw [lu,if_neg h0]
  rw [e]
  have bf:=J (fun k=>Pd cc k);have aeT:=J cc
  have h1:((ws.length:Int) == 0)= false:=by rw [beq_eq_false_iff_ne];omega
  obtain⟨b,off,dd,rfl,dU,lK,bk⟩:=bL.at_ (Below.refl _ _) (k:=0) (by omega)
  have g0:=bk 0 _ rfl (ax.self _)
  simp only [Nat.zero_mul,Nat.add_zero,ax.self] at g0
  have iS:ov ws 0= dd:=by rw [ov,lK];rfl
  have BX:=J iS;have qz:=J bL;clear lK bk cc e iS bL
  go_in
  go_wp2
  clear g0
  go_loopw [3,4] (fun s i wr=>∃k:Nat,k < ws.length∧i= .int .i64 (k + 1:Nat)∧s= .string (ov ws k)∧wr= w) (fun _ i _=>ws.length - (intOf i).toNat)
  case atStart=>exact⟨0,by omega,rfl,by rw [BX.out],rfl⟩
  case round=>
   obtain⟨k,az,rfl,rfl,rfl⟩:=hrel
   have atG:(ov ws k).size≤1001000:=by
    have h1:=bf.out k;have h2:(k + 1) * (1000 + 1)≤1000 * 1001:=Nat.mul_le_mul_right _ (by omega)
    omega
   by_cases bl:k + 1 < ws.length
   ·obtain⟨dz,Py,x,e2,uM,ay,bk⟩:=qz.out.at_ (Below.refl _ _) bl
    cases e2
    have f0:=bk 0 _ rfl (ax.self _)
    simp only [Nat.mul_one,Nat.add_zero,ax.self] at f0
    have GQ:=aeT.out x (List.mem_of_getElem? ay);have cb:=J (WU ay);clear ay bk
    generalize ov ws k= s at *
    go_wp2
    go_roundw
    case rel=>exact⟨k + 1,by omega,by go_num,by rw [cb.out],by first | rfl | trivial⟩
    case measure=>simp [intOf];omega
   ·obtain rfl:k= ws.length - 1:=by omega
    have zj:¬((ws.length - 1 + 1:Nat):Int) < (ws.length:Int):=by omega
    go_wp2
    go_ret
    exact⟨rfl,Below.refl _ _⟩
theorem Xe (A:Option Addr) (c:Nat) (xs:List Int) (aY:xs.length≤100) (cc:∀x ∈ xs,-999999≤x∧x≤999999) (w:World) (bL:aH 1 bR w A xs):
 Calls Tryz.prog 191 #[.slice A xs c] w fun e ag=>e= .returned (.string (pk xs))∧Below w w ag:=by
 obtain⟨i0,hi,dy,dC,dN⟩:=info_parts AR
 have bf:=J cc;clear cc;have hJ:=aV.made (f:=hC) (sz:=1) w (B:=w.heap.size) (Nat.le_refl _) 9
 obtain⟨ys,xO⟩ :∃ys,xs.map eQ= ys:=⟨_,rfl⟩
 have LU:=J (show ys.length≤1000 by rw [← xO,List.length_map];omega);have LV:=J (show∀s ∈ ys,s.size≤1000 from fun s aX=>by rw [← xO] at aX;obtain⟨x,ay,rfl⟩:=List.mem_map.1 aX;have:=bf.out x ay;have:=xY x (by omega);omega);have Iv:=J xO;clear xO
 go_in
 go_wp2
 go_loopw [3,4] (fun y i wr=>∃k:Nat,k≤xs.length∧i= .int .i64 k∧aV w 9 1 hC wr y ((xs.take k).map eQ)∧Below w w wr) (fun _ i _=>xs.length - (intOf i).toNat)
 case atStart=>exact⟨0,Nat.zero_le _,rfl,hJ,bZ _ _⟩
 case round=>
  obtain⟨k,az,rfl,bP,aB⟩:=hrel
  have qX:((xs.take k).map eQ).length= k:=by rw [List.length_map,List.length_take];omega
  have dq:=J bP;have nv:=J qX;clear bP qX
  by_cases bl:k < xs.length
  ·obtain⟨gJ,gL,x,rfl,dU,ay,bk⟩:=bL.at_ aB bl
   have Wp:=bf.out x (List.mem_of_getElem? ay);have cu:=bk 0 _ rfl
   simp only [Nat.add_zero] at cu
   have g0:=cu (ax.self _)
   simp only [ax.self] at g0
   simp only [Nat.mul_one] at g0
   have ra:(xs.take (k + 1)).map eQ= (xs.take k).map eQ ++ [eQ x]:=by rw [List.take_add_one,ay];simp
   have cb:=J ra;clear ay bk ra cu
   go_wp2_with fail
   refine (rl x (by omega) (by omega) _).mono ?_
   rintro e bd ⟨rfl,bz⟩
   have aN:=ah aB bz;have gW:=dq.out.later bz
   exact acw
  ·obtain rfl:k= xs.length:=by omega
   have kH:=dq.out
   rw [List.take_length,Iv.out] at kH
   obtain⟨Y,gT,rfl,_,_,_⟩:=kH.form kD
   have eH:=J (Pg Y gT ys LU.out LV.out wr (kH.dE (hf:=kD)))
   exact abr
end Go.Proofs.YtlaaemmmbodaaaaGreatDoor
