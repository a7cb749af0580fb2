/- Parts. -/
import Derived.Test.YtlaaemmmbodaaaaGreatDoorRp8
import Derived.Laws.IdiomStrings
import Derived.Outline
import Derived.Laws.Bits64
import Derived.Laws.Bits64b
import Derived.Lib.IndexBytes
import Derived.Lib.Split
import Derived.Lib.Join
set_option maxHeartbeats 16000000
set_option maxRecDepth 100000
set_option linter.unnecessarySimpa false
set_option linter.unusedSimpArgs false
set_option linter.unusedVariables false
namespace Go.Proofs.YtlaaemmmbodaaaaGreatDoor
open Go.RowKit Go.G9
def Aw (l:ca) (k:Nat) (e:Ending):Prop:=∃(c r:ByteArray) (b:Bool),e= .returned (.tuple #[.agg #[.string c,.string r],.bool b])∧b= (rD l k).isSome∧∀x,rD l k= some x→c= bs x.1∧r= bs x.2
theorem Aw.no {l:ca} {k:Nat} (c r:ByteArray) (h:tM l k= none):Aw l k (.returned (.tuple #[.agg #[c,r],false])):=by
 rw [Wg] at h
 exact⟨c,r,false,rfl,by rw [h];rfl,fun x aw=>by rw [h] at aw;cases aw⟩
theorem Yj {p:Prop} (h:p:=by
 go_in
 go_wp2_with fail
 refine (pT k (by omega) (by omega) _).mono ?_
 rintro e bh ⟨rfl,br⟩
 have au:=be w br;have I:Below w w bh:=au;have U:aB bh (w.heap.size) 56 #[.string ⟨#[]⟩,.string ⟨#[]⟩]:=aB.dY br;have z0:=(U.cell 0).trans (show _= some (.string ⟨#[]⟩) from rfl);have bW:=(U.cell 1).trans (show _= some (.string ⟨#[]⟩) from rfl)
 go_wp2_with fail
 refine (pw.out _).mono ?_
 rintro e aJ ⟨g,m2,n,rfl,yW,Bk,sc,aH,cT,hN,aL⟩
 have al:=be bh aL;replace I:=aj I al;replace U:=U.to al;replace z0:=(U.cell 0).trans (show _= some (.string ⟨#[]⟩) from rfl);replace bW:=(U.cell 1).trans (show _= some (.string ⟨#[]⟩) from rfl);have lq:=U.vD;have ai:=((U.gE 0 (.string ⟨#[]⟩)).gE 1 (.string ⟨#[]⟩));have fX:=ai.kY
 go_wp2
 refine bodyPost_ret (v:= .tuple #[.agg #[.string ⟨#[]⟩,.string ⟨#[]⟩],false]) (by simp [results,Tryz.results153,go_sem,fX]) rfl ?_
 exact⟨Aw.no _ _ vr.out,(by repeat (first | exact I | exact Below.refl _ _ | refine Below.alloc ?_ (by first | exact Nat.le_refl _ | (have gN:=I.size;simp;omega) | (simp <;> omega)) _ | refine Below.setCell ?_ (by first | exact Nat.le_refl _ | (simp <;> omega)) _))⟩):p:=h
theorem ajg (l:ca) (aT:l.length≤1048576) (k:Nat) (aD:k < 100) (w:World):Calls Tryz.prog 153 #[.string (bs l),k] w fun e ah=>Aw l k e∧Below w w ah:=by
 have g1:=AD 35 l;have eH:=wm (k:Int) (by omega);have Sa:=eH;have oX:(eN (k:Int)).size= (qw (k:Int)).length:=fB _;have Sp:eN (k:Int) ++⟨#[32]⟩ =bs (qw (k:Int) ++ [32]):=mP _ [32]
 generalize ct:cR 35 l= t at g1
 have mZ:∀W,Calls Tryz.prog 67 #[.string (bs l),.int .u8 35] W fun e ah=>∃g m n,e= .returned (.slice (some ⟨g,0,none⟩) m n)∧1≤m∧m≤l.length + 1∧((2≤m)↔iW 35 l= true)∧ah.cell? ⟨g,0,none⟩ =some (.string (bs t))∧W.heap.size≤g∧g < ah.heap.size∧Below W W ah:=fun W=>by
  have:=MU l 35 aT W
  rwa [ct] at this
 have pw:=J mZ;clear mZ;have MI:=fB t
 generalize hm:(eN (k:Int)).size= m at eH oX
 have kd:tM l k= if t.take (m + 1)= qw k ++ [32] then (if (cR 64 (t.drop (m + 1))).length= (t.drop (m + 1)).length then none
   else if jV (cR 64 (t.drop (m + 1))) ((t.drop (m + 1)).drop ((cR 64 (t.drop (m + 1))).length + 1)) && decide (fj k (cR 64 (t.drop (m + 1))) ((t.drop (m + 1)).drop ((cR 64 (t.drop (m + 1))).length + 1))= l) then some (cR 64 (t.drop (m + 1)),(t.drop (m + 1)).drop ((cR 64 (t.drop (m + 1))).length + 1)) else none) else none:=by
  unfold tM
  simp only [ct,List.length_append,List.length_cons,List.length_nil,← oX]
 have Pp:=J Sp;have nI:=J kd;clear Sp kd ct
 by_cases kn:t.length < m + 1
 ·have gM:tM l k= none:=by
   rw [nI.out,if_neg]
   intro h
   have:=congrArg List.length h
   simp at this;omega
  have vr:=J gM;clear gM
  exact Yj
 by_cases oZ:t.take (m + 1)= qw k ++ [32]
 case neg=>
  have gM:tM l k= none:=by rw [nI.out,if_neg oZ]
  have vr:=J gM;clear gM
  have eM:((((bs t).extract 0 ((eN (k:Int)).size + 1))).toList == (eN (k:Int) ++ (⟨#[32]⟩ :ByteArray)).toList)= false:=Xz (by
   rw [Pp.out,uj,hm]
   intro h
   exact oZ (by simpa using QE h))
  have uA:(eN (k:Int)).size + 1≤(bs t).size:=by omega
  clear oZ oX hm MI
  exact Yj
 case pos=>
  have heq:((((bs t).extract 0 ((eN (k:Int)).size + 1))).toList == (eN (k:Int) ++ (⟨#[32]⟩ :ByteArray)).toList)= true:=Xy (by
   rw [Pp.out,uj,hm]
   congr 1)
  have uA:(eN (k:Int)).size + 1≤(bs t).size:=by omega
  have iQ:(bs t).extract ((eN (k:Int)).size + 1) (bs t).size= bs (t.drop (m + 1)):=by rw [uj,hm,fB,List.take_of_length_le (by simp)]
  have kd:=nI.out
  rw [if_pos oZ] at kd
  have nv:(t.drop (m + 1)).length≤t.length:=by simp
  generalize bp:t.drop (m + 1)= rest at iQ kd nv
  have MB:∀W,Calls Tryz.prog 67 #[.string ((bs t).extract ((eN (k:Int)).size + 1) (bs t).size),.int .u8 64] W fun e ah=>∃g m n,e= .returned (.slice (some ⟨g,0,none⟩) m n)∧1≤m∧m≤rest.length + 1∧((2≤m)↔iW 64 rest= true)∧ah.cell? ⟨g,0,none⟩ =some (.string (bs (cR 64 rest)))∧W.heap.size≤g∧g < ah.heap.size∧Below W W ah:=fun W=>by
   rw [iQ];exact MU rest 64 (by omega) W
  have aeM:=AD 64 rest
  generalize afA:cR 64 rest= ask at kd MB aeM
  have xv:((bs t).extract ((eN (k:Int)).size + 1) (bs t).size).size= rest.length:=by rw [iQ];exact fB _
  have has:=fB ask;have PR:=J MB;have acy:=J iQ;have bC:=J bp;clear MB iQ bp afA oZ
  have Tx:(bs t).size≤1048576:=by omega
  have Hl:rest.length≤1048576:=by omega
  by_cases Ho:ask.length= rest.length
  ·rw [if_pos Ho] at kd
   have vr:=J kd;clear kd
   have gN:(bs t).size - ((eN (k:Int)).size + 1)= rest.length:=by
    have e:=congrArg List.length bC.out
    simp only [List.length_drop] at e
    omega
   have aF:(((bs ask).size:Int) == (((bs t).size - ((eN (k:Int)).size + 1):Nat):Int))= true:=by rw [gN,has,Ho];exact beq_iff_eq.2 rfl
   clear gN Ho;clear xv has oX hm MI
   go_in
   go_wp2_with fail
   refine (pT k (by omega) (by omega) _).mono ?_
   rintro e bh ⟨rfl,br⟩
   have au:=be w br;have I:Below w w bh:=au;have U:aB bh (w.heap.size) 56 #[.string ⟨#[]⟩,.string ⟨#[]⟩]:=aB.dY br;have z0:=(U.cell 0).trans (show _= some (.string ⟨#[]⟩) from rfl);have bW:=(U.cell 1).trans (show _= some (.string ⟨#[]⟩) from rfl)
   go_wp2_with fail
   refine (pw.out _).mono ?_
   rintro e aJ ⟨g,m2,n,rfl,yW,Bk,sc,aH,cT,hN,aL⟩
   have al:=be bh aL;replace I:=aj I al;replace U:=U.to al;replace z0:=(U.cell 0).trans (show _= some (.string ⟨#[]⟩) from rfl);replace bW:=(U.cell 1).trans (show _= some (.string ⟨#[]⟩) from rfl)
   go_wp2_with fail
   refine (PR.out _).mono ?_
   rintro e bB ⟨bA,m3,nB,rfl,Td,Te,Tf,ql,Ed,SM,bx⟩
   have aP:=be aJ bx;replace I:=aj I aP;replace U:=U.to aP;replace z0:=(U.cell 0).trans (show _= some (.string ⟨#[]⟩) from rfl);replace bW:=(U.cell 1).trans (show _= some (.string ⟨#[]⟩) from rfl);have lq:=U.vD;have ai:=((U.gE 0 (.string ⟨#[]⟩)).gE 1 (.string ⟨#[]⟩));have fX:=ai.kY
   go_wp2
   refine bodyPost_ret (v:= .tuple #[.agg #[.string ⟨#[]⟩,.string ⟨#[]⟩],false]) (by simp [results,Tryz.results153,go_sem,fX]) rfl ?_
   exact⟨Aw.no _ _ vr.out,(by repeat (first | exact I | exact Below.refl _ _ | refine Below.alloc ?_ (by first | exact Nat.le_refl _ | (have gN:=I.size;simp;omega) | (simp <;> omega)) _ | refine Below.setCell ?_ (by first | exact Nat.le_refl _ | (simp <;> omega)) _))⟩
  ·rw [if_neg Ho] at kd
   have bu:ask.length + 1≤rest.length:=by omega
   have agI:(rest.drop (ask.length + 1)).length≤rest.length:=by simp
   have iQ:=acy.out
   have zc:(bs rest).extract ((bs ask).size + 1) (bs rest).size= bs (rest.drop (ask.length + 1)):=by rw [uj,fB,fB,List.take_of_length_le (by simp)]
   have agP:∀W,Calls Tryz.prog 67 #[.string (bs rest),.int .u8 64] W fun e ah=>∃g m n,e= .returned (.slice (some ⟨g,0,none⟩) m n)∧1≤m∧m≤rest.length + 1∧((2≤m)↔iW 64 rest= true)∧ah.cell? ⟨g,0,none⟩ =some (.string (bs ask))∧W.heap.size≤g∧g < ah.heap.size∧Below W W ah:=fun W=>by
    have:=PR.out W
    rwa [iQ] at this
   generalize aN:rest.drop (ask.length + 1)= rep at kd zc agI
   have aF:(((bs ask).size:Int) == ((bs rest).size:Int))= false:=by rw [fB,fB];exact beq_eq_false_iff_ne.2 (by omega)
   have uC:(bs ask).size + 1≤(bs rest).size:=by rw [fB,fB];omega
   have Eh:(bs rest).size≤1048576:=by rw [fB];omega
   have yU:(bs rep).size≤1048576:=by rw [fB];omega
   have Ei:(bs l).size≤1048576:=by rw [fB];omega
   refine (ajh l t rest ask rep k aD Sa pw (J agP) heq uA Tx iQ zc aF uC Eh yU Ei _ rfl w).mono ?_
   rintro e ah ⟨rfl,fh⟩
   rw [Wg] at kd
   refine⟨⟨_,_,_,rfl,?_,?_⟩,fh⟩
   ·rw [kd];split <;> rename_i h <;> simp [h]
   ·intro x aw
    rw [kd] at aw
    split at aw
    ·injection aw with aw;subst aw;exact⟨rfl,rfl⟩
    ·cases aw
open Go.RowKit Go.G9
def uq (xs:List (ca×ca×Nat)):Nat:=(0 ::xs.map (·.2.2)).getLastD 0
def hn (l:ca):Nat:=uq (gT l)
theorem Rm (xs:List (ca×ca×Nat)) (x:ca×ca×Nat):uq (xs ++ [x])= x.2.2:=by
 have e:(0 ::(xs ++ [x]).map (·.2.2))= (0 ::xs.map (·.2.2)) ++ [x.2.2]:=by simp
 unfold uq
 rw [e,List.getLastD_eq_getLast?,List.getLast?_append]
 rfl
theorem NF {f k:Nat} {l:ca} {a:Nat} (h:iJ l k= none):hQ f k l a= []:=by
 cases f with
 | zero=>rfl
 | succ f=>rw [hQ,h]
theorem VU (k:Nat):iJ [] k= none:=by unfold iJ;simp [iW]
theorem akG (l:ca) {k:Nat} (h:60≤k):iJ l k= none:=by unfold iJ;rw [if_neg];simp;omega
theorem Za {p:Prop} (h:p:=by
 have fz:=J bJ;clear bJ lf
 go_wp2
 go_ret2
 obtain⟨A,c,h1,h2⟩:=Pz.out fz.out
 exact⟨A,c,congrArg Ending.returned h1,h2⟩):p:=h
theorem YB {p:Prop} (h:p:=by
 go_wp2
 go_ret2
 obtain⟨A,cM,h1,h2⟩:=Pz.out fz.out
 exact⟨A,cM,congrArg Ending.returned h1,((h2.1.bm br).bm aL).alloc _,(aj (aj h2.2 br) aL).alloc (by omega) _⟩):p:=h
theorem MV (l:ca) (aT:l.length≤1048576) (w:World):Calls Tryz.prog 87 #[.string (bs l)] w fun e ah=>∃A c,e= .returned (.tuple #[.slice A (gn l).length c,.int .i64 (hn l:Nat)])∧
  bd w 56 2 eB.cells ah (.slice A (gn l).length c) (gn l)∧Below w w ah:=by
 obtain⟨i0,hi,dn,dC,dz⟩:=info_parts Uc
 have gN:=fB l
 have vT:(bs l).size≤1048576:=by omega
 have dU:=J gN;clear gN;have nP:=bd.built (B:=w.heap.size) (f:=eB.cells) w ([]:List eB) 56 (Nat.le_refl _) (by simp) eB.rR
 simp only [List.flatMap_nil] at nP
 have eL:=J nP;clear nP
 go_in
 go_wp2
 go_loopw [4,5] (fun v4 v5 wr=>∃(xs:List (ca×ca×Nat)) (a:Nat),gT l= xs ++ hQ (61 - xs.length) xs.length (l.drop a) a∧xs.length≤60∧a≤(bs l).size∧a= uq xs∧v5= .int .i64 a∧
   bd w 56 2 eB.cells wr v4 (xs.map pA)∧Below w w wr) (fun _ v5 _=>1048577 - (intOf v5).toNat)
 case atStart=>
  exact⟨[],0,rfl,by simp,Nat.zero_le _,rfl,rfl,by simpa using eL.out,bT _ _⟩
 case round=>
  obtain⟨xs,a,lf,zi,cS,Sn,rfl,bM,aF⟩:=hrel
  obtain⟨aA,c4,rfl,mg,_,_⟩:=bM.form eB.rR
  simp only [List.length_map] at bM mg ⊢
  have agm:a≤l.length:=by rw [← dU.out];exact cS
  have z0:=aF.size;have uG:=J bM.lt;have dm:=J bM;have FJ:=J Sn;clear bM Sn
  have ov:iJ (l.drop a) xs.length= none→gT l= xs:=fun h=>by rw [lf,NF h,List.append_nil]
  have FL:=J ov;clear ov
  have tl:gT l= xs→∃A c,Value.tuple #[.slice aA xs c4,a]= .tuple #[.slice A (gn l).length c,.int .i64 (hn l:Nat)]∧bd w 56 2 eB.cells wr (.slice A (gn l).length c) (gn l)∧Below w w wr:=fun h=>by
   have e1:gn l= xs.map pA:=by rw [gn,h]
   have e2:hn l= a:=by rw [hn,h,FJ.out]
   rw [e1,e2,List.length_map]
   exact⟨aA,c4,rfl,dm.out,aF⟩
  have Pz:=J tl;clear tl
  by_cases bu:a < (bs l).size
  case neg=>
   have bJ:gT l= xs:=FL.out (by
    have:l.drop a= []:=List.drop_eq_nil_of_le (by rw [← dU.out];omega)
    rw [this];exact VU _)
   exact Za
  by_cases aD:xs.length < 60
  case neg=>
   have bJ:gT l= xs:=FL.out (akG _ (by omega))
   exact Za
  have aw:(bs l).extract a (bs l).size= bs (l.drop a):=by rw [uj,fB,List.take_of_length_le (by simp)]
  have mZ:∀W,Calls Tryz.prog 67 #[.string ((bs l).extract a (bs l).size),.int .u8 10] W fun e ah=>∃g m n,e= .returned (.slice (some ⟨g,0,none⟩) m n)∧1≤m∧m≤(l.drop a).length + 1∧((2≤m)↔iW 10 (l.drop a)= true)∧ah.cell? ⟨g,0,none⟩ =some (.string (bs (cR 10 (l.drop a))))∧W.heap.size≤g∧g < ah.heap.size∧Below W W ah:=fun W=>by
   rw [aw];exact MU (l.drop a) 10 (by simp;omega) W
  have apz:=AD 10 (l.drop a)
  have nv:(l.drop a).length≤l.length:=by simp
  have kd:∀W,Calls Tryz.prog 153 #[.string (bs (cR 10 (l.drop a))),xs.length] W fun e ah=>Aw (cR 10 (l.drop a)) xs.length e∧Below W W ah:=fun W=>ajg _ (by omega) xs.length (by omega) W
  have pw:=J mZ;have nI:=J kd;have Ce:=J lf;clear mZ kd aw lf
  have uE:iJ (l.drop a) xs.length= if iW 10 (l.drop a) then (rD (cR 10 (l.drop a)) xs.length).map fun x=>(x.1,x.2,(cR 10 (l.drop a)).length + 1) else none:=by
   unfold iJ;simp [aD]
  have gh:=J uE;clear uE
  have DY:(bs (cR 10 (l.drop a))).size≤1048576:=by rw [fB];omega
  cases fc:iW 10 (l.drop a)
  ·have bJ:gT l= xs:=FL.out (by rw [gh.out,fc];rfl)
   have fz:=J bJ;have lI:=J fc;clear bJ fc
   go_wp2_with fail
   refine (pw.out _).mono ?_
   rintro e bh ⟨g,m,n,rfl,yW,Bk,sc,aH,cT,hN,br⟩
   have bW:=br.size
   have Tg:m < 2:=by
    have:=lI.out
    rcases Nat.lt_or_ge m 2 with h | h
    ·exact h
    ·rw [sc.1 h] at this;cases this
   clear sc
   go_wp2_with fail
   refine (nI.out _).mono ?_
   rintro e aJ ⟨⟨c,r,b,rfl,iO,mB⟩,aL⟩
   have z2:=aL.size
   have jn:aJ.cell? ⟨g,0,none⟩ =some (.string (bs (cR 10 (l.drop a)))):=by rw [aL.cell hN];exact aH
   exact YB
  ·cases zb:rD (cR 10 (l.drop a)) xs.length with
   | none=>
    have bJ:gT l= xs:=FL.out (by rw [gh.out,fc,zb];rfl);have fz:=J bJ;have lI:=J fc;have FU:=J zb;clear bJ fc zb
    go_wp2_with fail
    refine (pw.out _).mono ?_
    rintro e bh ⟨g,m,n,rfl,yW,Bk,sc,aH,cT,hN,br⟩
    have bW:=br.size;have Tg:2≤m:=sc.2 lI.out;clear sc
    go_wp2_with fail
    refine (nI.out _).mono ?_
    rintro e aJ ⟨⟨c,r,b,rfl,iO,mB⟩,aL⟩
    have z2:=aL.size
    have jn:aJ.cell? ⟨g,0,none⟩ =some (.string (bs (cR 10 (l.drop a)))):=by rw [aL.cell hN];exact aH
    have Ly:b= false:=by rw [iO,FU.out];rfl
    subst Ly
    clear mB iO
    exact YB
   | some x=>
    obtain⟨ns,rE⟩:=x
    have Ej:gT l= (xs ++ [(ns,rE,a + ((cR 10 (l.drop a)).length + 1))]) ++ hQ (61 - (xs.length + 1)) (xs.length + 1) (l.drop (a + ((cR 10 (l.drop a)).length + 1))) (a + ((cR 10 (l.drop a)).length + 1)):=by
     rw [Ce.out,show 61 - xs.length= (61 - (xs.length + 1)) + 1 from by omega,hQ,gh.out,fc,zb]
     simp [List.drop_drop]
    have hle:a + ((cR 10 (l.drop a)).length + 1)≤(bs l).size:=by
     have h1:iJ (l.drop a) xs.length= some (ns,rE,(cR 10 (l.drop a)).length + 1):=by rw [gh.out,fc,zb];rfl
     have:=BG h1
     rw [List.length_drop] at this
     rw [dU.out];omega
    have eZ:=J Ej;have lI:=J fc;have FU:=J zb;clear Ej fc zb
    go_wp2_with fail
    refine (pw.out _).mono ?_
    rintro e bh ⟨g,m,n,rfl,yW,Bk,sc,aH,cT,hN,br⟩
    have bW:=br.size;have Tg:2≤m:=sc.2 lI.out;clear sc
    go_wp2_with fail
    refine (nI.out _).mono ?_
    rintro e aJ ⟨⟨c,r,b,rfl,iO,mB⟩,aL⟩
    have z2:=aL.size
    have jn:aJ.cell? ⟨g,0,none⟩ =some (.string (bs (cR 10 (l.drop a)))):=by rw [aL.cell hN];exact aH
    have Ly:b= true:=by rw [iO,FU.out];rfl
    obtain⟨rfl,rfl⟩:=mB _ FU.out
    subst Ly
    clear mB iO;have gY:=J ((((dm.out.bm br).bm aL).alloc (.cells #[.string (bs ns),.string (bs rE)] 56)).alloc (.cells #[.string (bs ns),.string (bs rE)] 56))
    have jR:aS 2 eB.cells ((aJ.alloc (.cells #[.string (bs ns),.string (bs rE)] 56)).alloc (.cells #[.string (bs ns),.string (bs rE)] 56)) (some ⟨aJ.heap.size + 1,0,none⟩) [pA (ns,rE,a + ((cR 10 (l.drop a)).length + 1))]:=by
     have h:=aS.one (sz:=2) (f:=eB.cells) (w:=aJ.alloc (.cells #[.string (bs ns),.string (bs rE)] 56)) (pA (ns,rE,a + ((cR 10 (l.drop a)).length + 1))) 56
     rw [show (aJ.alloc (.cells #[.string (bs ns),.string (bs rE)] 56)).heap.size= aJ.heap.size + 1 from by simp] at h
     exact h
    have qN:=J jR;clear jR
    go_upto_region 8 with (at_builtin;refine kC rfl _ _ 52 rfl w.heap.size 56 i0 _ 2 32 Tryz.underlying52 hi dn dC dz rfl (by decide) eB.cells eB.rR eB.cells_one (.slice aA xs c4) (xs.map pA) rfl gY.out ⟨aJ.heap.size + 1,0,none⟩ 1 (pA (ns,rE,a + ((cR 10 (l.drop a)).length + 1))) rfl qN.out (by unfold maxLen;simp;omega) (by simp;omega) (by simp;omega) ?_;intro ln bU fb gq ld)
    have z4:=gq.size
    simp only [SJ] at z4
    have mg:bU.cell? ⟨g,0,none⟩ =some (.string (bs (cR 10 (l.drop a)))):=(World.cell?_of_block (gq.block g (by simp;omega) (fun e=>by have:=(uG.out g e.symm).2;omega))).trans (((CW aJ _ _).cell (p:=⟨g,0,none⟩) (by show g < _;omega)).trans jn);have gS:Below w w bU:=(((aj (aj aF br) aL).alloc (by omega) _).alloc (by simp;omega) _).grown gq (by simp;omega) (fun k aD=>(uG.out k aD).1)
    go_wp2
    go_roundw
    case rel=>
     refine⟨xs ++ [(ns,rE,a + ((cR 10 (l.drop a)).length + 1))],a + ((cR 10 (l.drop a)).length + 1),by rw [List.length_append];exact eZ.out,by simp;omega,hle,(Rm xs (ns,rE,a + ((cR 10 (l.drop a)).length + 1))).symm,by rw [fB];congr 1,?_,gS⟩
     rw [List.map_append];exact fb
    case measure=>simp [intOf];omega
open Go.RowKit Go.G9
def jT (d p:ca) (n:Int):Bool:=decide (d.length + p.length≤30000) && (((hn (d ++ p):Nat):Int) == ((d.length:Int) + (p.length:Int)) && ((hn d:Nat):Int) == (d.length:Int) && ((gn (d ++ p)).length:Int) == n)
theorem zu (d p:ca) (n:Int) (bJ:d.length≤1048576) (aN:p.length≤1048576) (v:Bool) (ax:jT d p n= v) (w:World):Calls Tryz.prog 44 #[.agg #[.string (bs d),.string (bs p),n]] w fun e ah=>e= .returned v∧Below w w ah:=by
 subst ax
 have Bm:=fB d;have mZ:=fB p
 have s1:(bs d).size≤1048576:=by omega
 have s2:(bs p).size≤1048576:=by omega
 by_cases ct:d.length + p.length≤30000
 case neg=>
  have ax:jT d p n= false:=by unfold jT;rw [decide_eq_false ct];rfl
  have nD:30000 < (bs d).size + (bs p).size:=by omega
  have bo:=J ax;clear ax Bm mZ ct;have eu:=boxed w #[.string (bs d),.string (bs p),n] 31 0 (.string (bs d)) rfl;have dF:=boxed w #[.string (bs d),.string (bs p),n] 31 1 (.string (bs p)) rfl;have dJ:=boxed w #[.string (bs d),.string (bs p),n] 31 2 (.int .i64 n) rfl
  go_in
  go_wp2
  go_ret
  exact⟨by rw [bo.out];rfl,bT _ _⟩
 have nD:(bs d).size + (bs p).size≤30000:=by omega
 have ax:jT d p n= (((hn (d ++ p):Nat):Int) == (((bs d).size:Int) + ((bs p).size:Int)) && ((hn d:Nat):Int) == ((bs d).size:Int) && ((gn (d ++ p)).length:Int) == n):=by
  unfold jT;rw [decide_eq_true ct,Bm,mZ,Bool.true_and]
 have hop:∀W,Calls Tryz.prog 87 #[.string (bs d ++ bs p)] W fun e ah=>∃A c,e= .returned (.tuple #[.slice A (gn (d ++ p)).length c,.int .i64 (hn (d ++ p):Nat)])∧
  bd W 56 2 eB.cells ah (.slice A (gn (d ++ p)).length c) (gn (d ++ p))∧Below W W ah:=fun W=>by
  rw [mP];exact MV (d ++ p) (by simp;omega) W
 have Tn:∀W,Calls Tryz.prog 87 #[.string (bs d)] W fun e ah=>∃A c,e= .returned (.tuple #[.slice A (gn d).length c,.int .i64 (hn d:Nat)])∧
  bd W 56 2 eB.cells ah (.slice A (gn d).length c) (gn d)∧Below W W ah:=fun W=>MV d bJ W
 have ue:=J hop;have acp:=J Tn;have bo:=J ax;clear hop Tn ax Bm mZ ct
 cases h1:(((hn (d ++ p):Nat):Int) == (((bs d).size:Int) + ((bs p).size:Int)))
 all_goals cases h2:(((hn d:Nat):Int) == ((bs d).size:Int))
 all_goals cases h3:(((gn (d ++ p)).length:Int) == n)
 all_goals have mK:=bo.out
 all_goals rw [h1,h2,h3] at mK
 all_goals have cc:=J mK
 all_goals clear bo mK
 all_goals
  go_in
  go_wp2_with fail
  refine (ue.out _).mono ?_
  rintro e bh ⟨ar,av,rfl,gY,br⟩
  have au:=be w br;have I:Below w w bh:=au;have gK:aB bh (w.heap.size) 31 #[.string (bs d),.string (bs p),n]:=aB.dY br
  obtain⟨eu,dF,dJ⟩:=gK.cq
  go_wp2_with fail
  refine (acp.out _).mono ?_
  rintro e aJ ⟨an,c2,rfl,nO,aL⟩
  have al:=be bh aL;replace I:=aj I al;replace gK:=gK.to al;clear eu dF dJ
  obtain⟨eu,dF,dJ⟩:=gK.cq
  have Ye:=gK.lt
  go_wp2
  go_ret
  exact⟨by rw [cc.out];rfl,(aj I az)⟩
open Go.RowKit Go.G9
theorem afy (c:UInt8) (a b:ca):iW c (a ++ b)= (iW c a || iW c b):=by unfold iW;simp
theorem adq {c:UInt8} {a b:ca} (h:iW c a= true):cR c (a ++ b)= cR c a:=by
 have:=Oi (AX.1 h);have aY:=QB (c:=c) a
 conv=>lhs;rw [this,List.append_assoc,List.cons_append]
 exact CV aY
theorem akH (d p:ca) (k:Nat):(∀c r n,iJ (d ++ p) k= some (c,r,n)→n≤d.length→iJ d k= some (c,r,n))∧(∀c r n,iJ (d ++ p) k= some (c,r,n)→d.length < n→iJ d k= none)∧(iJ (d ++ p) k= none→iJ d k= none):=by
 cases bJ:iW 10 d
 ·have h0:iJ d k= none:=by unfold iJ;rw [bJ];rfl
  refine⟨fun c r n h aY=>?_,fun _ _ _ _ _=>h0,fun _=>h0⟩
  obtain⟨h1,h2,rfl,h4⟩:=BH h
  exfalso
  have h5:d= (fj k c r ++ 10 ::gi 10 (d ++ p)).take d.length:=by rw [← h4];simp
  refine DO.1 bJ ?_
  rw [h5,List.take_append,List.mem_append]
  refine .inr ?_
  rw [show d.length - (fj k c r).length= (d.length - ((fj k c r).length + 1)) + 1 from by omega]
  simp
 ·have e:iJ (d ++ p) k= iJ d k:=by
   unfold iJ
   rw [afy,bJ,adq bJ];simp
  refine⟨fun c r n h _=>by rw [← e];exact h,fun c r n h aY=>?_,fun h=>by rw [← e];exact h⟩
  rw [e] at h
  have:=BG h
  omega
theorem NH:∀(f k:Nat) (d p:ca) (a:Nat),hQ f k d a= (hQ f k (d ++ p) a).takeWhile (fun x=>decide (x.2.2≤a + d.length))
 | 0,_,_,_,_=>rfl
 | f + 1,k,d,p,a=>by
  obtain⟨h1,h2,h3⟩:=akH d p k
  cases h:iJ (d ++ p) k with
  | none=>rw [hQ,hQ,h3 h,h];rfl
  | some x=>
   obtain⟨c,r,n⟩:=x
   by_cases aY:n≤d.length
   ·rw [hQ,hQ,h1 c r n h aY,h]
    simp only [List.takeWhile_cons]
    rw [decide_eq_true (by omega:a + n≤a + d.length)]
    simp only [if_true]
    rw [NH f (k + 1) (d.drop n) p (a + n),List.drop_append_of_le_length aY]
    have:a + n + (d.drop n).length= a + d.length:=by simp;omega
    rw [this]
   ·rw [hQ,hQ,h2 c r n h (by omega),h]
    simp only [List.takeWhile_cons]
    rw [decide_eq_false (by omega)]
    simp
theorem NG:∀(f k:Nat) (l:ca) (a:Nat),(a ::(hQ f k l a).map (·.2.2)).Pairwise (· < ·)
 | 0,_,_,_=>by simp [hQ]
 | f + 1,k,l,a=>by
  rw [hQ]
  cases h:iJ l k with
  | none=>simp
  | some x=>
   obtain⟨c,r,n⟩:=x
   have aY:=BG h;have er:=NG f (k + 1) (l.drop n) (a + n)
   simp only [List.map_cons]
   rw [List.pairwise_cons]
   refine⟨fun y hy=>?_,er⟩
   rw [List.mem_cons] at hy
   rcases hy with rfl | hy
   ·omega
   ·have:=(List.pairwise_cons.1 er).1 y hy
    omega
theorem VZ:∀(f k:Nat) (l:ca) (a:Nat),∀x ∈ hQ f k l a,x.2.2≤a + 372 * f∧x.2.2≤a + l.length
 | 0,_,_,_=>by simp [hQ]
 | f + 1,k,l,a=>by
  rw [hQ]
  cases h:iJ l k with
  | none=>simp
  | some x=>
   obtain⟨c,r,n⟩:=x
   have aY:=BG h
   intro y hy
   rw [List.mem_cons] at hy
   rcases hy with rfl | hy
   ·simp only;omega
   ·have:=VZ f (k + 1) (l.drop n) (a + n) y hy
    rw [List.length_drop] at this
    omega
theorem UB:∀(fp:List Nat) (a m:Nat),(a ::fp).Pairwise (· < ·)→a≤m→((a ::fp.takeWhile (fun x=>decide (x≤m))).getLastD 0= m↔m ∈ a ::fp)
 | [],a,m,_,_=>by simp [eq_comm]
 | z ::fp,a,m,h,cS=>by
  have h1:=(List.pairwise_cons.1 h).1;have h2:=(List.pairwise_cons.1 h).2;have apJ:=h1 z (by simp)
  by_cases ck:z≤m
  ·have er:=UB fp z m h2 ck
   rw [List.takeWhile_cons,decide_eq_true ck]
   simp only [if_true]
   have e:(a ::z ::fp.takeWhile (fun x=>decide (x≤m))).getLastD 0= (z ::fp.takeWhile (fun x=>decide (x≤m))).getLastD 0:=by
    simp [List.getLastD_eq_getLast?,List.getLast?_cons]
   rw [e,er]
   constructor
   ·exact fun h=>List.mem_cons_of_mem _ h
   ·intro h
    rcases List.mem_cons.1 h with rfl | h
    ·omega
    ·exact h
  ·rw [List.takeWhile_cons,decide_eq_false ck]
   simp only [Bool.false_eq_true,if_false]
   have h3:=(List.pairwise_cons.1 h2).1
   constructor
   ·intro h;simp at h;simp [h]
   ·intro h
    rcases List.mem_cons.1 h with rfl | h
    ·simp
    ·rcases List.mem_cons.1 h with rfl | h
     ·omega
     ·have:=h3 _ h;omega
theorem XE (m:Nat):∀xs:List (ca×ca×Nat),(xs.takeWhile (fun x=>decide (x.2.2≤m))).map (·.2.2)= (xs.map (·.2.2)).takeWhile (fun x=>decide (x≤m))
 | []=>rfl
 | x ::xs=>by
  rw [List.map_cons,List.takeWhile_cons,List.takeWhile_cons]
  split
  ·rw [List.map_cons,XE m xs]
  ·rfl
theorem adU (d p:ca):hn d= d.length↔d.length ∈ 0 ::(gT (d ++ p)).map (·.2.2):=by
 have h:=NH 61 0 d p 0
 rw [Nat.zero_add] at h
 unfold hn uq gT
 rw [h,XE]
 exact UB _ 0 d.length (NG 61 0 (d ++ p) 0) (Nat.zero_le _)
theorem Dh (l:ca):hn l≤22692∧hn l≤l.length:=by
 have hm:hn l ∈ 0 ::(gT l).map (·.2.2):=by
  unfold hn uq
  rw [List.getLastD_eq_getLast?,List.getLast?_eq_some_getLast (by simp)]
  exact List.getLast_mem _
 rcases List.mem_cons.1 hm with h | h
 ·omega
 ·obtain⟨x,aw,e⟩:=List.mem_map.1 h
  have:=VZ 61 0 l 0 x aw
  omega
open Go.RowKit Go.G9
theorem adW (l:ca):(lM l)[(gT l).length]? =some ((hn l:Nat):Int):=by
 unfold hn uq lM
 rw [List.getLastD_eq_getLast?,List.getLast?_eq_getElem?]
 have e:(0:Int) ::(gT l).map vx= (0 ::(gT l).map (·.2.2)).map (fun (x:Nat)=>(x:Int)):=by
  simp [vx]
 rw [e,List.getElem?_map]
 have:(0 ::(gT l).map (·.2.2)).length - 1= (gT l).length:=by simp
 rw [this]
 have h:(0 ::(gT l).map (·.2.2))[(gT l).length]? =some ((0 ::(gT l).map (·.2.2))[(gT l).length]'(by simp)):=List.getElem?_eq_getElem _
 rw [h];rfl
theorem Ff (l:ca):(gn l).length= (gT l).length:=by simp [gn]
theorem adX (l:ca):(lM l).length= (gT l).length + 1:=by simp [lM]
theorem adY (l:ca) (m:Nat):(m:Int) ∈ lM l↔m ∈ 0 ::(gT l).map (·.2.2):=by
 have e:lM l= (0 ::(gT l).map (·.2.2)).map (fun (x:Nat)=>(x:Int)):=by simp [lM,vx]
 rw [e,List.mem_map]
 constructor
 ·rintro ⟨x,aw,h⟩
  have:x= m:=by omega
  subst this;exact aw
 ·exact fun h=>⟨m,h,rfl⟩
theorem ajH (d p:ca) (n:Int):jT d p n= (((hn (d ++ p):Nat):Int) == ((d.length:Int) + (p.length:Int)) && ((gn (d ++ p)).length:Int) == n && decide ((d.length:Int) ∈ lM (d ++ p))):=by
 have h1:=adU d p;have h2:=Dh (d ++ p)
 have h3:decide ((d.length:Int) ∈ lM (d ++ p))= (((hn d:Nat):Int) == (d.length:Int)):=by
  rw [Bool.eq_iff_iff,decide_eq_true_iff,beq_iff_eq,adY,← h1]
  omega
 unfold jT
 rw [h3]
 by_cases ct:d.length + p.length≤30000
 ·rw [decide_eq_true ct,Bool.true_and,Bool.and_assoc,Bool.and_assoc,Bool.and_comm (((hn d:Nat):Int) == (d.length:Int))]
 ·rw [decide_eq_false ct]
  have:(((hn (d ++ p):Nat):Int) == ((d.length:Int) + (p.length:Int)))= false:=by
   rw [beq_eq_false_iff_ne];omega
  rw [this];rfl
theorem zo (d p:ca) (n:Int) (ct:d.length + p.length≤1048576) (v:Bool) (ax:jT d p n= v) (w:World) (db:jF w):Calls Tryz.prog 64 #[.agg #[.string (bs d),.string (bs p),n]] w fun e ah=>e= .returned v∧Below w w ah:=by
 subst ax
 have Bm:=fB d;have mZ:=fB p
 have nD:(bs d).size + (bs p).size≤1048576:=by omega
 have ax:jT d p n= (((hn (d ++ p):Nat):Int) == (((bs d).size:Int) + ((bs p).size:Int)) && ((gn (d ++ p)).length:Int) == n && decide (((bs d).size:Int) ∈ lM (d ++ p))):=by
  rw [ajH,Bm,mZ]
 have kd:∀W,jF W→Calls Tryz.prog 65 #[.string (bs d ++ bs p)] W fun e ah=>∃A c kS cM,e= .returned (.tuple #[.slice A (gn (d ++ p)).length c,.slice kS (lM (d ++ p)).length cM])∧
  bd W 56 2 eB.cells ah (.slice A (gn (d ++ p)).length c) (gn (d ++ p))∧bd W 3 1 bV ah (.slice kS (lM (d ++ p)).length cM) (lM (d ++ p))∧Below W W ah:=fun W bL=>by
  rw [mP];exact Wh (d ++ p) (by simp;omega) W bL
 have nA:=Ff (d ++ p);have pU:=adX (d ++ p);have HI:=ND (d ++ p);have xo:=adW (d ++ p)
 rw [← nA] at xo
 have MX:(lM (d ++ p)).length= (gn (d ++ p)).length + 1:=by omega
 have MY:(gn (d ++ p)).length≤60:=by omega
 generalize bn:gn (d ++ p)= R at *
 generalize eG:lM (d ++ p)= E at *
 generalize eH:((hn (d ++ p):Nat):Int)= N at *
 have nI:=J kd;have bo:=J ax;have cB:=J xo;clear kd ax xo Bm mZ nA pU HI bn eG eH
 have aqs:R.length < E.length:=by omega
 have aqt:E.length≤61:=by omega
 have Sf:=db.ae (bT w (.cells #[.string (bs d),.string (bs p),n] 31));have bO:=J Sf;clear Sf
 have afE:∀dF dJ,(N == (((bs d).size:Int) + ((bs p).size:Int)))= dF→((R.length:Int) == n)= dJ→Calls Tryz.prog 64 #[.agg #[.string (bs d),.string (bs p),n]] w fun e ah=>e= .returned (.bool (dF && dJ && decide (((bs d).size:Int) ∈ E)))∧Below w w ah:=by
  intro dF dJ h1 h2
  have RG:(N != (((bs d).size:Int) + ((bs p).size:Int)))= !dF:=by rw [bne,h1]
  have RH:((R.length:Int) != n)= !dJ:=by rw [bne,h2]
  rcases aF:dF && dJ with _ | _
  ·have abG:=J aF;clear aF
   cases dF
   all_goals cases dJ
   case true.true=>cases abG.out
   all_goals simp only [Bool.not_true,Bool.not_false] at RG RH
   all_goals
    go_in
    go_wp2_with fail
    refine (nI.out _ bO.out).mono ?_
    rintro e bh ⟨ar,av,an,c2,rfl,bM,eG,br⟩
    have au:=be w br;have I:Below w w bh:=au;have gK:aB bh (w.heap.size) 31 #[.string (bs d),.string (bs p),n]:=aB.dY br
    obtain⟨eu,dF,dJ⟩:=gK.cq
    obtain⟨g2,Ns,rfl,xr,bz⟩:=eG.hj (hf:=fW) (by omega)
    have f0:=bz _ _ cB.out 0 _ rfl
    simp only [Nat.mul_one,Nat.add_zero] at f0
    have Ye:=gK.lt
    go_wp2
    go_ret
    exact⟨rfl,(aj I az)⟩
  ·obtain⟨rfl,rfl⟩ :dF= true∧dJ= true:=by simpa using aF
   clear aF
   simp only [Bool.not_true] at RG RH
   go_in
   go_wp2_with fail
   refine (nI.out _ bO.out).mono ?_
   rintro e bh ⟨ar,av,an,c2,rfl,bM,eG,br⟩
   have au:=be w br;have I:Below w w bh:=au;have gK:aB bh (w.heap.size) 31 #[.string (bs d),.string (bs p),n]:=aB.dY br
   obtain⟨eu,dF,dJ⟩:=gK.cq
   obtain⟨g2,Ns,rfl,xr,bz⟩:=eG.hj (hf:=fW) (by omega)
   have f0:=bz _ _ cB.out 0 _ rfl
   simp only [Nat.mul_one,Nat.add_zero] at f0
   have Ye:=gK.lt
   go_wp2
   go_loop [35] (fun i=>∃k:Nat,k≤E.length∧i= .int .i64 k∧∀j,j < k→E[j]?≠some ((bs d).size:Int)) (fun i=>E.length - (intOf i).toNat)
   case atStart=>exact⟨0,Nat.zero_le _,rfl,fun j bE=>absurd bE (Nat.not_lt_zero _)⟩
   case round=>
    obtain⟨k,aD,rfl,gM⟩:=hrel
    have vr:=J gM;clear gM
    by_cases bu:k < E.length
    ·have aw:E[k]? =some E[k]:=List.getElem?_eq_getElem bu
     generalize E[k]= x at aw
     have f1:=bz k x aw 0 _ rfl
     simp only [Nat.mul_one,Nat.add_zero] at f1
     have cc:=J aw;clear aw
     cases he:(x == ((bs d).size:Int))
     ·have cW:=J he
      go_wp2
      go_round
      case rel=>
       refine⟨k + 1,by omega,by go_num,fun j bE=>?_⟩
       rcases Nat.lt_or_ge j k with h | h
       ·exact vr.out j h
       ·obtain rfl:j= k:=by omega
        rw [cc.out]
        intro h2;injection h2 with h2
        exact beq_eq_false_iff_ne.1 cW.out h2
      case measure=>simp [intOf];omega
     ·have cW:=J he
      go_wp2
      go_ret
      have hm:((bs d).size:Int) ∈ E:=List.mem_of_getElem? (by rw [cc.out,beq_iff_eq.1 cW.out])
      exact⟨by rw [decide_eq_true hm];rfl,(aj I az)⟩
    ·obtain rfl:k= E.length:=by omega
     go_wp2
     go_ret
     have hm:¬((bs d).size:Int) ∈ E:=fun h=>by
      obtain⟨j,bE⟩:=List.getElem?_of_mem h
      exact vr.out j (List.getElem?_eq_some_iff.1 bE).1 bE
     exact⟨by rw [decide_eq_false hm];rfl,(aj I az)⟩
 have:=afE _ _ rfl rfl
 rw [bo.out];exact this
open Go.RowKit Go.G9
def NQ (l:ca):ca:=if l.length≤30000 then l.take (hn l) else []
def NR (l:ca):Nat:=if l.length≤30000 then (gn l).length else 0
def Wj (l:ca):Nat:=if l.length≤30000 then hn l else 0
def mD (d p:ca) (n:Int):List eB:=if jT d p n then gn (d ++ p) else []
theorem ajL (d p:ca) (n:Int):(mD d p n).length≤60:=by
 unfold mD
 split
 ·rw [Ff];exact ND _
 ·simp
theorem Yq {p:Prop} (h:p:=by
 have al:=be bh aL;replace I:=aj I al;replace gK:=gK.to al;clear ff;have ff:=gK.cq
 go_wp2
 go_ret2
 rw [dU.out]
 exact⟨ar,av,rfl,bM.base (by have h1:=br.size;simp at h1;omega),(aj I az)⟩):p:=h
theorem ahP (d p:ca) (n:Int) (ct:d.length + p.length≤1048576) (w:World) (db:jF w):Calls Tryz.prog 23 #[.agg #[.string (bs d),.string (bs p),n]] w fun e ah=>∃A c,e= .returned (.tuple #[.slice A (mD d p n).length c,.bool (jT d p n)])∧bd w 56 2 eB.cells ah (.slice A (mD d p n).length c) (mD d p n)∧Below w w ah:=by
 have nD:(bs d).size + (bs p).size≤1048576:=by rw [fB,fB];exact ct
 have bO:=J (db.ae (bT w (.cells #[.string (bs d),.string (bs p),n] 31)))
 cases ax:jT d p n
 ·have aV:mD d p n= []:=by simp [mD,ax]
  have dU:=J aV;have bo:=J ax;clear aV ax
  go_in
  go_wp2_with fail
  refine (zo d p n ct _ bo.out _ bO.out).mono ?_
  rintro e bh ⟨rfl,br⟩
  have au:=be w br;have I:Below w w bh:=au
  go_wp2
  go_ret2
  rw [dU.out]
  exact⟨none,0,rfl,bd.nil,(aj I az)⟩
 ·have aV:mD d p n= gn (d ++ p):=by simp [mD,ax]
  have kd:∀W,jF W→Calls Tryz.prog 65 #[.string (bs d ++ bs p)] W fun e ah=>∃A c kS cM,e= .returned (.tuple #[.slice A (gn (d ++ p)).length c,.slice kS (lM (d ++ p)).length cM])∧
   bd W 56 2 eB.cells ah (.slice A (gn (d ++ p)).length c) (gn (d ++ p))∧bd W 3 1 bV ah (.slice kS (lM (d ++ p)).length cM) (lM (d ++ p))∧Below W W ah:=fun W bL=>by
   rw [mP];exact Wh (d ++ p) (by simp;omega) W bL
  have nI:=J kd;have dU:=J aV;have bo:=J ax;clear aV ax kd
  go_in
  go_wp2_with fail
  refine (zo d p n ct _ bo.out _ bO.out).mono ?_
  rintro e bh ⟨rfl,br⟩
  have au:=be w br;have I:Below w w bh:=au;have gK:aB bh (w.heap.size) 31 #[.string (bs d),.string (bs p),n]:=aB.dY br;have ff:=gK.cq
  go_wp2_with fail
  refine (nI.out _ (db.ae I)).mono ?_
  rintro e aJ ⟨ar,av,an,c2,rfl,bM,eG,aL⟩
  exact Yq
theorem amu (d p:ca) (n:Int) (ct:d.length + p.length≤1048576) (w:World):Calls Tryz.prog 45 #[.agg #[.string (bs d),.string (bs p),n]] w fun e ah=>∃A c,e= .returned (.tuple #[.slice A (mD d p n).length c,.bool (jT d p n)])∧bd w 56 2 eB.cells ah (.slice A (mD d p n).length c) (mD d p n)∧Below w w ah:=by
 have nD:(bs d).size + (bs p).size≤1048576:=by rw [fB,fB];exact ct
 have bJ:d.length≤1048576:=by omega
 have aN:p.length≤1048576:=by omega
 cases ax:jT d p n
 ·have aV:mD d p n= []:=by simp [mD,ax]
  have dU:=J aV;have bo:=J ax;clear aV ax
  go_in
  go_wp2_with fail
  refine (zu d p n bJ aN _ bo.out _).mono ?_
  rintro e bh ⟨rfl,br⟩
  have au:=be w br;have I:Below w w bh:=au
  go_wp2
  go_ret2
  rw [dU.out]
  exact⟨_,0,rfl,bd.made _ (by have h1:=br.size;simp at h1;omega) _,(aj I az)⟩
 ·have aV:mD d p n= gn (d ++ p):=by simp [mD,ax]
  have kd:∀W,Calls Tryz.prog 87 #[.string (bs d ++ bs p)] W fun e ah=>∃A c,e= .returned (.tuple #[.slice A (gn (d ++ p)).length c,.int .i64 (hn (d ++ p):Nat)])∧
   bd W 56 2 eB.cells ah (.slice A (gn (d ++ p)).length c) (gn (d ++ p))∧Below W W ah:=fun W=>by
   rw [mP];exact MV (d ++ p) (by simp;omega) W
  have nI:=J kd;have dU:=J aV;have bo:=J ax;clear aV ax kd
  go_in
  go_wp2_with fail
  refine (zu d p n bJ aN _ bo.out _).mono ?_
  rintro e bh ⟨rfl,br⟩
  have au:=be w br;have I:Below w w bh:=au;have gK:aB bh (w.heap.size) 31 #[.string (bs d),.string (bs p),n]:=aB.dY br;have ff:=gK.cq
  go_wp2_with fail
  refine (nI.out _).mono ?_
  rintro e aJ ⟨ar,av,rfl,bM,aL⟩
  exact Yq
open Go.RowKit Go.G9
def pz (d p:ca) (n:Int) (c r:ca):Bool:=jT d p n && jV c r
def rQ (d p:ca) (n:Int) (c r:ca):ca:=if pz d p n c r && !(n == 60) then p ++ (fj n c r ++ [10]) else p
def sS (d p:ca) (n:Int) (c r:ca):Int:=if pz d p n c r && !(n == 60) then n + 1 else n
def rP (d p:ca) (n:Int) (c r:ca):Int:=if pz d p n c r then (if n == 60 then 2 else 0) else 1
def mN (d p:ca) (n:Int) (c r:ca):Value:= .tuple #[.agg #[.string (bs d),.string (bs (rQ d p n c r)),.int .i64 (sS d p n c r)],.int .i64 (rP d p n c r)]
theorem HK {d p:ca} {n:Int} (h:jT d p n= true):0≤n∧n≤60∧d.length + p.length≤30000:=by
 unfold jT at h
 simp only [Bool.and_eq_true,decide_eq_true_eq,beq_iff_eq] at h
 have h1:=Ff (d ++ p);have h2:=ND (d ++ p)
 omega
theorem adS {n:Int} {c r:ca} {w0:World} (h:∀W,jF W→Calls Tryz.prog 105 #[n,.agg #[.string (bs c),.string (bs r)]] W fun e ah=>e= .returned (.string (bs (fj n c r ++ [10])))∧Below W W ah) (db:jF w0) (K:ay w0.heap.size w0):
 Calls Tryz.prog 105 #[n,.agg #[.string (bs c),.string (bs r)]] K.world fun e ah=>e= .returned (.string (bs (fj n c r ++ [10])))∧Below K.world.heap.size K.world ah:=h _ (db.ae K.ae)
theorem aaq {p:Prop} (h:p:=by
 have FD:=U.mQ;have ai:=(((U.gE 0 (.string (bs d))).gE 1 (.string (bs p))).gE 2 (.int .i64 n));have fX:=ai.cq
 go_wp2
 refine bodyPost_ret (v:= .tuple #[.agg #[.string (bs d),.string (bs p),n],(1:Int)]) (by simp [results,Tryz.results57,go_sem,fX]) rfl ?_
 exact⟨by rw [bo.out],(by repeat (first | exact I | exact Below.refl _ _ | refine Below.alloc ?_ (by first | exact Nat.le_refl _ | (have gN:=I.size;simp;omega) | (simp <;> omega)) _ | refine Below.setCell ?_ (by first | exact Nat.le_refl _ | (simp <;> omega)) _))⟩):p:=h
theorem Jc {p:Prop} (h:p:=by
 exact⟨by rw [bo.out],(by repeat (first | exact I | exact Below.refl _ _ | refine Below.alloc ?_ (by first | exact Nat.le_refl _ | (have gN:=I.size;simp;omega) | (simp <;> omega)) _ | refine Below.setCell ?_ (by first | exact Nat.le_refl _ | (simp <;> omega)) _))⟩):p:=h
theorem ahi (d p:ca) (n:Int) (ct:d.length + p.length≤1048576) (c r:ca) (aH:c.length≤1048576) (bp:r.length≤1048576) (w:World) (db:jF w):Calls Tryz.prog 57 #[.agg #[.string (bs d),.string (bs p),n],.agg #[.string (bs c),.string (bs r)]] w fun e ah=>e= .returned (mN d p n c r)∧Below w w ah:=by
 have s1:(bs c).size≤1048576:=by rw [fB];exact aH
 have s2:(bs r).size≤1048576:=by rw [fB];exact bp
 have bO:=J (db.ae (Kn w (.cells #[.string (bs d),.string (bs p),n] 31) (.cells #[.string (bs c),.string (bs r)] 56) (.cells #[.string ⟨#[]⟩,.string ⟨#[]⟩,(0:Int)] 31)))
 cases aT:jT d p n
 ·have ax:mN d p n c r= .tuple #[.agg #[.string (bs d),.string (bs p),n],(1:Int)]:=by simp [mN,rQ,sS,rP,pz,aT]
  have bo:=J ax;have cB:=J aT;clear ax aT
  go_in
  go_wp2_with fail
  refine (zo d p n ct _ cB.out _ bO.out).mono ?_
  rintro e bh ⟨rfl,br⟩
  have au:=be w br;have I:Below w w bh:=au;have bG:aB bh (w.heap.size) 31 #[.string (bs d),.string (bs p),n]:=aB.dY br;have ff:=bG.cq;have U:aB bh ((w.heap.size + 1 + 1)) 31 #[.string ⟨#[]⟩,.string ⟨#[]⟩,(0:Int)]:=aB.dY br
  obtain⟨z0,bW,z2⟩:=U.cq
  exact aaq
 ·obtain⟨n0,n1,BM⟩:=HK aT
  have alN:(bs d).size + (bs p).size≤30000:=by rw [fB,fB];exact BM
  cases cG:jV c r
  ·have ax:mN d p n c r= .tuple #[.agg #[.string (bs d),.string (bs p),n],(1:Int)]:=by simp [mN,rQ,sS,rP,pz,aT,cG]
   have bo:=J ax;have cB:=J aT;have dm:=J cG;clear ax aT cG
   go_in
   go_wp2_with fail
   refine (zo d p n ct _ cB.out _ bO.out).mono ?_
   rintro e bh ⟨rfl,br⟩
   have au:=be w br;have I:Below w w bh:=au;have bG:aB bh (w.heap.size) 31 #[.string (bs d),.string (bs p),n]:=aB.dY br;have ff:=bG.cq;have bn:aB bh ((w.heap.size + 1)) 56 #[.string (bs c),.string (bs r)]:=aB.dY br
   have lU:=bn.kY;have U:aB bh ((w.heap.size + 1 + 1)) 31 #[.string ⟨#[]⟩,.string ⟨#[]⟩,(0:Int)]:=aB.dY br;obtain⟨z0,bW,z2⟩:=U.cq
   go_wp2_with fail
   refine (vY (bs c) (bs r) s1 s2 _ dm.out _).mono ?_
   rintro e aJ ⟨rfl,aL⟩
   have al:=be bh aL;replace I:=aj I al;replace bG:=bG.to al;clear ff;have ff:=bG.cq;clear lU;replace U:=U.to al;clear z0 bW z2;obtain⟨z0,bW,z2⟩:=U.cq
   exact aaq
  ·cases h6:n == 60
   ·have ax:mN d p n c r= .tuple #[.agg #[.string (bs d),.string (bs p ++ bs (fj n c r ++ [10])),.int .i64 (n + 1)],(0:Int)]:=by simp [mN,rQ,sS,rP,pz,aT,cG,h6,mP]
    have xl:∀W,jF W→Calls Tryz.prog 105 #[n,.agg #[.string (bs c),.string (bs r)]] W fun e ah=>e= .returned (.string (bs (fj n c r ++ [10])))∧Below W W ah:=fun W bL=>Rl n (by omega) (by omega) c r cG W bL
    have alO:(bs (fj n c r ++ [10])).size≤372:=by rw [fB];have:=Bz n0 (by omega) cG;simp;omega
    have bo:=J ax;have cB:=J aT;have dm:=J cG;have cW:=J xl;clear ax aT cG xl
    go_in
    go_wp2_with fail
    refine (zo d p n ct _ cB.out _ bO.out).mono ?_
    rintro e bh ⟨rfl,br⟩
    have au:=be w br;have I:Below w w bh:=au;have bG:aB bh (w.heap.size) 31 #[.string (bs d),.string (bs p),n]:=aB.dY br;have ff:=bG.cq;have bn:aB bh ((w.heap.size + 1)) 56 #[.string (bs c),.string (bs r)]:=aB.dY br
    have lU:=bn.kY;have U:aB bh ((w.heap.size + 1 + 1)) 31 #[.string ⟨#[]⟩,.string ⟨#[]⟩,(0:Int)]:=aB.dY br;obtain⟨z0,bW,z2⟩:=U.cq
    go_wp2_with fail
    refine (vY (bs c) (bs r) s1 s2 _ dm.out _).mono ?_
    rintro e aJ ⟨rfl,aL⟩
    have al:=be bh aL;replace I:=aj I al;replace bG:=bG.to al;clear ff;have ff:=bG.cq;replace bn:=bn.to al;clear lU;have lU:=bn.kY;replace U:=U.to al;clear z0 bW z2;obtain⟨z0,bW,z2⟩:=U.cq
    go_wp2
    have acC:=J (db.ae I);clear ff;have ff:=aB.jv (fun K:ay aJ.heap.size aJ=>(bG.ae K.ae bG.lt));clear lU;have lU:=aB.Gz (fun K:ay aJ.heap.size aJ=>(bn.ae K.ae bn.lt));clear z0 bW z2
    have z0:=fun K:ay aJ.heap.size aJ=>((U.ae K.ae U.lt).cell 0).trans (show _= some (.string ⟨#[]⟩) from rfl)
    have bW:=fun K:ay aJ.heap.size aJ=>((U.ae K.ae U.lt).cell 1).trans (show _= some (.string ⟨#[]⟩) from rfl)
    have z2:=fun K:ay aJ.heap.size aJ=>((U.ae K.ae U.lt).cell 2).trans (show _= some (.int .i64 0) from rfl)
    refine Fv 13 (by kernel_rfl) (by kernel_rfl) ?_
    change wpQuiet _ _ _ _ (_ ::_ ::_ ::_ ::_ ::_ ::_ ::_ ::_ ::_ ::_ ::_ ::_ ::[]) _
    repeat (go_big_quiet_step ((first | (go_at_call 105;exact ay.call _ (by first | exact Nat.le_refl _ | omega) (adS cW.out acC.out _)))))
    refine wpQuiet_nil ?_
    intro K
    change wpList _ _ _ (_ ::_ ::[]) _ _
    clear ff;clear lU;clear z0 bW z2;have aP:Below aJ aJ K.world:=aj az K.ae;replace I:=aj I aP;replace U:=U.to aP;obtain⟨z0,bW,z2⟩:=U.cq;have FD:=U.mQ;have ai:=(((U.gE 0 (.string (bs d))).gE 1 (.string (bs p ++ bs (fj n c r ++ [10])))).gE 2 (.int .i64 (n + 1)))
    have fX:=ai.cq
    go_wp2
    refine bodyPost_ret (v:= .tuple #[.agg #[.string (bs d),.string (bs p ++ bs (fj n c r ++ [10])),.int .i64 (n + 1)],(0:Int)]) (by simp [results,Tryz.results57,go_sem,fX]) rfl ?_
    exact Jc
   ·have ax:mN d p n c r= .tuple #[.agg #[.string (bs d),.string (bs p),n],(2:Int)]:=by simp [mN,rQ,sS,rP,pz,aT,cG,h6]
    have bo:=J ax;have cB:=J aT;have dm:=J cG;clear ax aT cG
    go_in
    go_wp2_with fail
    refine (zo d p n ct _ cB.out _ bO.out).mono ?_
    rintro e bh ⟨rfl,br⟩
    have au:=be w br;have I:Below w w bh:=au;have bG:aB bh (w.heap.size) 31 #[.string (bs d),.string (bs p),n]:=aB.dY br;have ff:=bG.cq;have bn:aB bh ((w.heap.size + 1)) 56 #[.string (bs c),.string (bs r)]:=aB.dY br
    have lU:=bn.kY;have U:aB bh ((w.heap.size + 1 + 1)) 31 #[.string ⟨#[]⟩,.string ⟨#[]⟩,(0:Int)]:=aB.dY br;obtain⟨z0,bW,z2⟩:=U.cq
    go_wp2_with fail
    refine (vY (bs c) (bs r) s1 s2 _ dm.out _).mono ?_
    rintro e aJ ⟨rfl,aL⟩
    have al:=be bh aL;replace I:=aj I al;replace bG:=bG.to al;clear ff;have ff:=bG.cq;clear lU;replace U:=U.to al;clear z0 bW z2;obtain⟨z0,bW,z2⟩:=U.cq;have FD:=U.mQ;have ai:=(((U.gE 0 (.string (bs d))).gE 1 (.string (bs p))).gE 2 (.int .i64 n))
    have fX:=ai.cq
    go_wp2
    refine bodyPost_ret (v:= .tuple #[.agg #[.string (bs d),.string (bs p),n],(2:Int)]) (by simp [results,Tryz.results57,go_sem,fX]) rfl ?_
    exact Jc
theorem ajE {n:Int} {c r:ca} {sj:ByteArray} {w0:World} (h:∀W,Calls Tryz.prog 91 #[n,.agg #[.string (bs c),.string (bs r)]] W fun e ah=>e= .returned sj∧Below W W ah) (K:ay w0.heap.size w0):
 Calls Tryz.prog 91 #[n,.agg #[.string (bs c),.string (bs r)]] K.world fun e ah=>e= .returned sj∧Below K.world.heap.size K.world ah:=h _
theorem aar {p:Prop} (h:p:=by
 have FD:=U.mQ;have ai:=(((U.gE 0 (.string (bs d))).gE 1 (.string (bs p))).gE 2 (.int .i64 n));have fX:=ai.cq
 go_wp2
 refine bodyPost_ret (v:= .tuple #[.agg #[.string (bs d),.string (bs p),n],(1:Int)]) (by simp [results,Tryz.results51,go_sem,fX]) rfl ?_
 exact⟨by rw [bo.out],(by repeat (first | exact I | exact Below.refl _ _ | refine Below.alloc ?_ (by first | exact Nat.le_refl _ | (have gN:=I.size;simp;omega) | (simp <;> omega)) _ | refine Below.setCell ?_ (by first | exact Nat.le_refl _ | (simp <;> omega)) _))⟩):p:=h
theorem alV (d p:ca) (n:Int) (ct:d.length + p.length≤1048576) (c r:ca) (aH:c.length≤1048576) (bp:r.length≤1048576) (w:World):Calls Tryz.prog 51 #[.agg #[.string (bs d),.string (bs p),n],.agg #[.string (bs c),.string (bs r)]] w fun e ah=>e= .returned (mN d p n c r)∧Below w w ah:=by
 have s1:(bs c).size≤1048576:=by rw [fB];exact aH
 have s2:(bs r).size≤1048576:=by rw [fB];exact bp
 have bJ:d.length≤1048576:=by omega
 have aN:p.length≤1048576:=by omega
 cases aT:jT d p n
 ·have ax:mN d p n c r= .tuple #[.agg #[.string (bs d),.string (bs p),n],(1:Int)]:=by simp [mN,rQ,sS,rP,pz,aT]
  have bo:=J ax;have cB:=J aT;clear ax aT
  go_in
  go_wp2_with fail
  refine (zu d p n bJ aN _ cB.out _).mono ?_
  rintro e bh ⟨rfl,br⟩
  have au:=be w br;have I:Below w w bh:=au;have bG:aB bh (w.heap.size) 31 #[.string (bs d),.string (bs p),n]:=aB.dY br;have ff:=bG.cq;have U:aB bh ((w.heap.size + 1 + 1)) 31 #[.string ⟨#[]⟩,.string ⟨#[]⟩,(0:Int)]:=aB.dY br
  obtain⟨z0,bW,z2⟩:=U.cq
  exact aar
 ·obtain⟨n0,n1,BM⟩:=HK aT
  have alN:(bs d).size + (bs p).size≤30000:=by rw [fB,fB];exact BM
  cases cG:jV c r
  ·have ax:mN d p n c r= .tuple #[.agg #[.string (bs d),.string (bs p),n],(1:Int)]:=by simp [mN,rQ,sS,rP,pz,aT,cG]
   have bo:=J ax;have cB:=J aT;have dm:=J cG;clear ax aT cG
   go_in
   go_wp2_with fail
   refine (zu d p n bJ aN _ cB.out _).mono ?_
   rintro e bh ⟨rfl,br⟩
   have au:=be w br;have I:Below w w bh:=au;have bG:aB bh (w.heap.size) 31 #[.string (bs d),.string (bs p),n]:=aB.dY br;have ff:=bG.cq;have bn:aB bh ((w.heap.size + 1)) 56 #[.string (bs c),.string (bs r)]:=aB.dY br
   have lU:=bn.kY;have U:aB bh ((w.heap.size + 1 + 1)) 31 #[.string ⟨#[]⟩,.string ⟨#[]⟩,(0:Int)]:=aB.dY br;obtain⟨z0,bW,z2⟩:=U.cq
   go_wp2_with fail
   refine (zt (bs c) (bs r) s1 s2 _ dm.out _).mono ?_
   rintro e aJ ⟨rfl,aL⟩
   have al:=be bh aL;replace I:=aj I al;replace bG:=bG.to al;clear ff;have ff:=bG.cq;clear lU;replace U:=U.to al;clear z0 bW z2;obtain⟨z0,bW,z2⟩:=U.cq
   exact aar
  ·cases h6:n == 60
   ·have ax:mN d p n c r= .tuple #[.agg #[.string (bs d),.string (bs p ++ bs (fj n c r ++ [10])),.int .i64 (n + 1)],(0:Int)]:=by simp [mN,rQ,sS,rP,pz,aT,cG,h6,mP]
    have xl:∀W,Calls Tryz.prog 91 #[n,.agg #[.string (bs c),.string (bs r)]] W fun e ah=>e= .returned (.string (bs (fj n c r ++ [10])))∧Below W W ah:=fun W=>Ut n (by omega) (by omega) c r cG W
    have alO:(bs (fj n c r ++ [10])).size≤372:=by rw [fB];have:=Bz n0 (by omega) cG;simp;omega
    have bo:=J ax;have cB:=J aT;have dm:=J cG;have cW:=J xl;clear ax aT cG xl
    generalize bs (fj n c r ++ [10])= sj at *
    go_in
    go_wp2_with fail
    refine (zu d p n bJ aN _ cB.out _).mono ?_
    rintro e bh ⟨rfl,br⟩
    have au:=be w br;have I:Below w w bh:=au;have bG:aB bh (w.heap.size) 31 #[.string (bs d),.string (bs p),n]:=aB.dY br;have ff:=bG.cq;have bn:aB bh ((w.heap.size + 1)) 56 #[.string (bs c),.string (bs r)]:=aB.dY br
    have lU:=bn.kY;have U:aB bh ((w.heap.size + 1 + 1)) 31 #[.string ⟨#[]⟩,.string ⟨#[]⟩,(0:Int)]:=aB.dY br;obtain⟨z0,bW,z2⟩:=U.cq
    go_wp2_with fail
    refine (zt (bs c) (bs r) s1 s2 _ dm.out _).mono ?_
    rintro e aJ ⟨rfl,aL⟩
    have al:=be bh aL;replace I:=aj I al;replace bG:=bG.to al;clear ff;have ff:=bG.cq;replace bn:=bn.to al;clear lU;have lU:=bn.kY;replace U:=U.to al;clear z0 bW z2;obtain⟨z0,bW,z2⟩:=U.cq
    go_wp2
    clear ff;have ff:=aB.jv (fun K:ay aJ.heap.size aJ=>(bG.ae K.ae bG.lt));clear lU;have lU:=aB.Gz (fun K:ay aJ.heap.size aJ=>(bn.ae K.ae bn.lt));clear z0 bW z2
    have z0:=fun K:ay aJ.heap.size aJ=>((U.ae K.ae U.lt).cell 0).trans (show _= some (.string ⟨#[]⟩) from rfl)
    have bW:=fun K:ay aJ.heap.size aJ=>((U.ae K.ae U.lt).cell 1).trans (show _= some (.string ⟨#[]⟩) from rfl)
    have z2:=fun K:ay aJ.heap.size aJ=>((U.ae K.ae U.lt).cell 2).trans (show _= some (.int .i64 0) from rfl)
    refine Fv 8 (by kernel_rfl) (by kernel_rfl) ?_
    change wpQuiet _ _ _ _ (_ ::_ ::_ ::_ ::_ ::_ ::_ ::_ ::[]) _
    repeat (go_big_quiet_step ((first | (go_at_call 91;exact ay.call _ (by first | exact Nat.le_refl _ | omega) (ajE cW.out _)))))
    refine wpQuiet_nil ?_
    intro K
    change wpList _ _ _ (_ ::[]) _ _
    clear ff;clear lU;clear z0 bW z2;have aP:Below aJ aJ K.world:=aj az K.ae;replace I:=aj I aP;replace bG:=bG.to aP;have ff:=bG.cq;replace U:=U.to aP;obtain⟨z0,bW,z2⟩:=U.cq
    have aeu:=bG.frozen 1
    go_upto_region 6 with fail
    clear aeu;clear ff z0 bW z2;replace I:Below w w (World.setCell K.world ⟨w.heap.size,1,none⟩ (.string (bs p ++ sj))):=I.setCell (by show w.heap.size≤w.heap.size;omega) _;replace bG:aB (World.setCell K.world ⟨w.heap.size,1,none⟩ (.string (bs p ++ sj))) (w.heap.size) 31 #[.string (bs d),.string (bs p ++ sj),n]:=bG.gE 1 (.string (bs p ++ sj));replace U:=U.ur (p:=⟨w.heap.size,1,none⟩) (by show _≠w.heap.size;omega) (.string (bs p ++ sj))
    generalize World.setCell K.world ⟨w.heap.size,1,none⟩ (.string (bs p ++ sj))= mf at *
    have ff:=bG.cq;obtain⟨z0,bW,z2⟩:=U.cq;have aev:=bG.frozen 2
    go_upto_region 7 with fail
    clear aev;clear ff z0 bW z2;replace I:Below w w (World.setCell mf ⟨w.heap.size,2,none⟩ (.int .i64 (n + 1))):=I.setCell (by show w.heap.size≤w.heap.size;omega) _;replace bG:aB (World.setCell mf ⟨w.heap.size,2,none⟩ (.int .i64 (n + 1))) (w.heap.size) 31 #[.string (bs d),.string (bs p ++ sj),.int .i64 (n + 1)]:=bG.gE 2 (.int .i64 (n + 1));replace U:=U.ur (p:=⟨w.heap.size,2,none⟩) (by show _≠w.heap.size;omega) (.int .i64 (n + 1))
    generalize World.setCell mf ⟨w.heap.size,2,none⟩ (.int .i64 (n + 1))= kr at *
    have ff:=bG.cq;obtain⟨z0,bW,z2⟩:=U.cq;have FD:=U.mQ;have ai:=(((U.gE 0 (.string (bs d))).gE 1 (.string (bs p ++ sj))).gE 2 (.int .i64 (n + 1)));have fX:=ai.cq
    go_wp2
    refine bodyPost_ret (v:= .tuple #[.agg #[.string (bs d),.string (bs p ++ sj),.int .i64 (n + 1)],(0:Int)]) (by simp [results,Tryz.results51,go_sem,fX]) rfl ?_
    exact Jc
   ·have ax:mN d p n c r= .tuple #[.agg #[.string (bs d),.string (bs p),n],(2:Int)]:=by simp [mN,rQ,sS,rP,pz,aT,cG,h6]
    have bo:=J ax;have cB:=J aT;have dm:=J cG;clear ax aT cG
    go_in
    go_wp2_with fail
    refine (zu d p n bJ aN _ cB.out _).mono ?_
    rintro e bh ⟨rfl,br⟩
    have au:=be w br;have I:Below w w bh:=au;have bG:aB bh (w.heap.size) 31 #[.string (bs d),.string (bs p),n]:=aB.dY br;have ff:=bG.cq;have bn:aB bh ((w.heap.size + 1)) 56 #[.string (bs c),.string (bs r)]:=aB.dY br
    have lU:=bn.kY;have U:aB bh ((w.heap.size + 1 + 1)) 31 #[.string ⟨#[]⟩,.string ⟨#[]⟩,(0:Int)]:=aB.dY br;obtain⟨z0,bW,z2⟩:=U.cq
    go_wp2_with fail
    refine (zt (bs c) (bs r) s1 s2 _ dm.out _).mono ?_
    rintro e aJ ⟨rfl,aL⟩
    have al:=be bh aL;replace I:=aj I al;replace bG:=bG.to al;clear ff;have ff:=bG.cq;clear lU;replace U:=U.to al;clear z0 bW z2;obtain⟨z0,bW,z2⟩:=U.cq;have FD:=U.mQ;have ai:=(((U.gE 0 (.string (bs d))).gE 1 (.string (bs p))).gE 2 (.int .i64 n))
    have fX:=ai.cq
    go_wp2
    refine bodyPost_ret (v:= .tuple #[.agg #[.string (bs d),.string (bs p),n],(2:Int)]) (by simp [results,Tryz.results51,go_sem,fX]) rfl ?_
    exact Jc
end Go.Proofs.YtlaaemmmbodaaaaGreatDoor
namespace Go.G9
open Go.RowKit
end Go.G9
namespace Go.Proofs.YtlaaemmmbodaaaaGreatDoor
open Go.RowKit Go.G9
structure tZ (w:World) (g:Nat) (l:ca):Prop where
 lt:g < w.heap.size
 cell:∀i (h:i < l.length),w.cell? ⟨g,i,none⟩ =some (.int .u8 (l[i].toNat:Int))
 free:∀i,i < l.length→w.frozen? ⟨g,i,none⟩ =false
theorem tZ.new (w:World) (l:ca) (C:Array Value) (t:TypeId) (aV:(bs l).size≤C.size) (eC:∀i (h:i < (bs l).size),C[i]? =some (.int .u8 ((bs l)[i].toNat:Int))):tZ (w.alloc (.cells C t (C.size,C.size + 1))) w.heap.size l:=by
 have ck:=fB l;have aF:(w.alloc (.cells C t (C.size,C.size + 1))).heap[w.heap.size]? =some (.cells C t (C.size,C.size + 1)):=heap_alloc_new w _
 refine⟨by simp,fun i h=>?_,fun i h=>?_⟩
 ·rw [cell_of_row _ _ i C t _ aF,eC i (by omega),CX]
 ·unfold World.frozen?
  simp only [aF]
  simp
  omega
theorem tZ.drew {w:World} {g:Nat} {l:ca} (h:tZ w g l):tZ w.drew g l:=⟨h.lt,h.cell,h.free⟩
theorem tZ.bytes {w:World} {g:Nat} {l:ca} (h:tZ w g l):Lib.Bytes w g 0 (bs l):=fun i hi=>by
 have ck:=fB l
 rw [Nat.zero_add,h.cell i (by omega),CX]
theorem tZ.gE {w:World} {g:Nat} {l:ca} (h:tZ w g l) (j:Nat) (bE:j < l.length) (x:UInt8):tZ (w.setCell ⟨g,j,none⟩ (.int .u8 (x.toNat:Int))) g (l.set j x):=by
 refine⟨by have:=h.lt;simpa [World.setCell] using this,fun i hi=>?_,fun i hi=>?_⟩
 ·rw [List.length_set] at hi
  by_cases e:j= i
  ·subst e
   rw [World.cell?_setCell_same (v:= .int .u8 (x.toNat:Int)) (h:=h.cell j bE)]
   simp
  ·rw [World.cell?_setCell_other (h:=by simp [e]),h.cell i hi,List.getElem_set_ne e]
 ·rw [List.length_set] at hi
  rw [World.frozen?_setCell]
  exact h.free i hi
open Go.RowKit Go.G9
structure fU where
 eP:ByteArray
 eR:ByteArray
 dW:Int
def fU.cells (x:fU):List Value:=[.string x.eP,.string x.eR,.int .i64 x.dW]
theorem anG (x:fU) (bJ:x.eP.size≤maxLen) (aN:x.eR.size≤maxLen) (l:Int) (h0:0≤l) (h1:l≤1048576) (w:World):
 Calls Tryz.prog 10 #[.agg #[x.eP,x.eR,x.dW],l] w fun e ah=>∃q:Int,e= .returned q∧-1≤q∧q≤l∧(q < 0∨x.eP.size + x.eR.size≤l)∧Below w w ah:=by
 unfold maxLen at bJ aN
 go_in
 go_wp2
 all_goals go_ret
 all_goals exact⟨_,rfl,by omega,by omega,by omega,bT _ _⟩
theorem XG (x:fU) (aoA:x.eP.size + x.eR.size≤1048576) (w:World):Calls Tryz.prog 13 #[.agg #[x.eP,x.eR,x.dW]] w fun e ah=>e= .returned (.agg #[x.eP,x.eR,x.dW])∧Below w w ah:=by
 go_in
 go_wp2
 exact bodyPost_ret (v:= .agg #[x.eP,x.eR,x.dW]) (by simp [results,Tryz.results13,go_sem]) rfl ⟨rfl,Kn _ _ _ _⟩
def fU.d (x:fU):ca:=x.eP.data.toList
def fU.p (x:fU):ca:=x.eR.data.toList
theorem fU.len (x:fU) (h:x.eP.size + x.eR.size≤1048576):x.d.length + x.p.length≤1048576:=by
 unfold fU.d fU.p;rw [Array.length_toList,Array.length_toList];exact h
theorem yx (x:fU):bs x.d= x.eP:=CY _
theorem yy (x:fU):bs x.p= x.eR:=CY _
def eB.c (x:eB):ca:=x.cmd.data.toList
def eB.r (x:eB):ca:=x.rep.data.toList
theorem Gt (x:eB):bs x.c= x.cmd:=CY _
theorem Gu (x:eB):bs x.r= x.rep:=CY _
theorem eB.QI (x:eB) (h:x.cmd.size≤1048576):x.c.length≤1048576:=by unfold eB.c;rw [Array.length_toList];exact h
theorem eB.Wq (x:eB) (h:x.rep.size≤1048576):x.r.length≤1048576:=by unfold eB.r;rw [Array.length_toList];exact h
theorem ahL (x:fU) (h:x.eP.size + x.eR.size≤1048576) (v:Bool) (ax:jT x.d x.p x.dW= v) (w:World) (db:jF w):Calls Tryz.prog 64 #[.agg #[x.eP,x.eR,x.dW]] w fun e ah=>e= .returned v∧Below w w ah:=by
 have:=zo x.d x.p x.dW (x.len h) v ax w db
 rwa [yx,yy] at this
open Go.RowKit Go.G9
def akg:fU:=⟨⟨#[]⟩,⟨#[]⟩,0⟩
def fU.ok (x:fU):Bool:=jT x.d x.p x.dW
def XA (x:fU):fU:=if x.ok then ⟨x.eP ++ x.eR,⟨#[]⟩,x.dW⟩ else akg
def iD (x:fU) (y:eB):fU:=⟨x.eP,bs (rQ x.d x.p x.dW y.c y.r),sS x.d x.p x.dW y.c y.r⟩
def Az (x:fU) (y:eB):Int:=rP x.d x.p x.dW y.c y.r
def alc (s:ByteArray):fU:=⟨bs (NQ s.data.toList),⟨#[]⟩,(NR s.data.toList:Nat)⟩
def Wl (s:ByteArray):Int:=(Wj s.data.toList:Nat)
def Wk (s:ByteArray):Bool:=decide (s.data.toList.length≤30000)
def jr (x:fU):List eB:=mD x.d x.p x.dW
theorem ajM (x:fU):(jr x).length≤1048576:=Nat.le_trans (ajL _ _ _) (by omega)
theorem ahM (x:fU) (h:x.eP.size + x.eR.size≤1048576) (w:World) (db:jF w):Calls Tryz.prog 64 #[.agg #[x.eP,x.eR,x.dW]] w fun e ah=>e= .returned x.ok∧Below w w ah:=ahL x h _ rfl w db
theorem Uu (x:fU) (h:x.eP.size + x.eR.size≤1048576) (w:World):Calls Tryz.prog 44 #[.agg #[x.eP,x.eR,x.dW]] w fun e ah=>e= .returned x.ok∧Below w w ah:=by
 have aT:=x.len h;have:=zu x.d x.p x.dW (by omega) (by omega) _ rfl w
 rwa [yx,yy] at this
theorem ahh (x:fU) (h:x.eP.size + x.eR.size≤1048576) (y:eB) (aH:y.cmd.size≤1048576) (bp:y.rep.size≤1048576) (w:World) (db:jF w):Calls Tryz.prog 57 #[.agg #[x.eP,x.eR,x.dW],.agg #[y.cmd,y.rep]] w fun e ah=>e= .returned (.tuple #[.agg #[.string (iD x y).eP,.string (iD x y).eR,.int .i64 (iD x y).dW],.int .i64 (Az x y)])∧Below w w ah:=by
 have:=ahi x.d x.p x.dW (x.len h) y.c y.r (y.QI aH) (y.Wq bp) w db
 unfold mN at this
 rwa [yx,yy,Gt,Gu] at this
theorem alU (x:fU) (h:x.eP.size + x.eR.size≤1048576) (y:eB) (aH:y.cmd.size≤1048576) (bp:y.rep.size≤1048576) (w:World):Calls Tryz.prog 51 #[.agg #[x.eP,x.eR,x.dW],.agg #[y.cmd,y.rep]] w fun e ah=>e= .returned (.tuple #[.agg #[.string (iD x y).eP,.string (iD x y).eR,.int .i64 (iD x y).dW],.int .i64 (Az x y)])∧Below w w ah:=by
 have:=alV x.d x.p x.dW (x.len h) y.c y.r (y.QI aH) (y.Wq bp) w
 unfold mN at this
 rwa [yx,yy,Gt,Gu] at this
theorem ahO (x:fU) (h:x.eP.size + x.eR.size≤1048576) (w:World) (db:jF w):Calls Tryz.prog 23 #[.agg #[x.eP,x.eR,x.dW]] w fun e ah=>∃A c,e= .returned (.tuple #[.slice A (jr x).length c,x.ok])∧bd w 56 2 eB.cells ah (.slice A (jr x).length c) (jr x)∧Below w w ah:=by
 have:=ahP x.d x.p x.dW (x.len h) w db
 rwa [yx,yy] at this
theorem amt (x:fU) (h:x.eP.size + x.eR.size≤1048576) (w:World):Calls Tryz.prog 45 #[.agg #[x.eP,x.eR,x.dW]] w fun e ah=>∃A c,e= .returned (.tuple #[.slice A (jr x).length c,x.ok])∧bd w 56 2 eB.cells ah (.slice A (jr x).length c) (jr x)∧Below w w ah:=by
 have:=amu x.d x.p x.dW (x.len h) w
 rwa [yx,yy] at this
open Go.RowKit Go.G9
def eY.log (x:eY):fU:=⟨x.eP,x.eR,x.dW⟩
def jd (x:eY):Bool:=oD x.lC && x.log.ok
theorem QK {x:eY} (h:oD x.lC= false):jd x= false:=by rw [jd,h];rfl
theorem QL {x:eY} (h:oD x.lC= true):jd x= x.log.ok:=by rw [jd,h];rfl
theorem ZM {p:Prop} (h:p:=by
 replace aR:=aR.to al;clear ak;have ak:=aR.bX
 go_wp2
 go_ret
 exact⟨rfl,(aj I az)⟩):p:=h
theorem ZN {p:Prop} (h:p:=by
 replace aR:=aR.to aP;clear ak;have ak:=aR.bX
 go_wp2
 go_ret
 exact⟨rfl,(aj I az)⟩):p:=h
theorem Hy (x:eY) (aq ar an ao aA:Option Addr) (c0 av c2 c3 c4:Nat) (h0:x.cx.length≤1048576) (h1:x.cP.length≤1048576) (h2:x.ds.length≤1048576) (h3:x.du.length≤1048576) (h4:x.cl.length≤1048576) (ck:x.eP.size + x.eR.size≤1048576) (v:Bool) (ax:jd x= v) (w:World) (bf:aS 7 aK.cells w aq x.cx) (aW:aS 3 aQ.cells w ar x.cP) (bw:aS 1 bV w an x.ds) (bt:aS 3 aO.cells w ao x.du) (cr:aS 3 Out.cells w aA x.cl) (dZ:x.cx.length≤c0) (eI:x.cP.length≤av) (cp:x.ds.length≤c2) (ef:x.du.length≤c3) (hY:x.cl.length≤c4) (bO:jF w):
 Calls Tryz.prog 21 #[.agg #[.slice aq x.cx c0,.slice ar x.cP av,x.ek,x.dS,x.fk,.slice an x.ds c2,.slice ao x.du c3,.slice aA x.cl c4,x.eP,x.eR,x.dW]] w fun e ah=>e= .returned v∧Below w w ah:=by
 cases hm:oD x.lC
 ·have bo:=J hm
  rw [QK hm] at ax
  subst ax
  clear hm
  go_in
  go_upto_region 1 with fail
  refine cF fun aG au aR=>?_
  replace bf:=bf.ae au;replace aW:=aW.ae au;replace bw:=bw.ae au;replace bt:=bt.ae au;replace cr:=cr.ae au;replace bO:=bO.ae au;have I:=au;have ak:=aR.bX;have FC:=aR.lt
  go_wp2_with fail
  refine (zl x.lC aq ar an ao aA c0 av c2 c3 c4 h0 h1 h2 h3 h4 _ bo.out _ (bf.ae az) (aW.ae az) (bw.ae az) (bt.ae az) (cr.ae az) dZ eI cp ef hY).mono ?_
  rintro e aJ ⟨rfl,aL⟩
  have al:=be aG aL;replace I:=aj I al;replace bf:=bf.ae al;replace aW:=aW.ae al;replace bw:=bw.ae al;replace bt:=bt.ae al;replace cr:=cr.ae al;replace bO:=bO.ae al
  exact ZM
 ·have bo:=J hm
  rw [QL hm] at ax
  subst ax
  clear hm
  go_in
  go_upto_region 1 with fail
  refine cF fun aG au aR=>?_
  replace bf:=bf.ae au;replace aW:=aW.ae au;replace bw:=bw.ae au;replace bt:=bt.ae au;replace cr:=cr.ae au;replace bO:=bO.ae au;have I:=au;have ak:=aR.bX;have FC:=aR.lt
  go_wp2_with fail
  refine (zl x.lC aq ar an ao aA c0 av c2 c3 c4 h0 h1 h2 h3 h4 _ bo.out _ (bf.ae az) (aW.ae az) (bw.ae az) (bt.ae az) (cr.ae az) dZ eI cp ef hY).mono ?_
  rintro e aJ ⟨rfl,aL⟩
  have al:=be aG aL;replace I:=aj I al;replace bf:=bf.ae al;replace aW:=aW.ae al;replace bw:=bw.ae al;replace bt:=bt.ae al;replace cr:=cr.ae al;replace bO:=bO.ae al;replace aR:=aR.to al;clear ak;have ak:=aR.bX;have FC:=aR.lt
  go_wp2_with fail
  refine (ahM x.log ck _ (bO.ae az)).mono ?_
  rintro e bB ⟨rfl,bx⟩
  have aP:=be aJ bx;replace I:=aj I aP;replace bf:=bf.ae aP;replace aW:=aW.ae aP;replace bw:=bw.ae aP;replace bt:=bt.ae aP;replace cr:=cr.ae aP;replace bO:=bO.ae aP
  exact ZN
theorem HG (x:eY) (aq ar an ao aA:Option Addr) (c0 av c2 c3 c4:Nat) (h0:x.cx.length≤1048576) (h1:x.cP.length≤1048576) (h2:x.ds.length≤1048576) (h3:x.du.length≤1048576) (h4:x.cl.length≤1048576) (ck:x.eP.size + x.eR.size≤1048576) (v:Bool) (ax:jd x= v) (w:World) (bf:aS 7 aK.cells w aq x.cx) (aW:aS 3 aQ.cells w ar x.cP) (bw:aS 1 bV w an x.ds) (bt:aS 3 aO.cells w ao x.du) (cr:aS 3 Out.cells w aA x.cl) (dZ:x.cx.length≤c0) (eI:x.cP.length≤av) (cp:x.ds.length≤c2) (ef:x.du.length≤c3) (hY:x.cl.length≤c4):
 Calls Tryz.prog 59 #[.agg #[.slice aq x.cx c0,.slice ar x.cP av,x.ek,x.dS,x.fk,.slice an x.ds c2,.slice ao x.du c3,.slice aA x.cl c4,x.eP,x.eR,x.dW]] w fun e ah=>e= .returned v∧Below w w ah:=by
 cases hm:oD x.lC
 ·have bo:=J hm
  rw [QK hm] at ax
  subst ax
  clear hm
  go_in
  go_upto_region 1 with fail
  refine cF fun aG au aR=>?_
  replace bf:=bf.ae au;replace aW:=aW.ae au;replace bw:=bw.ae au;replace bt:=bt.ae au;replace cr:=cr.ae au;have I:=au;have ak:=aR.bX;have FC:=aR.lt
  go_wp2_with fail
  refine (zs x.lC aq ar an ao aA c0 av c2 c3 c4 h0 h1 h2 h3 h4 _ bo.out _ (bf.ae az) (aW.ae az) (bw.ae az) (bt.ae az) (cr.ae az) dZ eI cp ef hY).mono ?_
  rintro e aJ ⟨rfl,aL⟩
  have al:=be aG aL;replace I:=aj I al;replace bf:=bf.ae al;replace aW:=aW.ae al;replace bw:=bw.ae al;replace bt:=bt.ae al;replace cr:=cr.ae al
  exact ZM
 ·have bo:=J hm
  rw [QL hm] at ax
  subst ax
  clear hm
  go_in
  go_upto_region 1 with fail
  refine cF fun aG au aR=>?_
  replace bf:=bf.ae au;replace aW:=aW.ae au;replace bw:=bw.ae au;replace bt:=bt.ae au;replace cr:=cr.ae au;have I:=au;have ak:=aR.bX;have FC:=aR.lt
  go_wp2_with fail
  refine (zs x.lC aq ar an ao aA c0 av c2 c3 c4 h0 h1 h2 h3 h4 _ bo.out _ (bf.ae az) (aW.ae az) (bw.ae az) (bt.ae az) (cr.ae az) dZ eI cp ef hY).mono ?_
  rintro e aJ ⟨rfl,aL⟩
  have al:=be aG aL;replace I:=aj I al;replace bf:=bf.ae al;replace aW:=aW.ae al;replace bw:=bw.ae al;replace bt:=bt.ae al;replace cr:=cr.ae al;replace aR:=aR.to al;clear ak;have ak:=aR.bX;have FC:=aR.lt
  go_wp2_with fail
  refine (Uu x.log ck _).mono ?_
  rintro e bB ⟨rfl,bx⟩
  have aP:=be aJ bx;replace I:=aj I aP;replace bf:=bf.ae aP;replace aW:=aW.ae aP;replace bw:=bw.ae aP;replace bt:=bt.ae aP;replace cr:=cr.ae aP
  exact ZN
open Go.RowKit Go.G9
theorem ajX {rs:List aK} (h:js rs= true) {id:Int} {r:aK} (bp:hE rs id= some r):r.name.size≤10:=by
 obtain⟨k,aD⟩:=List.mem_iff_getElem?.1 (List.mem_of_find?_eq_some bp)
 have:=(xJ (xK h aD)).2.2.2.2.2.2
 simp [vb,eT] at this;omega
open Go.RowKit Go.G9
theorem Wo:∀(fp:List Nat) (a:Nat),(a ::fp).Pairwise (· < ·)→∀x ∈ a ::fp,x≤(a ::fp).getLastD 0
 | [],a,_,x,aw=>by simp at aw;subst aw;simp
 | z ::fp,a,h,x,aw=>by
  have h2:=(List.pairwise_cons.1 h).2
  have e:(a ::z ::fp).getLastD 0= (z ::fp).getLastD 0:=by simp [List.getLastD_eq_getLast?,List.getLast?_cons]
  rw [e]
  have er:=Wo fp z h2
  rcases List.mem_cons.1 aw with rfl | aw
  ·have h3:=(List.pairwise_cons.1 h).1 z (by simp)
   have h4:=er z (by simp)
   omega
  ·exact er x aw
theorem adV (l:ca):∀m ∈ 0 ::(gT l).map (·.2.2),m≤hn l:=fun m hm=>Wo _ _ (NG 61 0 l 0) m hm
theorem XM {α:Type} {p:α→Bool}:∀{l:List α},(∀x ∈ l,p x= true)→l.takeWhile p= l
 | [],_=>rfl
 | x ::l,h=>by
  rw [List.takeWhile_cons,h x (by simp),if_pos rfl,XM fun y hy=>h y (by simp [hy])]
theorem VW (l:ca):gT (l.take (hn l))= gT l:=by
 have h:=NH 61 0 (l.take (hn l)) (l.drop (hn l)) 0
 rw [List.take_append_drop,Nat.zero_add] at h
 refine Eq.trans (show gT _= _ from h) (XM fun x aw=>?_)
 have h1:=adV l x.2.2 (List.mem_cons_of_mem _ (List.mem_map.2 ⟨x,aw,rfl⟩));have h2:=(Dh l).2
 rw [decide_eq_true_eq,List.length_take];omega
theorem take_set {α:Type} (p:List α) (j:Nat) (y:α) (h:j < p.length):(p.take (j + 1)).set j y= p.take j ++ [y]:=by
 rw [List.take_succ_eq_append_getElem h,List.set_append_right _ _ (by rw [List.length_take];omega)]
 rw [List.length_take,show j - min j p.length= 0 from by omega]
 rfl
theorem UI {d p:ca} {n:Int} (h:jT d p n= true):d.length + p.length≤30000∧hn (d ++ p)= d.length + p.length∧hn d= d.length∧((gn (d ++ p)).length:Int)= n:=by
 unfold jT at h
 simp only [Bool.and_eq_true,decide_eq_true_eq,beq_iff_eq] at h
 omega
theorem ajI (l:ca) (aT:l.length≤30000):jT (l.take (hn l)) [] ((gn l).length:Nat)= true:=by
 have h1:=(Dh l).2
 have h2:hn (l.take (hn l))= hn l:=by
  show uq (gT _)= uq (gT l)
  rw [VW]
 have h3:gn (l.take (hn l))= gn l:=by unfold gn;rw [VW]
 have h4:(l.take (hn l)).length= hn l:=by rw [List.length_take];omega
 unfold jT
 rw [List.append_nil,h2,h3,h4]
 simp
 omega
open Go.RowKit Go.G9
theorem VY (f k a:Nat):hQ f k [] a= []:=NF (VU k)
theorem VX (n:Nat) (aY:n < 60) {c r:ca} (ga:jV c r= true):∀(f k:Nat) (l:ca) (a:Nat),(a ::(hQ f k l a).map (·.2.2)).getLastD 0= a + l.length→(hQ f k l a).length < f→k + (hQ f k l a).length= n→
  hQ f k (l ++ (fj n c r ++ [10])) a= hQ f k l a ++ [(c,r,a + l.length + ((fj n c r).length + 1))]
 | 0,_,_,_,_,h,_=>by omega
 | f + 1,k,l,a,aT,hf,aD=>by
  cases aw:iJ l k with
  | none=>
   rw [NF aw] at aT aD ⊢
   simp only [List.map_nil,List.length_nil,Nat.add_zero] at aT aD
   have h0:l= []:=by
    simp at aT
    exact aT
   subst h0;subst aD
   rw [List.nil_append,hQ,VV aY ga]
   simp only
   have e:(fj k c r ++ [10]).drop ((fj k c r).length + 1)= []:=by simp
   rw [e,VY]
   simp
  | some x=>
   obtain⟨cM,fX,m⟩:=x
   obtain⟨h0,h1,e,h2⟩:=BH aw
   have hm:=BG aw
   have adK:hQ (f + 1) k l a= (cM,fX,a + m) ::hQ f (k + 1) (l.drop m) (a + m):=by rw [hQ,aw]
   rw [adK] at aT hf aD ⊢
   simp only [List.map_cons,List.length_cons] at aT hf aD
   have gz:∀L:List Nat,(a ::(a + m) ::L).getLastD 0= ((a + m) ::L).getLastD 0:=fun L=>by simp [List.getLastD_eq_getLast?,List.getLast?_cons]
   rw [gz] at aT
   have er:=VX n aY ga f (k + 1) (l.drop m) (a + m) (by rw [aT,List.length_drop];omega) (by omega) (by omega)
   have bp:iJ (l ++ (fj n c r ++ [10])) k= some (cM,fX,m):=by
    rw [h2,List.append_assoc,List.cons_append,VV h0 h1,e]
   rw [hQ,bp]
   simp only
   rw [List.drop_append_of_le_length hm.1,er,List.length_drop]
   simp
   omega
theorem akI {l:ca} {c r:ca} (aT:hn l= l.length) (aY:(gT l).length < 60) (ga:jV c r= true):
  gT (l ++ (fj ((gT l).length:Nat) c r ++ [10]))= gT l ++ [(c,r,l.length + ((fj ((gT l).length:Nat) c r).length + 1))]:=by
 have h:=VX (gT l).length aY ga 61 0 l 0 (by rw [Nat.zero_add];exact aT) (by show (gT l).length < 61;omega) (by rw [Nat.zero_add];rfl)
 rw [Nat.zero_add] at h
 exact h
theorem fU.ext {x y:fU} (h1:x.eP= y.eP) (h2:x.eR= y.eR) (h3:x.dW= y.dW):x= y:=by
 cases x;cases y;simp at h1 h2 h3;subst h1;subst h2;subst h3;rfl
theorem ade {x:fU} {y:eB} (h:Az x y= 0):
  x.ok= true∧(iD x y).ok= true∧jr (iD x y)= jr x ++ [y]∧(iD x y).dW= ((jr (iD x y)).length:Int)∧Wk ((iD x y).eP ++ (iD x y).eR)= true∧Wl ((iD x y).eP ++ (iD x y).eR)= (((iD x y).eP ++ (iD x y).eR).size:Int)∧XA (iD x y)= alc ((iD x y).eP ++ (iD x y).eR):=by
 have h0:pz x.d x.p x.dW y.c y.r= true∧(x.dW == 60)= false:=by
  unfold Az rP at h
  cases cS:pz x.d x.p x.dW y.c y.r
  ·rw [cS] at h;simp at h
  ·rw [cS,if_pos rfl] at h
   cases aF:x.dW == 60
   ·exact⟨rfl,rfl⟩
   ·rw [aF] at h;simp at h
 obtain⟨cS,aF⟩:=h0
 have yJ:=cS
 unfold pz at yJ
 rw [Bool.and_eq_true] at yJ
 obtain⟨aT,ga⟩:=yJ
 obtain⟨dq,cZ,uL,oF⟩:=UI aT
 obtain⟨n0,n1,_⟩:=HK aT
 have eM:x.dW≠60:=fun e=>by rw [e] at aF;simp at aF
 have hlen:(gT (x.d ++ x.p)).length < 60:=by rw [Ff] at oF;omega
 have afH:x.dW= ((gT (x.d ++ x.p)).length:Nat):=by rw [Ff] at oF;omega
 have aX:=akI (c:=y.c) (r:=y.r) (by rw [cZ,List.length_append]) hlen ga
 rw [← afH] at aX
 have Ld:(iD x y).p= x.p ++ (fj x.dW y.c y.r ++ [10]):=by
  show (bs (rQ x.d x.p x.dW y.c y.r)).data.toList= _
  rw [uk]
  unfold rQ
  rw [cS,aF]
  rfl
 have xf:(iD x y).d= x.d:=rfl
 have eH:(iD x y).dW= x.dW + 1:=by
  unfold iD sS
  simp only
  rw [cS,aF]
  rfl
 have eG:hn (x.d ++ (x.p ++ (fj x.dW y.c y.r ++ [10])))= (x.d ++ (x.p ++ (fj x.dW y.c y.r ++ [10]))).length:=by
  show uq (gT _)= _
  rw [← List.append_assoc,aX,Rm]
  simp
  omega
 have hle:=(Dh (x.d ++ (x.p ++ (fj x.dW y.c y.r ++ [10])))).1
 have bn:gn (x.d ++ (x.p ++ (fj x.dW y.c y.r ++ [10])))= gn (x.d ++ x.p) ++ [y]:=by
  unfold gn
  have e:∀m,pA (y.c,y.r,m)= y:=fun m=>by
   unfold pA
   simp only
   rw [Gt,Gu]
  rw [← List.append_assoc,aX,List.map_append]
  simp only [List.map_cons,List.map_nil,e]
 have bH:jT x.d (x.p ++ (fj x.dW y.c y.r ++ [10])) (x.dW + 1)= true:=by
  unfold jT
  rw [eG,bn,uL]
  rw [eG] at hle
  simp only [List.length_append] at hle oF ⊢
  simp
  omega
 have Bl:(iD x y).ok= true:=by unfold fU.ok;rw [xf,Ld,eH];exact bH
 have gK:jr (iD x y)= jr x ++ [y]:=by
  unfold jr mD
  rw [xf,Ld,eH,if_pos bH,if_pos aT,bn]
 have afe:jr x= gn (x.d ++ x.p):=by unfold jr mD;rw [if_pos aT]
 have q1:((iD x y).eP ++ (iD x y).eR).data.toList= x.d ++ (x.p ++ (fj x.dW y.c y.r ++ [10])):=by
  rw [← yx,← yy,xf,Ld,mP,uk]
 have gv:(((iD x y).eP ++ (iD x y).eR).size:Nat)= (x.d ++ (x.p ++ (fj x.dW y.c y.r ++ [10]))).length:=by
  rw [← q1,Array.length_toList];rfl
 rw [eG] at hle
 refine⟨aT,Bl,gK,?_,?_,?_,?_⟩
 ·rw [eH,gK,afe,List.length_append,List.length_singleton];omega
 ·unfold Wk;rw [q1,decide_eq_true_eq];omega
 ·unfold Wl Wj;rw [q1,gv,if_pos (by omega),eG]
 ·unfold XA
  rw [Bl,if_pos rfl]
  refine fU.ext ?_ rfl ?_
  ·show _= bs (NQ _)
   rw [q1]
   unfold NQ
   rw [if_pos (by omega),eG,List.take_length]
   rw [← q1,CY]
  ·show (iD x y).dW= ((NR _:Nat):Int)
   rw [q1]
   unfold NR
   rw [if_pos (by omega),eH,bn,List.length_append,List.length_singleton]
   omega
end Go.Proofs.YtlaaemmmbodaaaaGreatDoor
namespace Go.G9
open Go.RowKit
def anP (x:UInt8):List Value:=[.int .u8 (x.toNat:Int)]
end Go.G9
namespace Go.Proofs.YtlaaemmmbodaaaaGreatDoor
open Go.RowKit Go.G9
structure vh (w:World) (p:Nat) (A:Option Addr) (c:Nat) (cs:List UInt8) (N:Nat):Prop where
  box:∃(i s:Int),aB w p 95 #[.slice A cs.length c,.int .i64 i,.int .u64 s]∧0≤i∧i≤N
  hj:aS 1 anP w A cs
  lo:∀iV,A= some iV→0 < cs.length→iV.block < p
theorem vh.mono {w:World} {p:Nat} {A:Option Addr} {c:Nat} {cs:List UInt8} {N M:Nat} (h:vh w p A c cs N) (aU:N≤M):vh w p A c cs M:=by
  obtain⟨⟨i,s,bG,h0,h1⟩,bn,eM⟩:=h
  exact⟨⟨i,s,bG,h0,by omega⟩,bn,eM⟩
theorem vh.lt {w:World} {p:Nat} {A:Option Addr} {c:Nat} {cs:List UInt8} {N:Nat} (h:vh w p A c cs N):p < w.heap.size:=by
  obtain⟨⟨i,s,bG,h0,h1⟩,bn,eM⟩:=h
  exact bG.lt
theorem vh.bm {w ah:World} {p:Nat} {A:Option Addr} {c:Nat} {cs:List UInt8} {N:Nat} (h:vh w p A c cs N) (aF:Below w w ah):vh ah p A c cs N:=by
  obtain⟨⟨i,s,bG,h0,h1⟩,bn,eM⟩:=h
  exact⟨⟨i,s,bG.ae aF bG.lt,h0,h1⟩,bn.ae aF,eM⟩
def Stepped (w ah:World) (p:Nat) (A:Option Addr) (c:Nat) (cs:List UInt8) (N:Nat):Prop:=vh ah p A c cs N∧w.grownBy ah (some p)
theorem Stepped.size {w ah:World} {p:Nat} {A:Option Addr} {c:Nat} {cs:List UInt8} {N:Nat} (h:Stepped w ah p A c cs N):w.heap.size≤ah.heap.size:=h.2.size
def hC (x:ByteArray):List Value:=[.string x]
theorem jZ (y:ByteArray):(hC y).length= 1:=rfl
end Go.Proofs.YtlaaemmmbodaaaaGreatDoor
namespace Go.G9
open Go.RowKit
def CZ (l:List UInt8):ByteArray:=⟨l.toArray⟩
theorem Gv (s:ByteArray):CZ s.data.toList= s:=by obtain⟨⟨l⟩⟩:=s;rfl
def ko (c:UInt8):List UInt8→List (List UInt8)
 | []=>[[]]
 | x ::l=>if x == c then [] ::ko c l else match ko c l with | []=>[[x]] | w ::ws=>(x ::w) ::ws
theorem Og {c:UInt8}:∀{u:List UInt8},(∀x ∈ u,(x == c)= false)→ko c u= [u]
 | [],_=>rfl
 | x ::u,h=>by
  have aw:=h x (by simp);have er:=Og (u:=u) (fun y hy=>h y (by simp [hy]))
  simp only [ko,aw,er];rfl
theorem Oh {c:UInt8}:∀{u v:List UInt8},(∀x ∈ u,(x == c)= false)→ko c (u ++ c ::v)= u ::ko c v
 | [],v,_=>by simp [ko]
 | x ::u,v,h=>by
  have aw:=h x (by simp);have er:=Oh (u:=u) (v:=v) (fun y hy=>h y (by simp [hy]))
  simp only [List.cons_append,ko,aw,er];rfl
theorem Of (c:UInt8) (l:List UInt8):ko c l≠[]:=by
  cases l with
  | nil=>simp [ko]
  | cons x l=>unfold ko;split;· simp
              split <;> simp
theorem Oe (c:UInt8):∀l:List UInt8,(ko c l).length≤l.length + 1
 | []=>by simp [ko]
 | x ::l=>by
  have er:=Oe c l
  unfold ko
  split
  ·simp;omega
  ·split
   ·simp
   ·rename_i h;rw [h] at er;simp at er ⊢;omega
theorem Rr (s:ByteArray) (a b:Nat):(s.extract a b).data.toList= (s.data.toList.drop a).take (b - a):=by
 rw [ByteArray.data_extract,Array.toList_extract]
theorem QA (s:ByteArray) {k:Nat} (aD:k < s.size):s.data.toList[k]? =some s[k]:=by
 have h:k < s.data.toList.length:=by simpa using aD
 rw [List.getElem?_eq_getElem h];rfl
end Go.G9
namespace Go.Proofs.YtlaaemmmbodaaaaGreatDoor
open Go.RowKit Go.G9
theorem zm:(Tryz.prog.info? 9).map (fun i=>(i.zero,i.size,i.bytes))= some (some (.string ⟨#[]⟩),1,16):=by kernel_rfl
theorem AB (y:ByteArray) (u:Value) (h:u ∈ hC y):u.oneCell'= true:=by simp [hC] at h;subst h;rfl
def iZ (c:UInt8) (s:ByteArray):List ByteArray:=(ko c s.data.toList).map CZ
theorem ajd (s:ByteArray) (c:UInt8) (aV:s.size≤1048576) (w:World):Calls Tryz.prog 67 #[s,.int .u8 (c.toNat:Int)] w fun e ah=>∃A n,e= .returned (.slice A (iZ c s).length n)∧bd w 9 1 hC ah (.slice A (iZ c s).length n) (iZ c s)∧Below w w ah:=by
 obtain⟨i0,hi,dn,dC,dz⟩:=info_parts zm
 have nP:=bd.built (B:=w.heap.size) (f:=hC) w ([]:List ByteArray) 9 (Nat.le_refl _) (by simp) jZ
 simp only [List.flatMap_nil] at nP
 have eL:=J nP;clear nP;have jw:c.toNat < 256:=c.toNat_lt
 have afG:(c.toNat:Int) < 256:=by omega
 go_in
 go_wp2
 go_loopw [5,6,7] (fun v5 v6 lp wr=>∃(xs:List ByteArray) (a k:Nat),k≤s.size∧a≤k∧v6= .int .i64 a∧lp= .int .i64 k∧xs.length≤k∧iZ c s= xs ++ (ko c (s.data.toList.drop a)).map CZ∧(∀x ∈ (s.data.toList.drop a).take (k - a),(x == c)= false)∧
   bd w 9 1 hC wr v5 xs∧Below w w wr) (fun _ _ lp _=>1048577 - (intOf lp).toNat)
 case atStart=>
  exact⟨[],0,0,Nat.zero_le _,Nat.le_refl _,rfl,rfl,Nat.le_refl _,by simp [iZ],by simp,eL.out,bT _ _⟩
 case round=>
  obtain⟨xs,a,k,aD,cS,rfl,rfl,pc,pb,Ew,bM,aF⟩:=hrel
  obtain⟨oc,c5,rfl,rb,_,_⟩:=bM.form jZ
  have z0:=aF.size;have uG:=J bM.lt;have ua:=J pb;have H1:=J Ew;have dm:=J bM;clear pb Ew bM
  by_cases bu:k < s.size
  ·have kt:s[k].toNat < 256:=s[k].toNat_lt
   have LK:=QA s bu
   have uB:(s.data.toList.drop a)[k - a]? =some s[k]:=by rw [List.getElem?_drop,show a + (k - a)= k by omega];exact LK
   by_cases aH:s[k]= c
   ·have jn:((s[k].toNat:Int) == (c.toNat:Int))= true:=by rw [aH];exact beq_iff_eq.2 rfl
    have oy:iZ c s= (xs ++ [s.extract a k]) ++ (ko c (s.data.toList.drop (k + 1))).map CZ:=by
     have e:s.data.toList.drop a= (s.data.toList.drop a).take (k - a) ++ c ::s.data.toList.drop (k + 1):=by
      have h1:k - a < (s.data.toList.drop a).length:=(List.getElem?_eq_some_iff.1 uB).1
      conv=>lhs;rw [← List.take_append_drop (k - a) (s.data.toList.drop a)]
      rw [List.drop_eq_getElem_cons h1]
      have h2:(s.data.toList.drop a)[k - a]= c:=by
       have:=(List.getElem?_eq_some_iff.1 uB).2
       rw [this,aH]
      rw [h2,List.drop_drop,show a + (k - a + 1)= k + 1 by omega]
     rw [ua.out,e,Oh H1.out]
     simp only [List.map_cons,List.append_assoc,List.singleton_append]
     congr 2
     rw [← Gv (s.extract a k),Rr]
    have eZ:=J oy;clear oy aH LK uB;have jR:aS 1 hC (wr.alloc (.cells #[.string (s.extract a k)] 9)) (some ⟨wr.heap.size,0,none⟩) [s.extract a k]:=aS.one (sz:=1) (f:=hC) _ _;have qN:=J jR;clear jR;have kG:=J (dm.out.alloc (.cells #[.string (s.extract a k)] 9))
    go_wp2_with (at_builtin;refine kC rfl _ _ 57 rfl w.heap.size 9 i0 _ 1 16 Tryz.underlying57 hi dn dC dz rfl (by decide) hC jZ AB (.slice oc xs c5) xs rfl kG.out ⟨wr.heap.size,0,none⟩ 1 (s.extract a k) rfl qN.out (by unfold maxLen;omega) (by omega) (by simp;omega) ?_;intro v4 bU fb gq ld)
    have z4:=gq.size;have gS:Below w w bU:=(aF.alloc (by omega) _).grown gq (by simp;omega) (fun q bj=>(uG.out q bj).1)
    go_roundw
    case rel=>exact⟨xs ++ [s.extract a k],k + 1,k + 1,by omega,Nat.le_refl _,by go_num,by go_num,by simp;omega,eZ.out,by simp,fb,gS⟩
    case measure=>simp [intOf];omega
   ·have jn:((s[k].toNat:Int) == (c.toNat:Int))= false:=by
     rw [beq_eq_false_iff_ne]
     intro e
     exact aH (UInt8.toNat_inj.1 (by omega))
    have oy:∀x ∈ (s.data.toList.drop a).take (k + 1 - a),(x == c)= false:=fun x aw=>by
     have h1:k - a < (s.data.toList.drop a).length:=(List.getElem?_eq_some_iff.1 uB).1
     rw [show k + 1 - a= k - a + 1 by omega,List.take_succ_eq_append_getElem h1] at aw
     simp only [List.mem_append,List.mem_singleton] at aw
     rcases aw with aw | aw
     ·exact H1.out x aw
     ·rw [(List.getElem?_eq_some_iff.1 uB).2] at aw
      subst aw;exact beq_eq_false_iff_ne.2 aH
    have eZ:=J oy;clear oy aH LK uB
    go_wp2
    go_roundw
    case rel=>exact⟨xs,a,k + 1,by omega,by omega,rfl,by go_num,by omega,ua.out,eZ.out,dm.out,aF⟩
    case measure=>simp [intOf];omega
  ·obtain rfl:k= s.size:=by omega
   have ov:xs ++ [s.extract a s.size]= iZ c s:=by
    have gN:s.data.toList.length= s.size:=by simp
    have h1:=H1.out
    rw [List.take_of_length_le (by rw [List.length_drop,gN];omega)] at h1
    rw [ua.out,Og h1]
    simp only [List.map_cons,List.map_nil]
    congr 1
    rw [← Gv (s.extract a s.size),Rr,List.take_of_length_le (by rw [List.length_drop,gN];omega)]
   have cC:=J ov;clear ov;have jR:aS 1 hC (wr.alloc (.cells #[.string (s.extract a s.size)] 9)) (some ⟨wr.heap.size,0,none⟩) [s.extract a s.size]:=aS.one (sz:=1) (f:=hC) _ _;have qN:=J jR;clear jR;have kG:=J (dm.out.alloc (.cells #[.string (s.extract a s.size)] 9))
   go_wp2_with (at_builtin;refine kC rfl _ _ 57 rfl w.heap.size 9 i0 _ 1 16 Tryz.underlying57 hi dn dC dz rfl (by decide) hC jZ AB (.slice oc xs c5) xs rfl kG.out ⟨wr.heap.size,0,none⟩ 1 (s.extract a s.size) rfl qN.out (by unfold maxLen;omega) (by omega) (by simp;omega) ?_;intro v4 bU fb gq ld)
   have z4:=gq.size;have gS:Below w w bU:=(aF.alloc (by omega) _).grown gq (by simp;omega) (fun q bj=>(uG.out q bj).1)
   rw [cC.out] at fb
   obtain⟨Je,sU,rfl,_,_,_⟩:=fb.form jZ
   go_ret
   exact⟨Je,sU,rfl,fb,gS⟩
end Go.Proofs.YtlaaemmmbodaaaaGreatDoor
namespace Go.G9
open Go.RowKit
theorem QU (c:UInt8):∀l:List UInt8,(∀x ∈ l,(x == c)= false)∨∃u v,l= u ++ c ::v∧∀x ∈ u,(x == c)= false
 | []=> .inl (by simp)
 | y ::l=>by
  cases hy:y == c
  ·rcases QU c l with h | ⟨u,v,e,h⟩
   ·left;intro x aw
    rcases List.mem_cons.1 aw with rfl | aw
    ·exact hy
    ·exact h x aw
   ·right
    exact⟨y ::u,v,by rw [e];rfl,fun x aw=>by
     rcases List.mem_cons.1 aw with rfl | aw
     ·exact hy
     ·exact h x aw⟩
  ·right
   have:y= c:=by simpa using hy
   exact⟨[],l,by rw [this];rfl,by simp⟩
theorem Ui {c:UInt8}:∀{l:List UInt8},(∀x ∈ l,(x == c)= false)→Lib.indexByte l c= -1
 | [],_=>rfl
 | y ::l,h=>by
  have er:=Ui (l:=l) (fun x aw=>h x (by simp [aw]))
  simp [Lib.indexByte,h y (by simp),er]
theorem Uh {c:UInt8}:∀{u v:List UInt8},(∀x ∈ u,(x == c)= false)→Lib.indexByte (u ++ c ::v) c= (u.length:Int)
 | [],v,_=>by simp [Lib.indexByte]
 | y ::u,v,h=>by
  have er:=Uh (u:=u) (v:=v) (fun x aw=>h x (by simp [aw]))
  have eM:((u.length:Int) == -1)= false:=by rw [beq_eq_false_iff_ne];omega
  simp only [List.cons_append,Lib.indexByte,h y (by simp),er,eM,List.length_cons]
  simp
theorem Xv (c:UInt8) (l:List UInt8):Lib.splitK [c] 0 (Lib.count l [c]) l= ko c l:=by
 rcases QU c l with h | ⟨u,v,e,h⟩
 ·have hi:Lib.index l [c]= -1:=by rw [Lib.index_one,Ui h]
  rw [Lib.count_miss hi,Og h];rfl
 ·have hi:Lib.index l [c]= (u.length:Nat):=by rw [Lib.index_one,e,Uh h]
  have hm:¬(Lib.index l [c] == -1)= true:=fun q=>by have:=beq_iff_eq.1 q;omega
  have bJ:l.drop (u.length + [c].length)= v:=by
   rw [e];simp [List.drop_append]
  have ct:l.take (u.length + 0)= u:=by rw [e];simp
  rw [Lib.count_hit (by simp) hi,bJ,Nat.add_comm 1,Lib.splitK,if_neg hm]
  have aY:(Lib.index l [c]).toNat= u.length:=by omega
  rw [aY,bJ,ct,Xv c v,e,Oh h]
termination_by l.length
decreasing_by rw [e];simp;omega
theorem ant (c:UInt8) (s:ByteArray):Lib.splitB ⟨#[c]⟩ 0 (Lib.countB s ⟨#[c]⟩) s= (ko c s.data.toList).map CZ:=by
 have h:=Lib.splitB_data ⟨#[c]⟩ 0 (Lib.countB s ⟨#[c]⟩) s;have h2:Lib.splitK (⟨#[c]⟩ :ByteArray).data.toList 0 (Lib.countB s ⟨#[c]⟩) s.data.toList= ko c s.data.toList:=Xv c s.data.toList
 rw [h2] at h
 rw [← h,List.map_map]
 conv=>lhs;rw [← List.map_id (Lib.splitB ⟨#[c]⟩ 0 (Lib.countB s ⟨#[c]⟩) s)]
 exact List.map_congr_left fun x _=>(Gv x).symm
end Go.G9
namespace Go.Proofs.YtlaaemmmbodaaaaGreatDoor
open Go.RowKit Go.G9
def yr (w:World):Prop:=1 < w.heap.size∧∃m:Int,w.cell? ⟨1,0,none⟩ =some (.int .i64 m)
theorem yr.ae {w ah:World} (h:yr w) (aF:Below w w ah):yr ah:=by
 obtain⟨h1,m,h2⟩:=h
 exact⟨Nat.lt_of_lt_of_le h1 aF.size,m,(aF.cell (p:=⟨1,0,none⟩) h1).trans h2⟩
theorem ait (s:ByteArray) (c:UInt8) (aV:s.size≤1048576) (w:World) (aU:yr w):Calls Tryz.prog 66 #[s,.string ⟨#[c]⟩] w fun e ah=>∃A n,e= .returned (.slice A (iZ c s).length n)∧bd w 9 1 hC ah (.slice A (iZ c s).length n) (iZ c s)∧Below w w ah:=by
 obtain⟨h1,m,h2⟩:=aU
 refine (Tryz.strings_Split s ⟨#[c]⟩ m w (by omega) h2 (Nat.le_refl _)).mono ?_
 rintro e ah ⟨rfl,rfl⟩
 have mZ:=ant c s
 have hlen:Lib.countB s ⟨#[c]⟩ + 1= (iZ c s).length:=by
  have:=Lib.splitB_all ⟨#[c]⟩ (Nat.le_refl _) 0 (Lib.countB s ⟨#[c]⟩) s rfl
  rw [mZ] at this;exact this.symm
 have jw:(iZ c s).length≤maxLen:=by
  have:=Oe c s.data.toList
  have h3:s.data.toList.length= s.size:=by simp
  unfold iZ maxLen;rw [List.length_map];omega
 have bM:=bd.built (B:=w.heap.size) (f:=hC) w (iZ c s) 9 (Nat.le_refl _) jw jZ
 have afF:(iZ c s).flatMap hC= (iZ c s).map Value.string:=by
  generalize iZ c s= L
  induction L with
  | nil=>rfl
  | cons x L er=>simp [hC,er]
 rw [afF] at bM
 rw [hlen]
 refine⟨some ⟨w.heap.size,0,none⟩,(iZ c s).length,rfl,?_,bT _ _⟩
 rw [mZ]
 exact bM
end Go.Proofs.YtlaaemmmbodaaaaGreatDoor
namespace Go.G9
open Go.RowKit
theorem Km (a b:ByteArray):(a ++ b).data.toList= a.data.toList ++ b.data.toList:=by simp
end Go.G9
namespace Go.Proofs.YtlaaemmmbodaaaaGreatDoor
open Go.RowKit Go.G9
def na (ws:List ByteArray):Nat→ByteArray
 | 0=>(ws[0]?).getD ⟨#[]⟩
 | k + 1=>match ws[k + 1]? with | some y=>na ws k ++ (⟨#[32]⟩ :ByteArray) ++ y | none=>na ws k
def kx (ws:List ByteArray):ByteArray:=if ws.length= 0 then (⟨#[110,111,110,101]⟩ :ByteArray) else na ws (ws.length - 1)
theorem Ul {ws:List ByteArray} {k:Nat} {y:ByteArray} (h:ws[k + 1]? =some y):na ws (k + 1)= na ws k ++ (⟨#[32]⟩ :ByteArray) ++ y:=by rw [na,h]
theorem Uk (x:ByteArray) (r:List ByteArray):∀k,k≤r.length→(na (x ::r) k).data.toList= x.data.toList ++ Lib.joinTail ((⟨#[32]⟩ :ByteArray):ByteArray).data.toList ((r.map (·.data.toList)).take k)
 | 0,_=>by simp [na,Lib.joinTail]
 | k + 1,aD=>by
  have er:=Uk x r k (by omega);have hy:r[k]? =some r[k]:=List.getElem?_eq_getElem (by omega)
  rw [Ul (y:=r[k]) (by simpa using hy),Km,Km,er,Lib.joinTail_take_succ _ _ k (r[k]).data.toList (by simp [hy])]
  simp only [List.append_assoc]
theorem aiT {ws:List ByteArray} (h:ws.length≠0):(⟨(Lib.join (ws.map (·.data.toList)) ((⟨#[32]⟩ :ByteArray):ByteArray).data.toList).toArray⟩ :ByteArray)= kx ws:=by
 cases ws with
 | nil=>simp at h
 | cons x r=>
  have e:=Uk x r r.length (Nat.le_refl _)
  rw [kx,if_neg h,List.length_cons,Nat.add_sub_cancel,List.map_cons,Lib.join_cons]
  have e2:((r.map (·.data.toList)).take r.length)= r.map (·.data.toList):=List.take_of_length_le (by simp)
  rw [e2] at e
  rw [← e]
theorem MS {ws:List ByteArray} {n:Nat} (h:∀x ∈ ws,x.size≤n):∀k,(na ws k).size≤(k + 1) * (n + 1)
 | 0=>by
  cases ws with
  | nil=>exact Nat.zero_le _
  | cons x r=>have:=h x (by simp);simp [na];omega
 | k + 1=>by
  have er:=MS h k
  have e:(k + 1 + 1) * (n + 1)= (k + 1) * (n + 1) + (n + 1):=by rw [Nat.succ_mul]
  unfold na
  split
  ·rename_i y hy
   have:=h y (List.mem_of_getElem? hy);have e1:((⟨#[32]⟩ :ByteArray):ByteArray).size= 1:=rfl
   simp only [ByteArray.size_append];omega
  ·omega
def kQ (rs:List aK) (id:Int):ByteArray:=match hE rs id with | some r=>r.name | none=>⟨#[]⟩
def kA (rs:List aK) (q:aQ):ByteArray:=kQ rs q.fR
theorem Vv {rs:List aK} {id:Int} {r:aK} (h:hE rs id= some r):kQ rs id= r.name:=by rw [kQ,h]
def nT (xs:List Int):ByteArray:=kx (xs.map eN)
def EN (nm:ByteArray) (z:aK):Bool:=z.name.toList == nm.toList
def sX (rs:List aK) (nm:ByteArray):Option aK:=rs.find? (EN nm)
def qB (rs:List aK) (p:UInt8) (w:ByteArray):Option Int:=if p= 110 then (if eV w then some (hh w.data.toList) else none) else (sX rs w).map (fun r=>r.id)
def mE (rs:List aK) (ps:List UInt8) (ws:List ByteArray):Nat→Option (List Int)
 | 0=>some []
 | k + 1=>match mE rs ps ws k,ps[k]?,ws[k]? with | some l,some p,some w=>(qB rs p w).map (fun n=>l ++ [n]) | _,_,_=>none
def kB (rs:List aK) (pt:ByteArray) (ws:List ByteArray):Option (List Int):=if ws.length= pt.size then mE rs pt.data.toList ws ws.length else none
theorem uO {rs:List aK} {ps:List UInt8} {ws:List ByteArray} {k:Nat} {l:List Int} {p:UInt8} {w:ByteArray} (h:mE rs ps ws k= some l) (aN:ps[k]? =some p) (hw:ws[k]? =some w):mE rs ps ws (k + 1)= (qB rs p w).map (fun n=>l ++ [n]):=by rw [mE,h,aN,hw]
theorem Fa {rs:List aK} {ps:List UInt8} {ws:List ByteArray} {k:Nat} (h:mE rs ps ws k= none):∀j,mE rs ps ws (k + j)= none
 | 0=>h
 | j + 1=>by rw [← Nat.add_assoc,mE,Fa h j]
theorem NI {rs:List aK} {ps:List UInt8} {ws:List ByteArray}:∀{k:Nat} {l:List Int},mE rs ps ws k= some l→l.length= k
 | 0,l,h=>by cases h;rfl
 | k + 1,l,h=>by
  rw [mE] at h
  split at h
  ·rename_i pd p w h0 _ _
   cases bp:qB rs p w with
   | none=>rw [bp] at h;cases h
   | some n=>rw [bp] at h;cases h;simp [NI h0]
  ·cases h
def ev (w:ByteArray):Nat:=if w= (⟨#[110,101,120,116]⟩ :ByteArray) then 0 else if w= (⟨#[121,105,101,108,100]⟩ :ByteArray) then 1 else if w= (⟨#[100,114,111,112]⟩ :ByteArray) then 2 else if w= (⟨#[112,101,110,100,105,110,103]⟩ :ByteArray) then 3 else if w= (⟨#[109,97,121]⟩ :ByteArray) then 4 else if w= (⟨#[111,114,100,101,114]⟩ :ByteArray) then 5 else if w= (⟨#[97,100,111,112,116,101,100]⟩ :ByteArray) then 6 else if w= (⟨#[115,101,99,111,110,100]⟩ :ByteArray) then 7 else if w= (⟨#[97,115,107]⟩ :ByteArray) then 8 else if w= (⟨#[115,112,101,97,107]⟩ :ByteArray) then 9 else if w= (⟨#[119,105,116,104,100,114,97,119]⟩ :ByteArray) then 10 else if w= (⟨#[108,101,102,116]⟩ :ByteArray) then 11 else if w= (⟨#[109,111,118,101,100]⟩ :ByteArray) then 12 else if w= (⟨#[109,111,118,101]⟩ :ByteArray) then 13 else if w= (⟨#[118,111,116,101]⟩ :ByteArray) then 14 else 15
structure xW (w:ByteArray) (i:Nat):Prop where
 f0:(w.toList == [110,101,120,116])= (i == 0)
 f1:(w.toList == [121,105,101,108,100])= (i == 1)
 f2:(w.toList == [100,114,111,112])= (i == 2)
 f3:(w.toList == [112,101,110,100,105,110,103])= (i == 3)
 f4:(w.toList == [109,97,121])= (i == 4)
 f5:(w.toList == [111,114,100,101,114])= (i == 5)
 f6:(w.toList == [97,100,111,112,116,101,100])= (i == 6)
 f7:(w.toList == [115,101,99,111,110,100])= (i == 7)
 f8:(w.toList == [97,115,107])= (i == 8)
 f9:(w.toList == [115,112,101,97,107])= (i == 9)
 f10:(w.toList == [119,105,116,104,100,114,97,119])= (i == 10)
 f11:(w.toList == [108,101,102,116])= (i == 11)
 f12:(w.toList == [109,111,118,101,100])= (i == 12)
 f13:(w.toList == [109,111,118,101])= (i == 13)
 f14:(w.toList == [118,111,116,101])= (i == 14)
theorem Ug {p:Prop} [Decidable p] {a b n:Nat} (cS:a≤n) (aF:b≤n):(if p then a else b)≤n:=by split <;> assumption
theorem Da (w:ByteArray):ev w≤15:=by
 unfold ev
 repeat (first | exact Ug (by decide) (by decide) | refine Ug (by decide) ?_)
theorem pj (w:ByteArray) (l:List UInt8):(w.toList == l)= decide (w=⟨l.toArray⟩):=by
 rw [ByteArray.toList_eq]
 by_cases h:w=⟨l.toArray⟩
 ·subst h;simp
 ·rw [decide_eq_false h,beq_eq_false_iff_ne]
  intro e
  exact h (wY (by rw [e]))
theorem qc {p:Prop} (h:p:=by
 refine⟨?_,?_,?_,?_,?_,?_,?_,?_,?_,?_,?_,?_,?_,?_,?_⟩ <;> rw [pj] <;> decide +kernel):p:=h
theorem AH (w:ByteArray):xW w (ev w):=by
 unfold ev
 by_cases h0:w= (⟨#[110,101,120,116]⟩ :ByteArray)
 ·subst h0
  exact qc
 rw [if_neg h0]
 by_cases h1:w= (⟨#[121,105,101,108,100]⟩ :ByteArray)
 ·subst h1
  exact qc
 rw [if_neg h1]
 by_cases h2:w= (⟨#[100,114,111,112]⟩ :ByteArray)
 ·subst h2
  exact qc
 rw [if_neg h2]
 by_cases h3:w= (⟨#[112,101,110,100,105,110,103]⟩ :ByteArray)
 ·subst h3
  exact qc
 rw [if_neg h3]
 by_cases h4:w= (⟨#[109,97,121]⟩ :ByteArray)
 ·subst h4
  exact qc
 rw [if_neg h4]
 by_cases h5:w= (⟨#[111,114,100,101,114]⟩ :ByteArray)
 ·subst h5
  exact qc
 rw [if_neg h5]
 by_cases h6:w= (⟨#[97,100,111,112,116,101,100]⟩ :ByteArray)
 ·subst h6
  exact qc
 rw [if_neg h6]
 by_cases h7:w= (⟨#[115,101,99,111,110,100]⟩ :ByteArray)
 ·subst h7
  exact qc
 rw [if_neg h7]
 by_cases h8:w= (⟨#[97,115,107]⟩ :ByteArray)
 ·subst h8
  exact qc
 rw [if_neg h8]
 by_cases h9:w= (⟨#[115,112,101,97,107]⟩ :ByteArray)
 ·subst h9
  exact qc
 rw [if_neg h9]
 by_cases h10:w= (⟨#[119,105,116,104,100,114,97,119]⟩ :ByteArray)
 ·subst h10
  exact qc
 rw [if_neg h10]
 by_cases h11:w= (⟨#[108,101,102,116]⟩ :ByteArray)
 ·subst h11
  exact qc
 rw [if_neg h11]
 by_cases h12:w= (⟨#[109,111,118,101,100]⟩ :ByteArray)
 ·subst h12
  exact qc
 rw [if_neg h12]
 by_cases h13:w= (⟨#[109,111,118,101]⟩ :ByteArray)
 ·subst h13
  exact qc
 rw [if_neg h13]
 by_cases h14:w= (⟨#[118,111,116,101]⟩ :ByteArray)
 ·subst h14
  exact qc
 rw [if_neg h14]
 exact⟨by rw [pj,decide_eq_false h0];rfl,by rw [pj,decide_eq_false h1];rfl,by rw [pj,decide_eq_false h2];rfl,by rw [pj,decide_eq_false h3];rfl,by rw [pj,decide_eq_false h4];rfl,by rw [pj,decide_eq_false h5];rfl,by rw [pj,decide_eq_false h6];rfl,by rw [pj,decide_eq_false h7];rfl,by rw [pj,decide_eq_false h8];rfl,by rw [pj,decide_eq_false h9];rfl,by rw [pj,decide_eq_false h10];rfl,by rw [pj,decide_eq_false h11];rfl,by rw [pj,decide_eq_false h12];rfl,by rw [pj,decide_eq_false h13];rfl,by rw [pj,decide_eq_false h14];rfl⟩
theorem HT {i:Nat} (h:i≤15):i= 0∨i= 1∨i= 2∨i= 3∨i= 4∨i= 5∨i= 6∨i= 7∨i= 8∨i= 9∨i= 10∨i= 11∨i= 12∨i= 13∨i= 14∨i= 15:=by omega
def lD:Nat→Option ByteArray
 | 0 | 1 | 2 | 3 | 4 | 5 | 6=>some ⟨#[]⟩
 | 7 | 8 | 9 | 10 | 11 | 12=>some (⟨#[110]⟩ :ByteArray)
 | 13=>some (⟨#[114,110]⟩ :ByteArray)
 | 14=>some (⟨#[110,110,110]⟩ :ByteArray)
 | _=>none
def qP:Nat→List Int→Option nk
 | 0,_=>some ⟨4,0,0,0,0,0⟩
 | 1,_=>some ⟨6,0,0,0,0,0⟩
 | 2,_=>some ⟨9,0,0,0,0,0⟩
 | 7,[n]=>some ⟨2,n,0,0,0,0⟩
 | 8,[n]=>some ⟨3,n,0,0,0,0⟩
 | 9,[n]=>some ⟨5,0,n,0,0,0⟩
 | 10,[n]=>some ⟨8,n,0,0,0,0⟩
 | 13,[v,n]=>some ⟨1,n,v,0,0,0⟩
 | 14,[a,b,c]=>some ⟨7,0,0,a,b,c⟩
 | _,_=>none
def ajD (m:cw) (n:Int):Int:=m.dS - (ej m.du n).dS
def jG (m:cw):Nat→List Int→Option ByteArray
 | 3,_=>some (kx (m.cP.map (kA m.cx)))
 | 4,_=>some (kx ((hv m.cx m.cP).map (kQ m.cx)))
 | 5,_=>some (nT (kf m.fV))
 | 6,_=>some (nT (jN m.cl m.cl.length))
 | 11,[n]=>if ey n then some (eN (ajD m n)) else none
 | 12,[n]=>if ey n then some (nT [(hF m.cl n m.cl.length).1,(hF m.cl n m.cl.length).2]) else none
 | _,_=>none
def EG (m:cw):Bool:=match m.cl[m.cl.length - 1]? with | some o=>o.hB | none=>false
def oI (n:cw) (kind:Int):ByteArray:=if kind= 4 then eN n.fk else if kind= 7 then (if EG n then (⟨#[97,100,111,112,116,101,100]⟩ :ByteArray) else (⟨#[108,111,115,116]⟩ :ByteArray)) else (⟨#[111,107]⟩ :ByteArray)
def my (m:cw):List ByteArray→Option (cw×ByteArray)
 | []=>none
 | w ::r=>match lD (ev w) with
  | none=>none
  | some p=>match kB m.cx p r with
   | none=>none
   | some l=>match qP (ev w) l with
    | some a=>(gC m a).map (fun n=>(n,oI n a.kind))
    | none=>(jG m (ev w) l).map (fun s=>(m,s))
def jk (m:cw) (ws:List ByteArray):cw×ByteArray:=(my m ws).getD (m,(⟨#[63]⟩ :ByteArray))
def nc (m:cw) (a:nk) (s:ByteArray):cw×ByteArray:=match gC m a with | some n=>(n,s) | none=>(m,(⟨#[63]⟩ :ByteArray))
def qQ (m:cw) (a:nk):cw×ByteArray:=match gC m a with | some n=>(n,oI n a.kind) | none=>(m,(⟨#[63]⟩ :ByteArray))
theorem aem {m n:cw} {ws:List ByteArray} {s:ByteArray} (h:gR m) (he:my m ws= some (n,s)):gR n:=by
 cases ws with
 | nil=>cases he
 | cons w r=>
  rw [my] at he
  cases h1:lD (ev w) with
  | none=>rw [h1] at he;cases he
  | some p=>
   rw [h1] at he
   dsimp only at he
   cases h2:kB m.cx p r with
   | none=>rw [h2] at he;cases he
   | some l=>
    rw [h2] at he
    dsimp only at he
    cases h3:qP (ev w) l with
    | some a=>
     rw [h3] at he
     dsimp only at he
     cases hm:gC m a with
     | none=>rw [hm] at he;cases he
     | some k=>rw [hm] at he;cases he;exact HQ h hm
    | none=>
     rw [h3] at he
     dsimp only at he
     cases bj:jG m (ev w) l with
     | none=>rw [bj] at he;cases he
     | some k=>rw [bj] at he;cases he;exact h
theorem Ro {m:cw} {ws:List ByteArray} (h:gR m):gR (jk m ws).1:=by
 unfold jk
 cases he:my m ws with
 | none=>exact h
 | some q=>obtain⟨n,s⟩:=q;exact aem h he
theorem aek {m:cw} {w:ByteArray} {r:List ByteArray} (h:lD (ev w)= none):jk m (w ::r)= (m,(⟨#[63]⟩ :ByteArray)):=by simp [jk,my,h]
theorem aei {m:cw} {w p:ByteArray} {r:List ByteArray} (h:lD (ev w)= some p) (aT:r.length≠p.size):jk m (w ::r)= (m,(⟨#[63]⟩ :ByteArray)):=by simp [jk,my,h,kB,aT]
theorem GI {m:cw} {w p:ByteArray} {r:List ByteArray} (h:lD (ev w)= some p) (aT:kB m.cx p r= none):jk m (w ::r)= (m,(⟨#[63]⟩ :ByteArray)):=by simp [jk,my,h,aT]
theorem AJ {m:cw} {w p:ByteArray} {r:List ByteArray} {l:List Int} {a:nk} (h:lD (ev w)= some p) (aT:kB m.cx p r= some l) (cS:qP (ev w) l= some a):jk m (w ::r)= qQ m a:=by
 simp only [jk,my,h,aT,cS,qQ]
 cases gC m a <;> rfl
theorem Rn {m:cw} {w p:ByteArray} {r:List ByteArray} {l:List Int} {s:Option ByteArray} (h:lD (ev w)= some p) (aT:kB m.cx p r= some l) (cS:qP (ev w) l= none) (aV:jG m (ev w) l= s):jk m (w ::r)= (m,s.getD (⟨#[63]⟩ :ByteArray)):=by
 simp only [jk,my,h,aT,cS,aV]
 cases s <;> rfl
theorem Im (rs:List aK):kB rs ⟨#[]⟩ []= some []:=rfl
theorem Fc (rs:List aK) (x:ByteArray):qB rs 110 x= if eV x then some (hh x.data.toList) else none:=by rw [qB,if_pos rfl]
theorem akQ (rs:List aK) (x:ByteArray):qB rs 114 x= (sX rs x).map (fun r=>r.id):=by rw [qB,if_neg (by decide)]
theorem akK (rs:List aK) (x:ByteArray):kB rs (⟨#[110]⟩ :ByteArray) [x]= if eV x then some [hh x.data.toList] else none:=by
 rw [kB,if_pos (show [x].length= ((⟨#[110]⟩ :ByteArray):ByteArray).size from rfl)]
 show mE rs [110] [x] 1= _
 rw [uO (l:=[]) (p:=110) (w:=x) rfl rfl rfl,Fc]
 cases eV x <;> rfl
theorem akM (rs:List aK) (x y:ByteArray):kB rs (⟨#[114,110]⟩ :ByteArray) [x,y]= match sX rs x with | some r=>(if eV y then some [r.id,hh y.data.toList] else none) | none=>none:=by
 rw [kB,if_pos (show [x,y].length= ((⟨#[114,110]⟩ :ByteArray):ByteArray).size from rfl)]
 show mE rs [114,110] [x,y] 2= _
 have e1:mE rs [114,110] [x,y] 1= (qB rs 114 x).map (fun n=>[] ++ [n]):=uO rfl rfl rfl
 rw [akQ] at e1
 cases hf:sX rs x with
 | none=>rw [hf] at e1;exact Fa e1 1
 | some r=>
  rw [hf] at e1
  rw [uO (k:=1) (l:=[r.id]) (p:=110) (w:=y) e1 rfl rfl,Fc]
  cases eV y <;> rfl
theorem akL (rs:List aK) (x y z:ByteArray):kB rs (⟨#[110,110,110]⟩ :ByteArray) [x,y,z]= if eV x && (eV y && eV z) then some [hh x.data.toList,hh y.data.toList,hh z.data.toList] else none:=by
 rw [kB,if_pos (show [x,y,z].length= ((⟨#[110,110,110]⟩ :ByteArray):ByteArray).size from rfl)]
 show mE rs [110,110,110] [x,y,z] 3= _
 have e1:mE rs [110,110,110] [x,y,z] 1= (qB rs 110 x).map (fun n=>[] ++ [n]):=uO rfl rfl rfl
 rw [Fc] at e1
 cases aw:eV x
 ·rw [aw] at e1;exact Fa e1 2
 rw [aw] at e1
 have e2:mE rs [110,110,110] [x,y,z] 2= (qB rs 110 y).map (fun n=>[hh x.data.toList] ++ [n]):=uO e1 rfl rfl
 rw [Fc] at e2
 cases hy:eV y
 ·rw [hy] at e2;exact Fa e2 1
 rw [hy] at e2
 rw [uO (k:=2) (l:=[hh x.data.toList,hh y.data.toList]) (p:=110) (w:=z) e2 rfl rfl,Fc]
 cases eV z <;> rfl
open Go.RowKit Go.G9
def nW (s:ByteArray):ByteArray:=if 200 < s.size then (⟨#[108,111,110,103]⟩ :ByteArray) else s
def pe (m:cw) (l:ByteArray):cw×ByteArray:=jk m (iZ 32 l)
def yz (x:eY) (l:ByteArray):eY:=(pe x.lC l).1.Gy (iD x.log ⟨l,nW (pe x.lC l).2⟩).eP (iD x.log ⟨l,nW (pe x.lC l).2⟩).eR (iD x.log ⟨l,nW (pe x.lC l).2⟩).dW
def oR (x:eY) (l:ByteArray):eY:=if jd x && (kR l ⟨#[]⟩ && !(x.dW == 60)) then yz x l else x
def qT (x:eY) (l:ByteArray):ByteArray:=if jd x then (if kR l ⟨#[]⟩ then (if x.dW == 60 then (⟨#[102,117,108,108]⟩ :ByteArray) else nW (pe x.lC l).2) else (⟨#[98,97,100]⟩ :ByteArray)) else (⟨#[110,111]⟩ :ByteArray)
theorem adx (x:eY) (l:ByteArray):(yz x l).log= iD x.log ⟨l,nW (pe x.lC l).2⟩:=rfl
theorem Db {x:eY} (h:jd x= true):gR x.lC:=by
 unfold jd at h;rw [Bool.and_eq_true] at h;exact BA.1 h.1
theorem QP {x:eY} (h:jd x= true):x.log.ok= true:=by
 unfold jd at h;rw [Bool.and_eq_true] at h;exact h.2
theorem ajK {x:fU} (h:x.ok= true):x.eP.size + x.eR.size≤30000∧0≤x.dW∧x.dW≤60:=by
 obtain⟨h0,h1,h2⟩:=HK h
 unfold fU.d fU.p at h2
 rw [Array.length_toList,Array.length_toList] at h2
 exact⟨h2,h0,h1⟩
theorem VJ (a b:ByteArray):jf (a ++ b)= (jf a && jf b):=by unfold jf;rw [Km,List.all_append]
theorem ZU {p:Prop} (h:p:=by
 simp only [nC,h2,Bool.and_eq_true,decide_eq_true_eq,Bool.not_false,and_true]
 omega):p:=h
theorem Nz (n:Int):jf (eN n)= true:=by
 unfold jf eN
 show (Lib.itoa n).all nC= true
 have bJ:∀u,(Lib.decDigits u).all nC= true:=fun u=>by
  rw [List.all_eq_true]
  intro c aH
  have h1:=(yB u).2.1 c aH
  simp only [lL,Bool.and_eq_true,decide_eq_true_eq] at h1
  have h2:(c == 35)= false:=by
   rw [beq_eq_false_iff_ne]
   rintro rfl
   have:=h1.1
   revert this;decide
  exact ZU
 unfold Lib.itoa
 split
 ·rw [List.all_cons,bJ];rfl
 ·exact bJ _
theorem akz {s:ByteArray} (h:vb s= true):jf s= true:=by
 unfold vb at h
 rw [Bool.and_eq_true] at h
 have h1:=h.1
 unfold sk at h1
 rw [List.all_eq_true] at h1
 unfold jf
 rw [List.all_eq_true]
 intro c aH
 have h3:=h1 c aH
 simp only [Bool.and_eq_true,decide_eq_true_eq] at h3
 have h2:(c == 35)= false:=by
  rw [beq_eq_false_iff_ne]
  rintro rfl
  have:=h3.1
  revert this;decide
 exact ZU
theorem VK {ws:List ByteArray} (h:∀x ∈ ws,jf x= true):∀k,jf (na ws k)= true
 | 0=>by
  unfold na
  cases hw:ws[0]? with
  | none=>rfl
  | some x=>exact h x (List.mem_of_getElem? hw)
 | k + 1=>by
  have er:=VK h k
  unfold na
  split
  ·rename_i y hy
   rw [VJ,VJ,er,h y (List.mem_of_getElem? hy)];rfl
  ·exact er
theorem Nx {ws:List ByteArray} (h:∀x ∈ ws,jf x= true):jf (kx ws)= true:=by
 unfold kx
 split
 ·rfl
 ·exact VK h _
theorem Ny (xs:List Int):jf (nT xs)= true:=Nx fun x aw=>by
 obtain⟨n,_,rfl⟩:=List.mem_map.1 aw
 exact Nz n
theorem Vu {rs:List aK} (h:js rs= true) (id:Int):jf (kQ rs id)= true:=by
 unfold kQ
 cases hf:hE rs id with
 | none=>rfl
 | some r=>
  obtain⟨k,aD⟩:=List.mem_iff_getElem?.1 (List.mem_of_find?_eq_some hf)
  exact akz (xJ (xK h aD)).2.2.2.2.2.2
theorem adn {m:cw} (h:gR m) {i:Nat} {l:List Int} {s:ByteArray} (aV:jG m i l= some s):jf s= true:=by
 have bp:=(mj h.ho).1
 unfold jG at aV
 split at aV
 ·cases aV;exact Nx fun x aw=>by obtain⟨q,_,rfl⟩:=List.mem_map.1 aw;exact Vu bp _
 ·cases aV;exact Nx fun x aw=>by obtain⟨q,_,rfl⟩:=List.mem_map.1 aw;exact Vu bp _
 ·cases aV;exact Ny _
 ·cases aV;exact Ny _
 ·split at aV
  ·cases aV;exact Nz _
  ·cases aV
 ·split at aV
  ·cases aV;exact Ny _
  ·cases aV
 ·cases aV
theorem ale (n:cw) (k:Int):jf (oI n k)= true:=by
 unfold oI
 split
 ·exact Nz _
 split
 ·split <;> rfl
 ·rfl
theorem aej {m:cw} (h:gR m) (ws:List ByteArray):jf (jk m ws).2= true:=by
 unfold jk
 cases he:my m ws with
 | none=>rfl
 | some q=>
  obtain⟨n,s⟩:=q
  show jf s= true
  cases ws with
  | nil=>cases he
  | cons w r=>
   rw [my] at he
   cases h1:lD (ev w) with
   | none=>rw [h1] at he;cases he
   | some p=>
    rw [h1] at he
    dsimp only at he
    cases h2:kB m.cx p r with
    | none=>rw [h2] at he;cases he
    | some l=>
     rw [h2] at he
     dsimp only at he
     cases h3:qP (ev w) l with
     | some a=>
      rw [h3] at he
      dsimp only at he
      cases hm:gC m a with
      | none=>rw [hm] at he;cases he
      | some k=>rw [hm] at he;cases he;exact ale _ _
     | none=>
      rw [h3] at he
      dsimp only at he
      cases bj:jG m (ev w) l with
      | none=>rw [bj] at he;cases he
      | some k=>rw [bj] at he;cases he;exact adn h bj
theorem alz {s:ByteArray} (h:jf s= true):jf (nW s)= true∧(nW s).size≤200:=by
 unfold nW
 split
 ·exact⟨rfl,by decide⟩
 ·exact⟨h,by omega⟩
theorem ald {l r:ByteArray} (h:kR l ⟨#[]⟩ =true) (aN:jf r= true) (aV:r.size≤200):kR l r= true:=by
 unfold kR at h ⊢
 simp only [Bool.and_eq_true,decide_eq_true_eq] at h ⊢
 exact⟨h.1,aV,h.2.2.1,aN,h.2.2.2.2⟩
theorem Wm {l r:ByteArray} (h:kR l r= true):1≤l.size∧l.size≤160:=by
 unfold kR at h
 simp only [Bool.and_eq_true,decide_eq_true_eq,qt] at h
 omega
theorem adw {x:eY} {l:ByteArray} (h:jd x= true) (bp:kR l ⟨#[]⟩ =true) (aH:(x.dW == 60)= false):Az x.log ⟨l,nW (pe x.lC l).2⟩ =0:=by
 obtain⟨dq,cZ⟩:=alz (aej (Db h) (iZ 32 l))
 have h1:jV (eB.c ⟨l,nW (pe x.lC l).2⟩) (eB.r ⟨l,nW (pe x.lC l).2⟩)= true:=by
  unfold jV
  rw [Gt,Gu]
  exact ald bp dq cZ
 have h2:jT x.log.d x.log.p x.log.dW= true:=QP h;have h3:(x.log.dW == 60)= false:=aH
 unfold Az rP pz
 rw [h2,h1,h3];rfl
theorem ady {x:eY} {l:ByteArray} (h:jd x= true) (bp:kR l ⟨#[]⟩ =true) (aH:(x.dW == 60)= false):jd (yz x l)= true:=by
 have h1:=(ade (adw h bp aH)).2.1;have h2:gR (yz x l).lC:=Ro (Db h)
 unfold jd
 rw [BA.2 h2,adx,h1];rfl
theorem QM {x:eY} {l:ByteArray} (h:jd x= true):jd (oR x l)= true:=by
 unfold oR
 split
 ·rename_i aH
  simp only [Bool.and_eq_true,Bool.not_eq_true'] at aH
  exact ady h aH.2.1 aH.2.2
 ·exact h
structure abz (x:eY):Prop where
 pd:x.cx.length≤1048576
 nA:x.cP.length≤1048576
 pU:x.ds.length≤1048576
 HI:x.du.length≤1048576
 MX:x.cl.length≤1048576
 MY:x.eP.size + x.eR.size≤1048576
theorem rS {x:eY} (h:jd x= true):abz x:=by
 obtain⟨a0,a1,a2,a3,a4⟩:=sl (Db h)
 have h5:=(ajK (QP h)).1
 unfold eY.lC at a0 a1 a2 a3 a4
 unfold eY.log at h5
 simp only at a0 a1 a2 a3 a4 h5
 exact⟨by omega,by omega,by omega,by omega,by omega,by omega⟩
theorem QQ {x:eY} {l:ByteArray} (h:jd x= false):oR x l= x∧qT x l= (⟨#[110,111]⟩ :ByteArray):=by
 unfold oR qT;rw [h];exact⟨rfl,rfl⟩
theorem QN {x:eY} {l:ByteArray} (h:jd x= true) (bp:kR l ⟨#[]⟩ =false):oR x l= x∧qT x l= (⟨#[98,97,100]⟩ :ByteArray):=by
 unfold oR qT;rw [h,bp];exact⟨rfl,rfl⟩
theorem QO {x:eY} {l:ByteArray} (h:jd x= true) (bp:kR l ⟨#[]⟩ =true) (aH:(x.dW == 60)= true):oR x l= x∧qT x l= (⟨#[102,117,108,108]⟩ :ByteArray):=by
 unfold oR qT;rw [h,bp,aH];exact⟨rfl,rfl⟩
theorem QR {x:eY} {l:ByteArray} (h:jd x= true) (bp:kR l ⟨#[]⟩ =true) (aH:(x.dW == 60)= false):oR x l= yz x l∧qT x l= nW (pe x.lC l).2:=by
 unfold oR qT;rw [h,bp,aH];exact⟨rfl,rfl⟩
def tO (x:eY) (es:List eB):Nat→eY
 | 0=>x
 | k + 1=>match es[k]? with | some y=>oR (tO x es k) y.cmd | none=>tO x es k
def qC (x:eY) (es:List eB) (k:Nat):Bool:=match es[k]? with | some y=>(qT (tO x es k) y.cmd).toList == y.rep.toList | none=>true
def BK (x:eY) (es:List eB):Nat→Nat→Nat
 | 0,k=>k
 | f + 1,k=>if qC x es k then BK x es f (k + 1) else k
theorem Ws {x:eY} {es:List eB} {k:Nat} {y:eB} (h:es[k]? =some y):tO x es (k + 1)= oR (tO x es k) y.cmd:=by rw [tO,h]
theorem NU {x:eY} {es:List eB}:∀k f,gy (qC x es) k= true→BK x es (f + k) 0= BK x es f k
 | 0,f,_=>rfl
 | k + 1,f,h=>by
  have h0:=lJ.1 h
  rw [show f + (k + 1)= (f + 1) + k by omega,NU k (f + 1) (lJ.2 fun i hi=>h0 i (by omega)),BK,if_pos (h0 k (by omega))]
def zQ (x:eY) (es:List eB):Nat:=BK x es es.length 0
theorem Wu {x:eY} {es:List eB} {k:Nat} (aD:k < es.length) (h:gy (qC x es) k= true) (aY:qC x es k= false):zQ x es= k:=by
 unfold zQ
 rw [show es.length= (es.length - k - 1 + 1) + k by omega,NU k _ h,BK,aY];rfl
theorem Wt {x:eY} {es:List eB} (h:gy (qC x es) es.length= true):zQ x es= es.length:=by
 have e:=NU (x:=x) (es:=es) es.length 0 h
 rw [Nat.zero_add] at e
 exact e
end Go.Proofs.YtlaaemmmbodaaaaGreatDoor
