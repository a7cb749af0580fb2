/- Parts. -/
import Derived.Test.YtlaaemmmbodaaaaGreatDoorEx5
set_option maxHeartbeats 16000000
set_option maxRecDepth 100000
set_option linter.unnecessarySimpa false
set_option linter.unusedSimpArgs false
set_option linter.unusedVariables false
namespace Go.Proofs.YtlaaemmmbodaaaaGreatDoor
open Go.RowKit Go.G9
structure eC (an ar aj ak aA:Option Addr) (c0 c1 c2 c3 c4:Nat) (rs:List aJ) (qs:List aL) (ws:List Int) (U:List aI) (os:List Out):Prop where
 h0:rs.length≤1048576
 h1:qs.length≤1048576
 h2:ws.length≤1048576
 h3:U.length≤1048576
 h4:os.length≤1048576
 n0:an= none→rs= []∧c0= 0
 n1:ar= none→qs= []∧c1= 0
 n2:aj= none→ws= []∧c2= 0
 n3:ak= none→U= []∧c3= 0
 n4:aA= none→os= []∧c4= 0
 dY:rs.length≤c0
 eB:qs.length≤c1
 cp:ws.length≤c2
 ed:U.length≤c3
 hp:os.length≤c4
structure ea (w:World) (an ar aj ak aA:Option Addr) (rs:List aJ) (qs:List aL) (ws:List Int) (U:List aI) (os:List Out):Prop where
 fF:aH 7 aJ.cells w an rs
 dJ:aH 3 aL.cells w ar qs
 r2:aH 1 bR w aj ws
 hr:aH 3 aI.cells w ak U
 nJ:aH 3 Out.cells w aA os
structure gA (B:Nat) (w:World) (cq:Option Addr) (d0:Nat) (cK:Option Addr) (d1:Nat) (bg:Option Addr) (d2:Nat) (bn:Option Addr) (d3:Nat) (ct:Option Addr) (d4:Nat) (rs:List aJ) (qs:List aL) (ws:List Int) (U:List aI) (os:List Out):Prop where
 kJ:aV B 89 7 aJ.cells w (.slice cq rs.length d0) rs
 hU:aV B 115 3 aL.cells w (.slice cK qs.length d1) qs
 fk:aV B 3 1 bR w (.slice bg ws.length d2) ws
 fJ:aV B 214 3 aI.cells w (.slice bn U.length d3) U
 mc:aV B 163 3 Out.cells w (.slice ct os.length d4) os
section
variable {B B':Nat} {w ag:World} {an ar aj ak aA cq cK bg bn ct:Option Addr} {c0 c1 c2 c3 c4 d0 d1 d2 d3 d4:Nat} {rs:List aJ} {qs:List aL} {ws:List Int} {U:List aI} {os:List Out}
theorem ea.below (h:ea w an ar aj ak aA rs qs ws U os) (aB:Below w w ag):ea ag an ar aj ak aA rs qs ws U os:=⟨h.fF.below aB,h.dJ.below aB,h.r2.below aB,h.hr.below aB,h.nJ.below aB⟩
theorem gA.later (h:gA B w cq d0 cK d1 bg d2 bn d3 ct d4 rs qs ws U os) (aB:Below w w ag):gA B ag cq d0 cK d1 bg d2 bn d3 ct d4 rs qs ws U os:=⟨h.kJ.later aB,h.hU.later aB,h.fk.later aB,h.fJ.later aB,h.mc.later aB⟩
theorem gA.base (h:gA B w cq d0 cK d1 bg d2 bn d3 ct d4 rs qs ws U os) (aB:B'≤B):gA B' w cq d0 cK d1 bg d2 bn d3 ct d4 rs qs ws U os:=⟨h.kJ.base aB,h.hU.base aB,h.fk.base aB,h.fJ.base aB,h.mc.base aB⟩
theorem amW:gA B w none 0 none 0 none 0 none 0 none 0 [] [] [] [] []:=⟨aV.nil,aV.nil,aV.nil,aV.nil,aV.nil⟩
theorem Bf (x:Out):(Out.cells x).length= 3:=rfl
theorem PB (x:Out):∀u,u ∈ Out.cells x→u.oneCell'= true:=by
 intro u hu
 simp only [Out.cells,List.mem_cons,List.not_mem_nil,or_false] at hu
 rcases hu with rfl | rfl | rfl <;> rfl
theorem gA.rd (h:gA B w cq d0 cK d1 bg d2 bn d3 ct d4 rs qs ws U os):ea w cq cK bg bn ct rs qs ws U os:=⟨h.kJ.dE PZ,h.hU.dE jP,h.fk.dE fZ,h.fJ.dE ij,h.mc.dE Bf⟩
theorem rU {T:Type} {sz:Nat} {f:T→List Value} {e:TypeId} {A:Option Addr} {n c:Nat} {xs:List T} (h:aV B e sz f w (.slice A n c) xs) (hf:∀y,(f y).length= sz):xs.length≤c:=by
 exact aci
theorem gA.WK (h:gA B w cq d0 cK d1 bg d2 bn d3 ct d4 rs qs ws U os) (h0:rs.length≤1048576) (h1:qs.length≤1048576) (h2:ws.length≤1048576) (h3:U.length≤1048576) (h4:os.length≤1048576):eC cq cK bg bn ct d0 d1 d2 d3 d4 rs qs ws U os:=
 ⟨h0,h1,h2,h3,h4,h.kJ.mS,h.hU.mS,h.fk.mS,h.fJ.mS,h.mc.mS,rU h.kJ PZ,rU h.hU jP,rU h.fk fZ,rU h.fJ ij,rU h.mc Bf⟩
theorem gA.apart (h:gA B w cq d0 cK d1 bg d2 bn d3 ct d4 rs qs ws U os):qy [.slice cq rs d0,.slice cK qs d1,.slice bg ws d2,.slice bn U d3,.slice ct os d4]:=by
 unfold qy
 refine List.Pairwise.cons (fun u hu=>?_) (List.Pairwise.cons (fun u hu=>?_) (List.Pairwise.cons (fun u hu=>?_) (List.Pairwise.cons (fun u hu=>?_) (List.Pairwise.cons (fun u hu=>by simp at hu) List.Pairwise.nil))))
 ·simp only [List.mem_cons,List.not_mem_nil,or_false] at hu
  rcases hu with rfl | rfl | rfl | rfl
  ·exact h.kJ.apart h.hU (by decide)
  ·exact h.kJ.apart h.fk (by decide)
  ·exact h.kJ.apart h.fJ (by decide)
  ·exact h.kJ.apart h.mc (by decide)
 ·simp only [List.mem_cons,List.not_mem_nil,or_false] at hu
  rcases hu with rfl | rfl | rfl
  ·exact h.hU.apart h.fk (by decide)
  ·exact h.hU.apart h.fJ (by decide)
  ·exact h.hU.apart h.mc (by decide)
 ·simp only [List.mem_cons,List.not_mem_nil,or_false] at hu
  rcases hu with rfl | rfl
  ·exact h.fk.apart h.fJ (by decide)
  ·exact h.fk.apart h.mc (by decide)
 ·simp only [List.mem_cons,List.not_mem_nil,or_false] at hu
  subst hu
  exact h.fJ.apart h.mc (by decide)
end
def Hm (rs:List aJ) (qs:List aL) (af ae sp:Int) (ws:List Int) (U:List aI) (os:List Out):lC ((Option Addr×Nat)×Option Addr×Nat) where
 par:=fun n=>match n with
  | 3=>[0]
  | 7=>[4]
  | 14=>[11]
  | _=>[]
 val:=fun n p=>match n with
  | 0=> .slice p.1.1 0 0
  | 3=> .slice p.1.1 rs.length p.1.2
  | 4=> .slice p.1.1 0 0
  | 7=> .slice p.1.1 qs.length p.1.2
  | 10=> .agg #[.int .i64 af,.int .i64 ae,.int .i64 sp,.slice p.1.1 ws.length p.1.2,.slice p.2.1 U.length p.2.2]
  | 11=> .slice p.1.1 0 0
  | 14=> .slice p.1.1 os.length p.1.2
  | _=>undef
 post:=fun n bp p cW V=>match n with
  | 0=>p.1.1= some ⟨cW.heap.size,0,none⟩∧aq V cW.heap.size 89 #[]
  | 3=>∃g,(bp 0).1.1= some ⟨g,0,none⟩∧aV g 89 7 aJ.cells V (.slice p.1.1 rs.length p.1.2) rs
  | 4=>p.1.1= some ⟨cW.heap.size,0,none⟩∧aq V cW.heap.size 115 #[]
  | 7=>∃g,(bp 4).1.1= some ⟨g,0,none⟩∧aV g 115 3 aL.cells V (.slice p.1.1 qs.length p.1.2) qs
  | 10=>jR cW.heap.size V p.1.1 p.1.2 p.2.1 p.2.2 ws U
  | 11=>p.1.1= some ⟨cW.heap.size,0,none⟩∧aq V cW.heap.size 163 #[]
  | 14=>∃g,(bp 11).1.1= some ⟨g,0,none⟩∧aV g 163 3 Out.cells V (.slice p.1.1 os.length p.1.2) os
  | _=>True
theorem DZ {p:Prop} (h:p:=by
 change wpList _ _ _ (_ ::[]) _ _
 go_wp2
 exact ia ⟨((some ⟨k.world.heap.size,0,none⟩,0),none,0),rfl,bZ _ _,rfl,aq.new _ _ _⟩):p:=h
theorem acq {p:Prop} (h:p:=by
 change wpList _ _ _ (_ ::[]) _ _
 obtain⟨gO,uw,qS,⟨mK,mL⟩,mM⟩:=fQ 0 (by simp [Hm])
 have mN:=mL.to mM;have jW:(bp 0).1.1= some ⟨gO.heap.size,0,none⟩:=mK;have qD:=J (bJ.out.fF.below ((iN.out _).1 k.holds).1);have qC:=J mN;clear mN mL mK qS mM fQ
 rw [jW]
 have mj:=J jW;clear jW
 go_wp2_with ((at_builtin;refine zH rfl _ _ 29 rfl gO.heap.size 89 i0 _ 7 48 Tryz.underlying29 hi dy dC dN rfl (by decide) aJ.cells PZ aoQ gO.heap.size rfl qC.out (Nat.le_refl _) an c0 rs rfl qD.out m0 (by unfold maxLen;omega) (by omega) ?_;intro bo cM ag fB eW))
 first | exact ia ⟨((some ⟨bo,0,none⟩,cM),none,0),rfl,eW,gO.heap.size,mj.out,fB⟩ | exact ia ⟨(some ⟨bo,0,none⟩,cM),(none,0),rfl,eW,gO.heap.size,mj.out,fB⟩ | exact ia ⟨some ⟨bo,0,none⟩,cM,none,0,rfl,eW,gO.heap.size,mj.out,fB⟩):p:=h
theorem acp {p:Prop} (h:p:=by
 change wpList _ _ _ (_ ::[]) _ _
 obtain⟨gO,uw,qS,⟨mK,mL⟩,mM⟩:=fQ 4 (by simp [Hm])
 have mN:=mL.to mM;have jW:(bp 4).1.1= some ⟨gO.heap.size,0,none⟩:=mK;have qD:=J (bJ.out.dJ.below ((iN.out _).1 k.holds).1);have qC:=J mN;clear mN mL mK qS mM fQ
 rw [jW]
 have mj:=J jW;clear jW
 go_wp2_with ((at_builtin;refine zH rfl _ _ 37 rfl gO.heap.size 115 Dk _ 3 24 Tryz.underlying37 WS WV WW WX rfl (by decide) aL.cells jP tL gO.heap.size rfl qC.out (Nat.le_refl _) ar c1 qs rfl qD.out m1 (by unfold maxLen;omega) (by omega) ?_;intro bo cM ag fB eW))
 first | exact ia ⟨((some ⟨bo,0,none⟩,cM),none,0),rfl,eW,gO.heap.size,mj.out,fB⟩ | exact ia ⟨(some ⟨bo,0,none⟩,cM),(none,0),rfl,eW,gO.heap.size,mj.out,fB⟩ | exact ia ⟨some ⟨bo,0,none⟩,cM,none,0,rfl,eW,gO.heap.size,mj.out,fB⟩):p:=h
theorem aco {p:Prop} (h:p:=by
 change wpList _ _ _ (_ ::[]) _ _
 obtain⟨gO,uw,qS,⟨mK,mL⟩,mM⟩:=fQ 11 (by simp [Hm])
 have mN:=mL.to mM;have jW:(bp 11).1.1= some ⟨gO.heap.size,0,none⟩:=mK;have qD:=J (bJ.out.nJ.below ((iN.out _).1 k.holds).1);have qC:=J mN;clear mN mL mK qS mM fQ
 rw [jW]
 have mj:=J jW;clear jW
 go_wp2_with ((at_builtin;refine zH rfl _ _ 42 rfl gO.heap.size 163 js _ 3 24 Tryz.underlying42 li Xt Xu Xv rfl (by decide) Out.cells Bf PB gO.heap.size rfl qC.out (Nat.le_refl _) aA c4 os rfl qD.out m4 (by unfold maxLen;omega) (by omega) ?_;intro bo cM ag fB eW))
 first | exact ia ⟨((some ⟨bo,0,none⟩,cM),none,0),rfl,eW,gO.heap.size,mj.out,fB⟩ | exact ia ⟨(some ⟨bo,0,none⟩,cM),(none,0),rfl,eW,gO.heap.size,mj.out,fB⟩ | exact ia ⟨some ⟨bo,0,none⟩,cM,none,0,rfl,eW,gO.heap.size,mj.out,fB⟩):p:=h
theorem Kg (an ar aj ak aA:Option Addr) (c0 c1 c2 c3 c4:Nat) (rs:List aJ) (qs:List aL) (af ae sp:Int) (ws:List Int) (U:List aI) (os:List Out) (Z:eC an ar aj ak aA c0 c1 c2 c3 c4 rs qs ws U os) (w:World) (R:ea w an ar aj ak aA rs qs ws U os):
 Calls Tryz.prog 96 #[.agg #[.slice an rs c0,.slice ar qs c1,af,ae,sp,.slice aj ws c2,.slice ak U c3,.slice aA os c4]] w fun e ag=>∃cq d0 cK d1 bg d2 bn d3 ct d4,e= .returned (.agg #[.slice cq rs d0,.slice cK qs d1,af,ae,sp,.slice bg ws d2,.slice bn U d3,.slice ct os d4])∧gA w ag cq d0 cK d1 bg d2 bn d3 ct d4 rs qs ws U os∧Below w w ag:=by
 obtain⟨i0,hi,dy,dC,dN⟩:=info_parts Pb
 obtain⟨Dk,WS,WV,WW,WX⟩:=info_parts sH
 obtain⟨js,li,Xt,Xu,Xv⟩:=info_parts GV
 have bJ:=J R;have bf:=J Z;have eb:=Z.h0;have dx:=Z.h1;have fo:=Z.h4;have m0:=Z.n0;have m1:=Z.n1;have m4:=Z.n4;clear R Z
 go_in
 go_upto_region 1 with fail
 refine fm fun aF au ai ad=>?_
 have I:=au;have aD:=ai.aG;have al:=ad.aG;have gy:=ad.lt
 obtain⟨tZ,yU⟩ :∃X:World→Prop,∀V,X V↔(Below w w V∧aq V (w.heap.size) 44 #[.slice an rs c0,.slice ar qs c1,af,ae,sp,.slice aj ws c2,.slice ak U c3,.slice aA os c4]):=⟨_,fun _=>Iff.rfl⟩
 have iN:=J yU;clear yU
 haveI:Nonempty (cN tZ):=⟨⟨aF,((iN.out _).2 ⟨I,ai⟩)⟩⟩
 clear aD;clear al;have aD:=aq.qd (fun K:cN tZ=>((iN.out _).1 K.holds).2)
 go_wp2
 refine BC (Hm rs qs af ae sp ws U os) tZ [([],0),([1,2],3),([],4),([5,6],7),([8,9],10),([],11),([12,13],14)] [15] [([],16)] [] (by kernel_rfl) (by kernel_rfl) ((iN.out _).2 ⟨I.drew,ai⟩) (fun W eE h k=>((iN.out _).2 ⟨((iN.out _).1 h).1.trans (k.mono ((iN.out _).1 h).1.size),((iN.out _).1 h).2.below k ((iN.out _).1 h).2.lt⟩)) ?_
 intro bp
 refine iL (some 3) rfl (.slice (bp 0).1.1 0 0) rfl fun hd eT=>?_
 change wpQuiet _ _ _ _ ([]) _
 refine wpQuiet_nil ?_
 refine⟨fun k fQ=>?_,eT _ ?_⟩
 ·exact DZ
 simp only [Act.put]
 go_simp
 refine iL (some 6) rfl (.slice (bp 3).1.1 rs.length (bp 3).1.2) rfl fun hd eT=>?_
 change wpQuiet _ _ _ _ (_ ::_ ::[]) _
 repeat (go_big_quiet_step (fail))
 refine wpQuiet_nil ?_
 refine⟨fun k fQ=>?_,eT _ ?_⟩
 ·exact acq
 simp only [Act.put]
 go_simp
 refine iL (some 7) rfl (.slice (bp 4).1.1 0 0) rfl fun hd eT=>?_
 change wpQuiet _ _ _ _ ([]) _
 refine wpQuiet_nil ?_
 refine⟨fun k fQ=>?_,eT _ ?_⟩
 ·exact DZ
 simp only [Act.put]
 go_simp
 refine iL (some 10) rfl (.slice (bp 7).1.1 qs.length (bp 7).1.2) rfl fun hd eT=>?_
 change wpQuiet _ _ _ _ (_ ::_ ::[]) _
 repeat (go_big_quiet_step (fail))
 refine wpQuiet_nil ?_
 refine⟨fun k fQ=>?_,eT _ ?_⟩
 ·exact acp
 simp only [Act.put]
 go_simp
 refine iL (some 13) rfl (.agg #[af,ae,sp,.slice (bp 10).1.1 ws.length (bp 10).1.2,.slice (bp 10).2.1 U.length (bp 10).2.2]) rfl fun hd eT=>?_
 change wpQuiet _ _ _ _ (_ ::_ ::[]) _
 repeat (go_big_quiet_step (fail))
 refine wpQuiet_nil ?_
 refine⟨fun k fQ=>?_,eT _ ?_⟩
 ·change wpList _ _ _ (_ ::[]) _ _
  go_wp2_with fail
  refine (Hk af ae sp aj c2 ws ak c3 U bf.out.h2 bf.out.h3 bf.out.n2 bf.out.n3 _ (bJ.out.r2.below ((iN.out _).1 k.holds).1) (bJ.out.hr.below ((iN.out _).1 k.holds).1)).mono ?_
  rintro e mY ⟨bg,d2,g3,d3,rfl,ds,fS⟩
  go_wp2
  exact ia ⟨((bg,d2),some ⟨g3,0,none⟩,d3),rfl,fS,ds⟩
 simp only [Act.put]
 go_simp
 refine iL (some 14) rfl (.slice (bp 11).1.1 0 0) rfl fun hd eT=>?_
 change wpQuiet _ _ _ _ ([]) _
 refine wpQuiet_nil ?_
 refine⟨fun k fQ=>?_,eT _ ?_⟩
 ·exact DZ
 simp only [Act.put]
 go_simp
 refine iL (some 17) rfl (.slice (bp 14).1.1 os.length (bp 14).1.2) rfl fun hd eT=>?_
 change wpQuiet _ _ _ _ (_ ::_ ::[]) _
 repeat (go_big_quiet_step (fail))
 refine wpQuiet_nil ?_
 refine⟨fun k fQ=>?_,eT _ ?_⟩
 ·exact aco
 simp only [Act.put]
 go_simp
 refine tW ?_
 change wpQuiet _ _ _ _ (_ ::[]) _
 repeat (go_big_quiet_step (fail))
 refine wpQuiet_nil ?_
 intro cW V W aW bI
 obtain⟨g3,e3,ns⟩ :∃g,(bp 0).1.1= some ⟨g,0,none⟩∧aV g 89 7 aJ.cells (V 3) (.slice (bp 3).1.1 rs.length (bp 3).1.2) rs:=aW.post 3 (by simp)
 obtain⟨a3,_⟩ :(bp 0).1.1= some ⟨(cW 0).heap.size,0,none⟩∧aq (V 0) (cW 0).heap.size 89 #[]:=aW.post 0 (by simp)
 have pT:(cW 0).heap.size= g3:=by rw [a3] at e3;exact congrArg Addr.block (Option.some.inj e3)
 have ch:=(ns.later (aW.later 3 (by simp))).base (B':=aF.heap.size) (by rw [← pT];exact (aW.nC 0 (by simp)).size)
 obtain⟨g7,e7,yb⟩ :∃g,(bp 4).1.1= some ⟨g,0,none⟩∧aV g 115 3 aL.cells (V 7) (.slice (bp 7).1.1 qs.length (bp 7).1.2) qs:=aW.post 7 (by simp)
 obtain⟨a7,_⟩ :(bp 4).1.1= some ⟨(cW 4).heap.size,0,none⟩∧aq (V 4) (cW 4).heap.size 115 #[]:=aW.post 4 (by simp)
 have HD:(cW 4).heap.size= g7:=by rw [a7] at e7;exact congrArg Addr.block (Option.some.inj e7)
 have cm:=(yb.later (aW.later 7 (by simp))).base (B':=aF.heap.size) (by rw [← HD];exact (aW.nC 4 (by simp)).size)
 obtain⟨g14,e14,sN⟩ :∃g,(bp 11).1.1= some ⟨g,0,none⟩∧aV g 163 3 Out.cells (V 14) (.slice (bp 14).1.1 os.length (bp 14).1.2) os:=aW.post 14 (by simp)
 obtain⟨a14,_⟩ :(bp 11).1.1= some ⟨(cW 11).heap.size,0,none⟩∧aq (V 11) (cW 11).heap.size 163 #[]:=aW.post 11 (by simp)
 have HC:(cW 11).heap.size= g14:=by rw [a14] at e14;exact congrArg Addr.block (Option.some.inj e14)
 have cv:=(sN.later (aW.later 14 (by simp))).base (B':=aF.heap.size) (by rw [← HC];exact (aW.nC 11 (by simp)).size);have Hr:jR (cW 10).heap.size (V 10) (bp 10).1.1 (bp 10).1.2 (bp 10).2.1 (bp 10).2.2 ws U:=aW.post 10 (by simp);have ds:=(Hr.later (aW.later 10 (by simp))).base (B':=aF.heap.size) (aW.nC 10 (by simp)).size;clear aD;have aK:Below aF aF W:=ah av (aW.whole 10 (by simp)).rr
 replace I:=ah I aK;replace ai:=ai.to aK;replace ad:=ad.to aK;have al:=ad.aG;clear aW Hr ns yb sN a3 a7 a14 e3 e7 e14 pT HD HC bI m0 m1 m4
 generalize bp 3= cu at *
 generalize bp 7= dI at *
 generalize bp 10= dj at *
 generalize bp 14= pO at *
 obtain⟨⟨cq,d0⟩,_,_⟩:=cu
 obtain⟨⟨cK,d1⟩,_,_⟩:=dI
 obtain⟨⟨bg,d2⟩,bn,d3⟩:=dj
 obtain⟨⟨ct,d4⟩,_,_⟩:=pO
 simp only at ch cm cv ds
 have bA:=ds.fk;have bq:=ds.fJ;clear ds
 refine ha fun gz dZ=>?_
 change wpQuiet _ _ _ _ ([]) _
 refine wpQuiet_nil ?_
 change wpList _ _ _ (_ ::[]) _ _
 have ep:=ad.jh
 go_wp2
 clear al
 refine iK 0 fun cS aC=>?_
 replace I:=aC.aE I;replace ai:=aC.dM ai;replace ad:=aC.jg ad;replace ch:=ch.bW aC (fun k az=>by first | exact fC k az | (have:=ch.lt k az;omega));replace cm:=cm.bW aC (fun k az=>by first | exact ih k az | (have:=cm.lt k az;omega));replace bA:=bA.bW aC (fun k az=>by first | exact ej k az | (have:=bA.lt k az;omega));replace bq:=bq.bW aC (fun k az=>by first | exact dK k az | (have:=bq.lt k az;omega))
 replace cv:=cv.bW aC (fun k az=>by first | exact fI k az | (have:=cv.lt k az;omega));have al:=ad.aG
 refine hn (((iN.out _).2 ⟨I,ai⟩)) (dZ _ _ ?_)
 refine mA ?_
 change wpQuiet _ _ _ _ ([]) _
 refine wpQuiet_nil ?_
 go_wp2
 exact hg ⟨cq,d0,cK,d1,bg,d2,bn,d3,ct,d4,rfl,⟨ch.base (by omega),cm.base (by omega),bA.base (by omega),bq.base (by omega),cv.base (by omega)⟩,I⟩ (by simp [results,Tryz.results96,go_sem,al])
theorem Ha (an ar aj ak aA:Option Addr) (c0 c1 c2 c3 c4:Nat) (rs:List aJ) (qs:List aL) (af ae sp:Int) (ws:List Int) (U:List aI) (os:List Out) (Z:eC an ar aj ak aA c0 c1 c2 c3 c4 rs qs ws U os) (w:World) (R:ea w an ar aj ak aA rs qs ws U os):
 Calls Tryz.prog 106 #[.agg #[.slice an rs c0,.slice ar qs c1,af,ae,sp,.slice aj ws c2,.slice ak U c3,.slice aA os c4]] w fun e ag=>∃cq d0 cK d1 bg d2 bn d3 ct d4,e= .returned (.agg #[.slice cq rs d0,.slice cK qs d1,af,ae,sp,.slice bg ws d2,.slice bn U d3,.slice ct os d4])∧gA w ag cq d0 cK d1 bg d2 bn d3 ct d4 rs qs ws U os∧Below w w ag:=by
 obtain⟨i0,hi,dy,dC,dN⟩:=info_parts Pb
 obtain⟨Dk,WS,WV,WW,WX⟩:=info_parts sH
 obtain⟨js,li,Xt,Xu,Xv⟩:=info_parts GV
 have bJ:=J R;have bf:=J Z;have eb:=Z.h0;have dx:=Z.h1;have fo:=Z.h4;have m0:=Z.n0;have m1:=Z.n1;have m4:=Z.n4;clear R Z
 go_in
 go_upto_region 1 with fail
 refine fm fun aF au ai ad=>?_
 have I:=au;have aD:=ai.aG;have al:=ad.aG;have gy:=ad.lt
 obtain⟨tZ,yU⟩ :∃X:World→Prop,∀V,X V↔(Below w w V∧aq V (w.heap.size) 44 #[.slice an rs c0,.slice ar qs c1,af,ae,sp,.slice aj ws c2,.slice ak U c3,.slice aA os c4]):=⟨_,fun _=>Iff.rfl⟩
 have iN:=J yU;clear yU
 haveI:Nonempty (cN tZ):=⟨⟨aF,((iN.out _).2 ⟨I,ai⟩)⟩⟩
 clear aD;clear al;have aD:=aq.qd (fun K:cN tZ=>((iN.out _).1 K.holds).2)
 go_wp2
 refine BC (Hm rs qs af ae sp ws U os) tZ [([],0),([1,2],3),([],4),([5,6],7),([8,9],10),([],11),([12,13],14)] [15] [([],16)] [] (by kernel_rfl) (by kernel_rfl) ((iN.out _).2 ⟨I.drew,ai⟩) (fun W eE h k=>((iN.out _).2 ⟨((iN.out _).1 h).1.trans (k.mono ((iN.out _).1 h).1.size),((iN.out _).1 h).2.below k ((iN.out _).1 h).2.lt⟩)) ?_
 intro bp
 refine iL (some 3) rfl (.slice (bp 0).1.1 0 0) rfl fun hd eT=>?_
 change wpQuiet _ _ _ _ ([]) _
 refine wpQuiet_nil ?_
 refine⟨fun k fQ=>?_,eT _ ?_⟩
 ·exact DZ
 simp only [Act.put]
 go_simp
 refine iL (some 6) rfl (.slice (bp 3).1.1 rs.length (bp 3).1.2) rfl fun hd eT=>?_
 change wpQuiet _ _ _ _ (_ ::_ ::[]) _
 repeat (go_big_quiet_step (fail))
 refine wpQuiet_nil ?_
 refine⟨fun k fQ=>?_,eT _ ?_⟩
 ·exact acq
 simp only [Act.put]
 go_simp
 refine iL (some 7) rfl (.slice (bp 4).1.1 0 0) rfl fun hd eT=>?_
 change wpQuiet _ _ _ _ ([]) _
 refine wpQuiet_nil ?_
 refine⟨fun k fQ=>?_,eT _ ?_⟩
 ·exact DZ
 simp only [Act.put]
 go_simp
 refine iL (some 10) rfl (.slice (bp 7).1.1 qs.length (bp 7).1.2) rfl fun hd eT=>?_
 change wpQuiet _ _ _ _ (_ ::_ ::[]) _
 repeat (go_big_quiet_step (fail))
 refine wpQuiet_nil ?_
 refine⟨fun k fQ=>?_,eT _ ?_⟩
 ·exact acp
 simp only [Act.put]
 go_simp
 refine iL (some 13) rfl (.agg #[af,ae,sp,.slice (bp 10).1.1 ws.length (bp 10).1.2,.slice (bp 10).2.1 U.length (bp 10).2.2]) rfl fun hd eT=>?_
 change wpQuiet _ _ _ _ (_ ::_ ::[]) _
 repeat (go_big_quiet_step (fail))
 refine wpQuiet_nil ?_
 refine⟨fun k fQ=>?_,eT _ ?_⟩
 ·change wpList _ _ _ (_ ::[]) _ _
  go_wp2_with fail
  refine (Hc af ae sp aj c2 ws ak c3 U bf.out.h2 bf.out.h3 bf.out.n2 bf.out.n3 _ (bJ.out.r2.below ((iN.out _).1 k.holds).1) (bJ.out.hr.below ((iN.out _).1 k.holds).1)).mono ?_
  rintro e mY ⟨bg,d2,bn,d3,rfl,ds,fS⟩
  go_wp2
  exact ia ⟨((bg,d2),bn,d3),rfl,fS,ds⟩
 simp only [Act.put]
 go_simp
 refine iL (some 14) rfl (.slice (bp 11).1.1 0 0) rfl fun hd eT=>?_
 change wpQuiet _ _ _ _ ([]) _
 refine wpQuiet_nil ?_
 refine⟨fun k fQ=>?_,eT _ ?_⟩
 ·exact DZ
 simp only [Act.put]
 go_simp
 refine iL (some 17) rfl (.slice (bp 14).1.1 os.length (bp 14).1.2) rfl fun hd eT=>?_
 change wpQuiet _ _ _ _ (_ ::_ ::[]) _
 repeat (go_big_quiet_step (fail))
 refine wpQuiet_nil ?_
 refine⟨fun k fQ=>?_,eT _ ?_⟩
 ·exact aco
 simp only [Act.put]
 go_simp
 refine tW ?_
 change wpQuiet _ _ _ _ (_ ::[]) _
 repeat (go_big_quiet_step (fail))
 refine wpQuiet_nil ?_
 intro cW V W aW bI
 obtain⟨g3,e3,ns⟩ :∃g,(bp 0).1.1= some ⟨g,0,none⟩∧aV g 89 7 aJ.cells (V 3) (.slice (bp 3).1.1 rs.length (bp 3).1.2) rs:=aW.post 3 (by simp)
 obtain⟨a3,_⟩ :(bp 0).1.1= some ⟨(cW 0).heap.size,0,none⟩∧aq (V 0) (cW 0).heap.size 89 #[]:=aW.post 0 (by simp)
 have pT:(cW 0).heap.size= g3:=by rw [a3] at e3;exact congrArg Addr.block (Option.some.inj e3)
 have ch:=(ns.later (aW.later 3 (by simp))).base (B':=aF.heap.size) (by rw [← pT];exact (aW.nC 0 (by simp)).size)
 obtain⟨g7,e7,yb⟩ :∃g,(bp 4).1.1= some ⟨g,0,none⟩∧aV g 115 3 aL.cells (V 7) (.slice (bp 7).1.1 qs.length (bp 7).1.2) qs:=aW.post 7 (by simp)
 obtain⟨a7,_⟩ :(bp 4).1.1= some ⟨(cW 4).heap.size,0,none⟩∧aq (V 4) (cW 4).heap.size 115 #[]:=aW.post 4 (by simp)
 have HD:(cW 4).heap.size= g7:=by rw [a7] at e7;exact congrArg Addr.block (Option.some.inj e7)
 have cm:=(yb.later (aW.later 7 (by simp))).base (B':=aF.heap.size) (by rw [← HD];exact (aW.nC 4 (by simp)).size)
 obtain⟨g14,e14,sN⟩ :∃g,(bp 11).1.1= some ⟨g,0,none⟩∧aV g 163 3 Out.cells (V 14) (.slice (bp 14).1.1 os.length (bp 14).1.2) os:=aW.post 14 (by simp)
 obtain⟨a14,_⟩ :(bp 11).1.1= some ⟨(cW 11).heap.size,0,none⟩∧aq (V 11) (cW 11).heap.size 163 #[]:=aW.post 11 (by simp)
 have HC:(cW 11).heap.size= g14:=by rw [a14] at e14;exact congrArg Addr.block (Option.some.inj e14)
 have cv:=(sN.later (aW.later 14 (by simp))).base (B':=aF.heap.size) (by rw [← HC];exact (aW.nC 11 (by simp)).size);have Hr:jR (cW 10).heap.size (V 10) (bp 10).1.1 (bp 10).1.2 (bp 10).2.1 (bp 10).2.2 ws U:=aW.post 10 (by simp);have ds:=(Hr.later (aW.later 10 (by simp))).base (B':=aF.heap.size) (aW.nC 10 (by simp)).size;clear aD;have aK:Below aF aF W:=ah av (aW.whole 10 (by simp)).rr
 replace I:=ah I aK;replace ai:=ai.to aK;replace ad:=ad.to aK;have al:=ad.aG;clear aW Hr ns yb sN a3 a7 a14 e3 e7 e14 pT HD HC bI m0 m1 m4
 generalize bp 3= cu at *
 generalize bp 7= dI at *
 generalize bp 10= dj at *
 generalize bp 14= pO at *
 obtain⟨⟨cq,d0⟩,_,_⟩:=cu
 obtain⟨⟨cK,d1⟩,_,_⟩:=dI
 obtain⟨⟨bg,d2⟩,bn,d3⟩:=dj
 obtain⟨⟨ct,d4⟩,_,_⟩:=pO
 simp only at ch cm cv ds
 have bA:=ds.fk;have bq:=ds.fJ;clear ds
 refine ha fun gz dZ=>?_
 change wpQuiet _ _ _ _ ([]) _
 refine wpQuiet_nil ?_
 change wpList _ _ _ (_ ::[]) _ _
 have ep:=ad.jh
 go_wp2
 clear al
 refine iK 0 fun cS aC=>?_
 replace I:=aC.aE I;replace ai:=aC.dM ai;replace ad:=aC.jg ad;replace ch:=ch.bW aC (fun k az=>by first | exact fC k az | (have:=ch.lt k az;omega));replace cm:=cm.bW aC (fun k az=>by first | exact ih k az | (have:=cm.lt k az;omega));replace bA:=bA.bW aC (fun k az=>by first | exact ej k az | (have:=bA.lt k az;omega));replace bq:=bq.bW aC (fun k az=>by first | exact dK k az | (have:=bq.lt k az;omega))
 replace cv:=cv.bW aC (fun k az=>by first | exact fI k az | (have:=cv.lt k az;omega));have al:=ad.aG
 refine hn (((iN.out _).2 ⟨I,ai⟩)) (dZ _ _ ?_)
 refine mA ?_
 change wpQuiet _ _ _ _ ([]) _
 refine wpQuiet_nil ?_
 go_wp2
 exact hg ⟨cq,d0,cK,d1,bg,d2,bn,d3,ct,d4,rfl,⟨ch.base (by omega),cm.base (by omega),bA.base (by omega),bq.base (by omega),cv.base (by omega)⟩,I⟩ (by simp [results,Tryz.results106,go_sem,al])
open Go.RowKit Go.G9
theorem amf (a b v:Int) (aw:v= if a < b then a else b) (w:World):Calls Tryz.prog 131 #[a,b] w fun e ag=>e= .returned v∧ag= w:=by
 subst aw
 by_cases h:a < b
 ·rw [if_pos h]
  go_in
  go_wp2
  go_ret
  exact⟨rfl,rfl⟩
 ·rw [if_neg h]
  go_in
  go_wp2
  go_ret
  exact⟨rfl,rfl⟩
theorem aaG {p:Prop} (h:p:=by
 have ep:=ad.jn
 go_wp2
 clear aD al
 refine gR 0 fun cS aC=>?_
 replace I:=aC.aE I;replace ad:=aC.iP ad;have al:=ad.aP
 exact hg ⟨rfl,I⟩ (by simp [results,Tryz.results240,go_sem,al])):p:=h
theorem aqc (af ae sp:Int) (aj:Option Addr) (c2:Nat) (ws:List Int) (ak:Option Addr) (c3:Nat) (U:List aI) (h2:ws.length≤1048576) (h3:U.length≤1048576) (n2:aj= none→ws= []∧c2= 0) (n3:ak= none→U= []∧c3= 0) (cp:ws.length≤c2) (ed:U.length≤c3) (n:Int) (aw:oB ⟨af,ae,sp,ws,U⟩ n= false) (w:World) (bj:aH 1 bR w aj ws) (bh:aH 3 aI.cells w ak U):
 Calls Tryz.prog 240 #[.agg #[af,ae,sp,.slice aj ws c2,.slice ak U c3],n] w fun e ag=>e= .returned (.tuple #[.agg #[(0:Int),(0:Int),(0:Int),.slice none 0 0,.slice none 0 0],(0:Int),false])∧Below w w ag:=by
 have dX:=J bj;have cO:=J bh;clear bj bh n2 n3 ed
 cases hf:gp af ae sp ws U
 ·have bC:=J hf
  clear hf aw
  go_in
  go_upto_region 1 with fail
  refine fm fun aF au ai ad=>?_
  have I:=au;have aD:=ai.aP;have al:=ad.aP
  go_wp2_with fail
  refine (mR af ae sp aj ws c2 ak c3 U h2 h3 cp _ bC.out _ (dX.out.below (ah I av)) (cO.out.below (ah I av))).mono ?_
  rintro e aM ⟨rfl,aN⟩
  have ao:=be aF aN;replace I:=ah I ao;clear aD;replace ad:=ad.to ao;clear al;have al:=ad.aP;have ep:=ad.jn
  go_wp2
  clear al
  refine gR 0 fun cS aC=>?_
  replace I:=aC.aE I;replace ad:=aC.iP ad;have al:=ad.aP
  exact hg ⟨rfl,I⟩ (by simp [results,Tryz.results240,go_sem,al])
 ·cases aX:(sp == 0)
  case true=>
   have bC:=J hf;clear hf aw
   go_in
   go_upto_region 1 with fail
   refine fm fun aF au ai ad=>?_
   have I:=au;have aD:=ai.aP;have al:=ad.aP
   go_wp2_with fail
   refine (mR af ae sp aj ws c2 ak c3 U h2 h3 cp _ bC.out _ (dX.out.below (ah I av)) (cO.out.below (ah I av))).mono ?_
   rintro e aM ⟨rfl,aN⟩
   have ao:=be aF aN;replace I:=ah I ao;replace ai:=ai.to ao;clear aD;have aD:=ai.aP;replace ad:=ad.to ao;clear al;have al:=ad.aP
   exact aaG
  case false=>
   have hi:fc n 1 3600= false:=by simpa [oB,ey.ok,hf,aX] using aw
   have bC:=J hf;have hP:=J hi;clear hf aw hi
   go_in
   go_upto_region 1 with fail
   refine fm fun aF au ai ad=>?_
   have I:=au;have aD:=ai.aP;have al:=ad.aP
   go_wp2_with fail
   refine (mR af ae sp aj ws c2 ak c3 U h2 h3 cp _ bC.out _ (dX.out.below (ah I av)) (cO.out.below (ah I av))).mono ?_
   rintro e aM ⟨rfl,aN⟩
   have ao:=be aF aN;replace I:=ah I ao;replace ai:=ai.to ao;clear aD;have aD:=ai.aP;replace ad:=ad.to ao;clear al;have al:=ad.aP
   go_wp2_with fail
   refine (jF n 1 3600 _ hP.out _).mono ?_
   rintro e w0 ⟨rfl,h0⟩
   rw [h0]
   clear h0 w0
   exact aaG
theorem aqd (af ae sp:Int) (aj:Option Addr) (c2:Nat) (ws:List Int) (ak:Option Addr) (c3:Nat) (U:List aI) (h2:ws.length≤1048576) (h3:U.length≤1048576) (n2:aj= none→ws= []∧c2= 0) (n3:ak= none→U= []∧c3= 0) (cp:ws.length≤c2) (ed:U.length≤c3) (n:Int) (aw:oB ⟨af,ae,sp,ws,U⟩ n= true) (w:World) (bj:aH 1 bR w aj ws) (bh:aH 3 aI.cells w ak U):
 Calls Tryz.prog 240 #[.agg #[af,ae,sp,.slice aj ws c2,.slice ak U c3],n] w fun e ag=>∃bg d2 bn d3,e= .returned (.tuple #[.agg #[af,ae,.int .i64 (jG ⟨af,ae,sp,ws,U⟩ n).sp,.slice bg ws d2,.slice bn (jG ⟨af,ae,sp,ws,U⟩ n).U.length d3],.int .i64 (tM ⟨af,ae,sp,ws,U⟩ n),true])∧jR w.heap.size ag bg d2 bn d3 ws (jG ⟨af,ae,sp,ws,U⟩ n).U∧Below w w ag:=by
 have dX:=J bj;have cO:=J bh;have je:=J n2;have iV:=J n3;have wY:=J ed;clear bj bh n2 n3 ed
 obtain⟨gf,rf,mr,qZ⟩:=HH aw
 have aX:(sp == 0)= false:=beq_eq_false_iff_ne.2 rf;have hlen:=MX gf
 obtain⟨qk,nk,pH⟩:=Dz gf rf
 have AN:=(ln.1 gf).t;have uY:=(ln.1 gf).s
 obtain⟨au,ao,aK⟩:=vr.1 nk
 have la:=KA (xs:=U) (m:=sp);have AF:=(ln.1 gf).ord
 obtain⟨⟨dF,st,cn⟩,ld⟩ :∃x,ev U sp= x:=⟨_,rfl⟩
 simp only at pH ao aK AF
 rw [ld] at pH ao aK la
 simp only at pH ao aK la AN uY
 have OJ:=ld
 subst la
 obtain⟨u,hu⟩ :∃u,u= (if n < ae - cn then n else ae - cn):=⟨_,rfl⟩
 have Ap:tM ⟨af,ae,dF,ws,U⟩ n= u:=by simp [tM,ld,hu]
 have akb:0≤u∧u≤ae - cn:=by rw [hu];split <;> omega
 have Fz:sc ⟨af,ae,dF,ws,U⟩ n=⟨dF,st,cn + u⟩:=by simp [sc,ld,Ap]
 rw [Ap]
 have bC:Hid (gp af ae dF ws U= true):=J gf;have hP:Hid (fc n 1 3600= true):=J (rM.2 ⟨mr,qZ⟩);have mi:=J ld;have Ee:=J Fz;have LO:=J hu
 have OI:U.length≤1048574:=by simp only at hlen;omega
 have GJ:(fa U ⟨dF,st,cn + u⟩).length≤1048575:=by have:=Qe U ⟨dF,st,cn + u⟩;omega
 have GK:ev (fa U ⟨dF,st,cn + u⟩) dF=⟨dF,st,cn + u⟩:=by rw [DM dF AF,if_pos rfl]
 have Is:=J GK;have LN:=J GJ;clear gf aw qk nk au ld hlen OJ AF Fz GK GJ rf hu Ap mr qZ
 go_in
 go_upto_region 1 with fail
 refine fm fun aF au ai ad=>?_
 have I:=au;have aD:=ai.aP;have al:=ad.aP;have gy:=ad.lt
 go_wp2_with fail
 refine (mR af ae dF aj ws c2 ak c3 U h2 h3 cp _ bC.out _ (dX.out.below (ah I av)) (cO.out.below (ah I av))).mono ?_
 rintro e aM ⟨rfl,aN⟩
 have ao:=be aF aN;replace I:=ah I ao;replace ai:=ai.to ao;clear aD;have aD:=ai.aP;replace ad:=ad.to ao;clear al;have al:=ad.aP
 go_wp2_with fail
 refine (jF n 1 3600 _ hP.out _).mono ?_
 rintro e w0 ⟨rfl,h0⟩
 rw [h0]
 clear h0 w0
 go_wp2_with fail
 refine (vk af ae dF aj ws.length c2 ak c3 U h3 dF ⟨dF,st,cn⟩ mi.out _ (cO.out.below (ah I av))).mono ?_
 rintro e bB ⟨rfl,bG⟩
 have aK:=be aM bG;replace I:=ah I aK;replace ai:=ai.to aK;clear aD;have aD:=ai.aP;replace ad:=ad.to aK;clear al;have al:=ad.aP;have KH:=ao.size;have Qq:=aK.size
 have sF:IntKind.i64.wrap (ae - cn)= ae - cn:=by rw [IntKind.wrap_i64];omega
 have Wk:IntKind.i64.wrap (cn + u)= cn + u:=by rw [IntKind.wrap_i64];omega
 have ZQ:=I.size
 go_upto_region 4 with fail
 refine cR fun aaf bS bN=>?_
 replace I:=ah I bS;have cf:=bN.cC;clear aD;replace ai:=ai.to bS;have aD:=ai.aP;clear al;replace ad:=ad.to bS;have al:=ad.aP
 go_wp2_with fail
 refine (amf n (ae - cn) u LO.out _).mono ?_
 rintro e w0 ⟨rfl,h0⟩
 rw [h0]
 have FD:=bN.frozen 2
 go_upto_region 6 with fail
 clear aD al cf
 refine kN 2 fun kb lz=>?_
 replace I:=lz.aE I;replace ai:=lz.dM ai;replace ad:=lz.dM ad;replace bN:=lz.PI bN;have aD:=ai.aP;have al:=ad.aP;have cf:=bN.cC;clear FD;have ajQ:=bN.lt
 go_wp2_with fail
 refine (Xg af ae dF aj c2 ws ak c3 U h2 h3 je.out iV.out wY.out dF st (cn + u) _ (dX.out.below (ah I av)) (cO.out.below (ah I av))).mono ?_
 rintro e dc ⟨bg,d2,bn,d3,rfl,ds,ei⟩
 have cx:=be kb ei;replace I:=ah I cx;replace ai:=ai.to cx;clear aD;have aD:=ai.aP;replace ad:=ad.to cx;clear al;have al:=ad.aP;replace bN:=bN.to cx;clear cf;have cf:=bN.cC;have vt:=I.size;have ZR:=cx.size
 go_upto_region 7 with fail
 have fj:=ds.later (bZ dc (.cells #[af,ae,dF,.slice bg ws d2,.slice bn (fa U ⟨dF,st,cn + u⟩).length d3] 41));clear ds;have eD:Below dc dc (World.alloc dc (.cells #[af,ae,dF,.slice bg ws d2,.slice bn (fa U ⟨dF,st,cn + u⟩).length d3] 41)):=bZ dc _
 have aQ:aq (World.alloc dc (.cells #[af,ae,dF,.slice bg ws d2,.slice bn (fa U ⟨dF,st,cn + u⟩).length d3] 41)) (dc.heap.size) 41 #[af,ae,dF,.slice bg ws d2,.slice bn (fa U ⟨dF,st,cn + u⟩).length d3]:=by repeat (first | exact aq.new _ _ _ | exact aq.fu _ _ _ _ | exact aq.fx _ _ _ _ _ | exact aq.gb _ _ _ _ _ _ | refine aq.alloc ?_ _)
 generalize World.alloc dc (.cells #[af,ae,dF,.slice bg ws d2,.slice bn (fa U ⟨dF,st,cn + u⟩).length d3] 41)= arB at *
 replace I:=ah I eD;have bF:=aQ.aP;clear aD;replace ai:=ai.to eD;have aD:=ai.aP;clear al;replace ad:=ad.to eD;have al:=ad.aP;clear cf;replace bN:=bN.to eD;have cf:=bN.cC;have lK:=aQ.lt;have bA:=fj.fk;have bq:=fj.fJ;clear fj
 by_cases uS:cn + u= ae
 ·have xA:(cn + u == ae)= true:=beq_iff_eq.2 uS
  have e1:(jG ⟨af,ae,dF,ws,U⟩ n).sp= 0∧(jG ⟨af,ae,dF,ws,U⟩ n).U= fa (fa U ⟨dF,st,cn + u⟩) ⟨dF,st + 1,cn + u⟩:=by
   exact acN
  have oW:=J e1;clear e1 uS
  go_upto_region 8 with fail
  have hx:=J bA;have ka:=J bq
  go_wp2_with fail
  refine (Xi af ae dF bg d2 ws bn d3 (fa U ⟨dF,st,cn + u⟩) h2 (by have:=LN.out;omega) hx.out.mS ka.out.mS (rU hx.out fZ) (rU ka.out ij) st (cn + u) Is.out (by omega) (by omega) _ (hx.out.dE fZ) (ka.out.dE ij)).mono ?_
  rintro e zG ⟨de,e2,df,e3,rfl,ds,uL⟩
  have rb:=be arB uL;replace I:=ah I rb;clear aD;replace ad:=ad.to rb;clear al;have al:=ad.aP;clear cf;replace aQ:=aQ.to rb;clear bF;have bF:=aQ.aP;have uu:=ds.fk;have uv:=ds.fJ;have MS:=aQ.jn;have Kd:=uu.cA aQ;have Ke:=uv.cA aQ
  go_upto_region 9 with fail
  clear al bF
  refine gR 0 fun SE pv=>?_
  replace I:=pv.aE I;replace ad:=pv.dM ad;replace aQ:=pv.iP aQ;replace uu:=uu.bW pv Kd;replace uv:=uv.bW pv Ke;have al:=ad.aP;have bF:=aQ.aP;clear Kd Ke MS;have ep:=ad.jn;have Kd:=uu.cA ad;have Ke:=uv.cA ad
  go_wp2
  clear al bF
  refine gR 0 fun cS aC=>?_
  replace I:=aC.aE I;replace ad:=aC.iP ad;replace uu:=uu.bW aC Kd;replace uv:=uv.bW aC Ke;have al:=ad.aP
  refine bodyPost_ret (v:= .tuple #[.agg #[af,ae,(0:Int),.slice de ws e2,.slice df (fa (fa U ⟨dF,st,cn + u⟩) ⟨dF,st + 1,cn + u⟩).length e3],.int .i64 u,true]) (by simp [results,Tryz.results240,go_sem,al]) rfl ?_
  rw [oW.out.1,oW.out.2]
  exact⟨de,e2,df,e3,rfl,⟨uu.base (by omega),uv.base (by omega),uu.apart uv (by decide)⟩,I⟩
 ·have xA:(cn + u == ae)= false:=beq_eq_false_iff_ne.2 uS
  have e1:(jG ⟨af,ae,dF,ws,U⟩ n).sp= dF∧(jG ⟨af,ae,dF,ws,U⟩ n).U= fa U ⟨dF,st,cn + u⟩:=by
   exact aaP
  have oW:=J e1;clear e1 uS;have ep:=ad.jn;have ej:=bA.cA ad;have dK:=bq.cA ad
  go_wp2
  clear aD al cf bF
  refine gR 0 fun cS aC=>?_
  replace I:=aC.aE I;replace ad:=aC.iP ad;replace bA:=bA.bW aC ej;replace bq:=bq.bW aC dK;have al:=ad.aP
  refine bodyPost_ret (v:= .tuple #[.agg #[af,ae,dF,.slice bg ws d2,.slice bn (fa U ⟨dF,st,cn + u⟩).length d3],.int .i64 u,true]) (by simp [results,Tryz.results240,go_sem,al]) rfl ?_
  rw [oW.out.1,oW.out.2]
  exact abO
open Go.RowKit Go.G9
theorem aam (an ar aj ak aA:Option Addr) (c0 c1 c2 c3 c4:Nat) (rs:List aJ) (qs:List aL) (af ae sp:Int) (ws:List Int) (U:List aI) (os:List Out) (Z:eC an ar aj ak aA c0 c1 c2 c3 c4 rs qs ws U os) (EE:Option Addr) (EG EF:Nat) (w:World) (R:ea w an ar aj ak aA rs qs ws U os):
 Calls Tryz.prog 257 #[.agg #[.slice an rs c0,.slice ar qs c1,af,ae,sp,.slice aj ws c2,.slice ak U c3,.slice aA os c4],.slice EE EG EF] w fun e ag=>∃cq d0 ct d4,e= .returned (.agg #[.slice cq rs d0,.slice EE EG EF,af,ae,(0:Int),.slice none 0 0,.slice none 0 0,.slice ct os d4])∧aV w 89 7 aJ.cells ag (.slice cq rs d0) rs∧aV w 163 3 Out.cells ag (.slice ct os d4) os∧Below w w ag:=by
 have bJ:=J R;have bf:=J Z;clear R Z
 go_in
 go_upto_region 1 with fail
 refine fm fun aF au ai ad=>?_
 have I:=au;have aD:=ai.aG;have al:=ad.aG;have gy:=ad.lt
 go_wp2_with fail
 refine (Kg an ar aj ak aA c0 c1 c2 c3 c4 rs qs af ae sp ws U os bf.out _ (bJ.out.below (ah I av))).mono ?_
 rintro e aM ⟨cq,d0,cK,d1,bg,d2,bn,d3,ct,d4,rfl,ds,aN⟩
 have ao:=be aF aN;replace I:=ah I ao;replace ai:=ai.to ao;clear aD;have aD:=ai.aG;replace ad:=ad.to ao;clear al;have al:=ad.aG;have wL:=ao.size;have vt:=I.size
 go_upto_region 2 with fail
 have sj:=ds.later (bZ aM (.cells #[.slice cq rs d0,.slice cK qs d1,af,ae,sp,.slice bg ws d2,.slice bn U d3,.slice ct os d4] 44));clear ds;have aK:Below aM aM (World.alloc aM (.cells #[.slice cq rs d0,.slice cK qs d1,af,ae,sp,.slice bg ws d2,.slice bn U d3,.slice ct os d4] 44)):=bZ aM _
 have aQ:aq (World.alloc aM (.cells #[.slice cq rs d0,.slice cK qs d1,af,ae,sp,.slice bg ws d2,.slice bn U d3,.slice ct os d4] 44)) (aM.heap.size) 44 #[.slice cq rs d0,.slice cK qs d1,af,ae,sp,.slice bg ws d2,.slice bn U d3,.slice ct os d4]:=by repeat (first | exact aq.new _ _ _ | exact aq.fu _ _ _ _ | exact aq.fx _ _ _ _ _ | exact aq.gb _ _ _ _ _ _ | refine aq.alloc ?_ _)
 generalize World.alloc aM (.cells #[.slice cq rs d0,.slice cK qs d1,af,ae,sp,.slice bg ws d2,.slice bn U d3,.slice ct os d4] 44)= ca at *
 replace I:=ah I aK;have bF:=aQ.aG;clear aD;replace ai:=ai.to aK;have aD:=ai.aG;clear al;replace ad:=ad.to aK;have al:=ad.aG;have ch:=sj.kJ;have cv:=sj.mc;clear sj;have Aq:=aQ.frozen 1
 go_upto_region 3 with fail
 have fC:=ch.cA aQ;have fI:=cv.cA aQ;clear aD al bF
 refine kN 1 fun ux gg=>?_
 replace I:=gg.aE I;replace ai:=gg.dM ai;replace ad:=gg.dM ad;replace aQ:=gg.Hs aQ;replace ch:=ch.bW gg fC;replace cv:=cv.bW gg fI;have aD:=ai.aG;have al:=ad.aG;have bF:=aQ.aG
 clear Aq;have qO:=aQ.frozen 2;have sv:=aQ.frozen 3;have xn:=aQ.frozen 4;have xo:=aQ.frozen 5;have xp:=aQ.frozen 6
 go_upto_region 4 with fail
 clear aD al bF
 refine gR 2 fun mo eN=>?_
 replace I:=eN.aE I;replace ad:=eN.dM ad;replace aQ:=eN.DC aQ;replace ch:=ch.bW eN (fun k az=>by first | exact fC k az | (have:=ch.lt k az;omega));replace cv:=cv.bW eN (fun k az=>by first | exact fI k az | (have:=cv.lt k az;omega))
 have al:=ad.aG;have bF:=aQ.aG;clear qO sv xn xo xp fC fI;have ep:=ad.jh;have fC:=ch.cA ad;have fI:=cv.cA ad
 go_wp2
 clear al bF
 refine iK 0 fun cS aC=>?_
 replace I:=aC.aE I;replace ad:=aC.jg ad;replace ch:=ch.bW aC fC;replace cv:=cv.bW aC fI;have al:=ad.aG
 exact hg ⟨cq,d0,ct,d4,rfl,ch.base (by omega),cv.base (by omega),I⟩ (by simp [results,Tryz.results257,go_sem,al])
theorem Xb (an ar aj ak aA:Option Addr) (c0 c1 c2 c3 c4:Nat) (rs:List aJ) (qs:List aL) (af ae sp:Int) (ws:List Int) (U:List aI) (os:List Out) (Z:eC an ar aj ak aA c0 c1 c2 c3 c4 rs qs ws U os) (EE:Option Addr) (EG EF:Nat) (w:World) (R:ea w an ar aj ak aA rs qs ws U os):
 Calls Tryz.prog 236 #[.agg #[.slice an rs c0,.slice ar qs c1,af,ae,sp,.slice aj ws c2,.slice ak U c3,.slice aA os c4],.slice EE EG EF] w fun e ag=>∃cq d0 ct d4,e= .returned (.agg #[.slice cq rs d0,.slice EE EG EF,af,ae,(0:Int),.slice none 0 0,.slice none 0 0,.slice ct os d4])∧aV w 89 7 aJ.cells ag (.slice cq rs d0) rs∧aV w 163 3 Out.cells ag (.slice ct os d4) os∧Below w w ag:=by
 have bJ:=J R;have bf:=J Z;clear R Z
 go_in
 go_upto_region 1 with fail
 refine fm fun aF au ai ad=>?_
 have I:=au;have aD:=ai.aG;have al:=ad.aG;have gy:=ad.lt
 go_wp2_with fail
 refine (Ha an ar aj ak aA c0 c1 c2 c3 c4 rs qs af ae sp ws U os bf.out _ (bJ.out.below (ah I av))).mono ?_
 rintro e aM ⟨cq,d0,cK,d1,bg,d2,bn,d3,ct,d4,rfl,ds,aN⟩
 have ao:=be aF aN;replace I:=ah I ao;replace ai:=ai.to ao;clear aD;have aD:=ai.aG;replace ad:=ad.to ao;clear al;have al:=ad.aG;have wL:=ao.size;have vt:=I.size
 go_upto_region 2 with fail
 have sj:=ds.later (bZ aM (.cells #[.slice cq rs d0,.slice cK qs d1,af,ae,sp,.slice bg ws d2,.slice bn U d3,.slice ct os d4] 44));clear ds;have aK:Below aM aM (World.alloc aM (.cells #[.slice cq rs d0,.slice cK qs d1,af,ae,sp,.slice bg ws d2,.slice bn U d3,.slice ct os d4] 44)):=bZ aM _
 have aQ:aq (World.alloc aM (.cells #[.slice cq rs d0,.slice cK qs d1,af,ae,sp,.slice bg ws d2,.slice bn U d3,.slice ct os d4] 44)) (aM.heap.size) 44 #[.slice cq rs d0,.slice cK qs d1,af,ae,sp,.slice bg ws d2,.slice bn U d3,.slice ct os d4]:=by repeat (first | exact aq.new _ _ _ | exact aq.fu _ _ _ _ | exact aq.fx _ _ _ _ _ | exact aq.gb _ _ _ _ _ _ | refine aq.alloc ?_ _)
 generalize World.alloc aM (.cells #[.slice cq rs d0,.slice cK qs d1,af,ae,sp,.slice bg ws d2,.slice bn U d3,.slice ct os d4] 44)= ca at *
 replace I:=ah I aK;have bF:=aQ.aG;clear aD;replace ai:=ai.to aK;have aD:=ai.aG;clear al;replace ad:=ad.to aK;have al:=ad.aG;have ch:=sj.kJ;have cv:=sj.mc;clear sj;have Aq:=aQ.frozen 1
 go_upto_region 3 with fail
 have fC:=ch.cA aQ;have fI:=cv.cA aQ;clear aD al bF
 refine kN 1 fun ux gg=>?_
 replace I:=gg.aE I;replace ai:=gg.dM ai;replace ad:=gg.dM ad;replace aQ:=gg.Hs aQ;replace ch:=ch.bW gg fC;replace cv:=cv.bW gg fI;have aD:=ai.aG;have al:=ad.aG;have bF:=aQ.aG
 clear Aq;have qO:=aQ.frozen 2;have sv:=aQ.frozen 3;have xn:=aQ.frozen 4;have xo:=aQ.frozen 5;have xp:=aQ.frozen 6
 go_upto_region 4 with fail
 clear aD al bF
 refine gR 2 fun mo eN=>?_
 replace I:=eN.aE I;replace ad:=eN.dM ad;replace aQ:=eN.DC aQ;replace ch:=ch.bW eN (fun k az=>by first | exact fC k az | (have:=ch.lt k az;omega));replace cv:=cv.bW eN (fun k az=>by first | exact fI k az | (have:=cv.lt k az;omega))
 have al:=ad.aG;have bF:=aQ.aG;clear qO sv xn xo xp fC fI;have ep:=ad.jh;have fC:=ch.cA ad;have fI:=cv.cA ad
 go_wp2
 clear al bF
 refine iK 0 fun cS aC=>?_
 replace I:=aC.aE I;replace ad:=aC.jg ad;replace ch:=ch.bW aC fC;replace cv:=cv.bW aC fI;have al:=ad.aG
 exact hg ⟨cq,d0,ct,d4,rfl,ch.base (by omega),cv.base (by omega),I⟩ (by simp [results,Tryz.results236,go_sem,al])
open Go.RowKit Go.G9
theorem apd (af ae sp:Int) (aj:Option Addr) (c2:Nat) (ws:List Int) (ak:Option Addr) (c3:Nat) (U:List aI) (h2:ws.length≤1048576) (h3:U.length≤1048576) (n2:aj= none→ws= []∧c2= 0) (n3:ak= none→U= []∧c3= 0) (cp:ws.length≤c2) (ed:U.length≤c3) (mem:Int) (dv:Int) (bV:List Int) (bY:List aI) (aw:ob ⟨af,ae,sp,ws,U⟩ mem= true) (he:qF ⟨af,ae,sp,ws,U⟩ mem=⟨af,ae,dv,bV,bY⟩) (w:World) (bj:aH 1 bR w aj ws) (bh:aH 3 aI.cells w ak U):
 Calls Tryz.prog 238 #[.agg #[af,ae,sp,.slice aj ws c2,.slice ak U c3],mem] w fun e ag=>∃bg d2 bn d3,e= .returned (.tuple #[.agg #[af,ae,dv,.slice bg bV d2,.slice bn bY d3],true])∧jR w.heap.size ag bg d2 bn d3 bV bY∧Below w w ag:=by
 have e1:=congrArg ey.sp he;have e3:=congrArg ey.U he;have e2:=congrArg ey.ws he
 simp only [qF,rR] at e1 e2 e3
 subst e1;subst e3;subst e2
 exact apl af ae sp aj c2 ws ak c3 U h2 h3 n2 n3 cp ed mem aw w bj bh
theorem ape (af ae sp:Int) (aj:Option Addr) (c2:Nat) (ws:List Int) (ak:Option Addr) (c3:Nat) (U:List aI) (h2:ws.length≤1048576) (h3:U.length≤1048576) (n2:aj= none→ws= []∧c2= 0) (n3:ak= none→U= []∧c3= 0) (cp:ws.length≤c2) (ed:U.length≤c3) (q:Int) (aZ:sM ⟨af,ae,sp,ws,U⟩ =some q) (dv:Int) (bV:List Int) (bY:List aI) (aw:mT ⟨af,ae,sp,ws,U⟩ =true) (he:rR ⟨af,ae,sp,ws,U⟩ q=⟨af,ae,dv,bV,bY⟩) (w:World) (bj:aH 1 bR w aj ws) (bh:aH 3 aI.cells w ak U):
 Calls Tryz.prog 239 #[.agg #[af,ae,sp,.slice aj ws c2,.slice ak U c3]] w fun e ag=>∃bg d2 bn d3,e= .returned (.tuple #[.agg #[af,ae,dv,.slice bg bV d2,.slice bn bY d3],q,true])∧jR w.heap.size ag bg d2 bn d3 bV bY∧Below w w ag:=by
 have e1:=congrArg ey.sp he;have e3:=congrArg ey.U he;have e2:=congrArg ey.ws he
 simp only [qF,rR] at e1 e2 e3
 subst e1;subst e3;subst e2
 exact apX af ae sp aj c2 ws ak c3 U h2 h3 n2 n3 cp ed aw q aZ w bj bh
theorem abP {p:Prop} (h:p:=by
 have e4:(jG ⟨af,ae,sp,ws,U⟩ val).ws= bV:=by rw [he]
 rw [← e4];unfold jG;split <;> rfl):p:=h
theorem apf (af ae sp:Int) (aj:Option Addr) (c2:Nat) (ws:List Int) (ak:Option Addr) (c3:Nat) (U:List aI) (h2:ws.length≤1048576) (h3:U.length≤1048576) (n2:aj= none→ws= []∧c2= 0) (n3:ak= none→U= []∧c3= 0) (cp:ws.length≤c2) (ed:U.length≤c3) (val:Int) (dv:Int) (bV:List Int) (bY:List aI) (aw:oB ⟨af,ae,sp,ws,U⟩ val= true) (he:jG ⟨af,ae,sp,ws,U⟩ val=⟨af,ae,dv,bV,bY⟩) (w:World) (bj:aH 1 bR w aj ws) (bh:aH 3 aI.cells w ak U):
 Calls Tryz.prog 240 #[.agg #[af,ae,sp,.slice aj ws c2,.slice ak U c3],val] w fun e ag=>∃bg d2 bn d3,e= .returned (.tuple #[.agg #[af,ae,dv,.slice bg bV d2,.slice bn bY d3],.int .i64 (tM ⟨af,ae,sp,ws,U⟩ val),true])∧jR w.heap.size ag bg d2 bn d3 bV bY∧Below w w ag:=by
 have e1:(jG ⟨af,ae,sp,ws,U⟩ val).sp= dv:=by rw [he]
 have e3:(jG ⟨af,ae,sp,ws,U⟩ val).U= bY:=by rw [he]
 have e2:ws= bV:=by
  exact abP
 subst e1;subst e3;subst e2
 exact aqd af ae sp aj c2 ws ak c3 U h2 h3 n2 n3 cp ed val aw w bj bh
theorem apg (af ae sp:Int) (aj:Option Addr) (c2:Nat) (ws:List Int) (ak:Option Addr) (c3:Nat) (U:List aI) (h2:ws.length≤1048576) (h3:U.length≤1048576) (n2:aj= none→ws= []∧c2= 0) (n3:ak= none→U= []∧c3= 0) (cp:ws.length≤c2) (ed:U.length≤c3) (dv:Int) (bV:List Int) (bY:List aI) (aw:mB ⟨af,ae,sp,ws,U⟩ =true) (he:mZ ⟨af,ae,sp,ws,U⟩ =⟨af,ae,dv,bV,bY⟩) (w:World) (bj:aH 1 bR w aj ws) (bh:aH 3 aI.cells w ak U):
 Calls Tryz.prog 241 #[.agg #[af,ae,sp,.slice aj ws c2,.slice ak U c3]] w fun e ag=>∃bg d2 bn d3,e= .returned (.tuple #[.agg #[af,ae,dv,.slice bg bV d2,.slice bn bY d3],true])∧jR w.heap.size ag bg d2 bn d3 bV bY∧Below w w ag:=by
 have e1:(0:Int)= dv:=congrArg ey.sp he
 have e3:(mZ ⟨af,ae,sp,ws,U⟩).U= bY:=by rw [he]
 have e2:ws= bV:=congrArg ey.ws he
 subst e1;subst e3;subst e2
 exact aqk af ae sp aj c2 ws ak c3 U h2 h3 n2 n3 cp ed aw w bj bh
theorem apw (an ar aj ak aA:Option Addr) (c0 c1 c2 c3 c4:Nat) (rs:List aJ) (qs:List aL) (af ae sp:Int) (ws:List Int) (U:List aI) (os:List Out) (Z:eC an ar aj ak aA c0 c1 c2 c3 c4 rs qs ws U os) (mem val yes no bx:Int) (dv:Int) (bV:List Int) (bY:List aI) (aw:ob ⟨af,ae,sp,ws,U⟩ mem= true) (he:qF ⟨af,ae,sp,ws,U⟩ mem=⟨af,ae,dv,bV,bY⟩) (aO:dD rs qs= true) (bO:ho rs qs= true) (w:World) (R:ea w an ar aj ak aA rs qs ws U os):
 Calls Tryz.prog 235 #[.agg #[.slice an rs c0,.slice ar qs c1,af,ae,sp,.slice aj ws c2,.slice ak U c3,.slice aA os c4],.agg #[(3:Int),mem,val,yes,no,bx]] w fun e ag=>∃cI e0 cF e1 bg d2 bn d3 cJ e4,e= .returned (.tuple #[.agg #[.slice cI rs e0,.slice cF qs e1,af,ae,dv,.slice bg bV d2,.slice bn bY d3,.slice cJ os e4],true])∧gA w ag cI e0 cF e1 bg d2 bn d3 cJ e4 rs qs bV bY os∧Below w w ag:=by
 have bJ:=J R;have bf:=J Z;have eg:=J aO;have fG:=J bO;have bC:=J aw;have cX:=J he;clear R Z aO bO aw he
 go_in
 go_upto_region 1 with fail
 refine fr fun aF au ai aR ad=>?_
 have I:=au;have aD:=ai.aG;have a':=aR.da;have al:=ad.aG;have gy:=ad.lt
 go_upto_region 2 with fail
 refine cR fun kP ao bT=>?_
 replace I:=ah I ao;have bo:=bT.aP;clear aD;replace ai:=ai.to ao;have aD:=ai.aG;clear a';replace aR:=aR.to ao;have a':=aR.da;clear al;replace ad:=ad.to ao;have al:=ad.aG;have qW:=bT.lt
 go_wp2_with fail
 refine (AV rs qs an ar c0 c1 bf.out.h0 bf.out.h1 eg.out true fG.out _ (bJ.out.fF.below (ah I av)) (bJ.out.dJ.below (ah I av))).mono ?_
 rintro e bB ⟨rfl,bG⟩
 have aK:=be kP bG;replace I:=ah I aK;replace ai:=ai.to aK;clear aD;have aD:=ai.aG;replace aR:=aR.to aK;clear a';have a':=aR.da;replace ad:=ad.to aK;clear al;have al:=ad.aG;replace bT:=bT.to aK;clear bo;have bo:=bT.aP;have ZP:=aK.size
 go_wp2_with fail
 refine (apd af ae sp aj c2 ws ak c3 U bf.out.h2 bf.out.h3 bf.out.n2 bf.out.n3 bf.out.cp bf.out.ed mem dv bV bY bC.out cX.out _ (bJ.out.r2.below (ah I av)) (bJ.out.hr.below (ah I av))).mono ?_
 rintro e ca ⟨bg,d2,bn,d3,rfl,ds,cU⟩
 have bS:=be bB cU;replace I:=ah I bS;replace ai:=ai.to bS;clear aD;have aD:=ai.aG;clear a';replace ad:=ad.to bS;clear al;have al:=ad.aG;replace bT:=bT.to bS;clear bo;have bo:=bT.aP;have bA:=ds.fk;have bq:=ds.fJ;clear ds;have su:=bT.jn;have ej:=bA.cA bT;have dK:=bq.cA bT
 go_upto_region 12 with fail
 clear aD al bo
 refine gR 0 fun nx eS=>?_
 replace I:=eS.aE I;replace ai:=eS.dM ai;replace ad:=eS.dM ad;replace bT:=eS.iP bT;replace bA:=bA.bW eS ej;replace bq:=bq.bW eS dK;have aD:=ai.aG;have al:=ad.aG;have bo:=bT.aP;clear ej dK su;have gw:=bT.lt
 go_wp2_with fail
 refine (Ha an ar aj ak aA c0 c1 c2 c3 c4 rs qs af ae sp ws U os bf.out _ (bJ.out.below (ah I av))).mono ?_
 rintro e dc ⟨cI,e0,cF,e1,de,e2,df,e3,cJ,e4,rfl,ds,ei⟩
 have cx:=be nx ei;replace I:=ah I cx;replace bA:=bA.later cx;replace bq:=bq.later cx;clear aD;replace ad:=ad.to cx;clear al;have al:=ad.aG;replace bT:=bT.to cx;clear bo;have bo:=bT.aP;have aqJ:=cx.size;have KF:=I.size
 go_upto_region 15 with fail
 have lD:=ds.later (bZ dc (.cells #[.slice cI rs e0,.slice cF qs e1,af,ae,sp,.slice de ws e2,.slice df U e3,.slice cJ os e4] 44));have eD:Below dc dc (World.alloc dc (.cells #[.slice cI rs e0,.slice cF qs e1,af,ae,sp,.slice de ws e2,.slice df U e3,.slice cJ os e4] 44)):=bZ dc _
 have aQ:aq (World.alloc dc (.cells #[.slice cI rs e0,.slice cF qs e1,af,ae,sp,.slice de ws e2,.slice df U e3,.slice cJ os e4] 44)) (dc.heap.size) 44 #[.slice cI rs e0,.slice cF qs e1,af,ae,sp,.slice de ws e2,.slice df U e3,.slice cJ os e4]:=by repeat (first | exact aq.new _ _ _ | exact aq.fu _ _ _ _ | exact aq.fx _ _ _ _ _ | exact aq.gb _ _ _ _ _ _ | refine aq.alloc ?_ _)
 replace bA:=bA.later eD;replace bq:=bq.later eD
 generalize World.alloc dc (.cells #[.slice cI rs e0,.slice cF qs e1,af,ae,sp,.slice de ws e2,.slice df U e3,.slice cJ os e4] 44)= tS at *
 replace I:=ah I eD;have bF:=aQ.aG;clear al;replace ad:=ad.to eD;have al:=ad.aG;clear bo;replace bT:=bT.to eD;have bo:=bT.aP;have ch:=lD.kJ;have cm:=lD.hU;have cv:=lD.mc;clear lD;have qO:=aQ.frozen 2;have sv:=aQ.frozen 3;have xn:=aQ.frozen 4;have xo:=aQ.frozen 5;have xp:=aQ.frozen 6;have fC:=ch.cA aQ;have ih:=cm.cA aQ;have ej:=bA.cA aQ
 have dK:=bq.cA aQ;have fI:=cv.cA aQ
 go_upto_region 16 with fail
 clear al bo bF
 refine gR 2 fun mo eN=>?_
 replace I:=eN.aE I;replace ad:=eN.dM ad;replace aQ:=eN.DC aQ;replace bA:=bA.bW eN ej;replace bq:=bq.bW eN dK;replace ch:=ch.bW eN fC;replace cm:=cm.bW eN ih
 replace cv:=cv.bW eN fI;have al:=ad.aG;have bF:=aQ.aG;clear fC ih ej dK fI qO sv xn xo xp;have fC:=ch.cA ad;have ih:=cm.cA ad;have ej:=bA.cA ad;have dK:=bq.cA ad;have fI:=cv.cA ad;have ep:=ad.jh
 go_wp2
 clear al bF
 refine iK 0 fun cS aC=>?_
 replace I:=aC.aE I;replace ad:=aC.jg ad;replace bA:=bA.bW aC ej;replace bq:=bq.bW aC dK;replace ch:=ch.bW aC fC;replace cm:=cm.bW aC ih;replace cv:=cv.bW aC fI;have al:=ad.aG
 exact hg ⟨cI,e0,cF,e1,bg,d2,bn,d3,cJ,e4,rfl,⟨ch.base (by omega),cm.base (by omega),bA.base (by omega),bq.base (by omega),cv.base (by omega)⟩,I⟩ (by simp [results,Tryz.results235,go_sem,al])
theorem Ra {p:Prop} (h:p:=by
 rintro e bB ⟨bg,d2,bn,d3,rfl,ds,bG⟩
 have aK:=be kP bG;replace I:=ah I aK;replace ai:=ai.to aK;clear aD;have aD:=ai.aG;clear a';replace ad:=ad.to aK;clear al;have al:=ad.aG;replace bT:=bT.to aK;clear bo;have bo:=bT.aP;have bA:=ds.fk;have bq:=ds.fJ;clear ds;have su:=bT.jn;have ej:=bA.cA bT;have dK:=bq.cA bT
 go_upto_region 12 with fail
 clear aD al bo
 refine gR 0 fun nx eS=>?_
 replace I:=eS.aE I;replace ai:=eS.dM ai;replace ad:=eS.dM ad;replace bT:=eS.iP bT;replace bA:=bA.bW eS ej;replace bq:=bq.bW eS dK;have aD:=ai.aG;have al:=ad.aG;have bo:=bT.aP;clear ej dK su;have gw:=bT.lt
 go_wp2_with fail
 refine (Ha an ar aj ak aA c0 c1 c2 c3 c4 rs qs af ae sp ws U os bf.out _ (bJ.out.below (ah I av))).mono ?_
 rintro e ca ⟨cI,e0,cF,e1,de,e2,df,e3,cJ,e4,rfl,ds,cU⟩
 have bS:=be nx cU;replace I:=ah I bS;replace bA:=bA.later bS;replace bq:=bq.later bS;clear aD;replace ad:=ad.to bS;clear al;have al:=ad.aG;replace bT:=bT.to bS;clear bo;have bo:=bT.aP;have aqI:=bS.size;have KF:=I.size
 go_upto_region 15 with fail
 have lD:=ds.later (bZ ca (.cells #[.slice cI rs e0,.slice cF qs e1,af,ae,sp,.slice de ws e2,.slice df U e3,.slice cJ os e4] 44));have cx:Below ca ca (World.alloc ca (.cells #[.slice cI rs e0,.slice cF qs e1,af,ae,sp,.slice de ws e2,.slice df U e3,.slice cJ os e4] 44)):=bZ ca _
 have aQ:aq (World.alloc ca (.cells #[.slice cI rs e0,.slice cF qs e1,af,ae,sp,.slice de ws e2,.slice df U e3,.slice cJ os e4] 44)) (ca.heap.size) 44 #[.slice cI rs e0,.slice cF qs e1,af,ae,sp,.slice de ws e2,.slice df U e3,.slice cJ os e4]:=by repeat (first | exact aq.new _ _ _ | exact aq.fu _ _ _ _ | exact aq.fx _ _ _ _ _ | exact aq.gb _ _ _ _ _ _ | refine aq.alloc ?_ _)
 replace bA:=bA.later cx;replace bq:=bq.later cx
 generalize World.alloc ca (.cells #[.slice cI rs e0,.slice cF qs e1,af,ae,sp,.slice de ws e2,.slice df U e3,.slice cJ os e4] 44)= tS at *
 replace I:=ah I cx;have bF:=aQ.aG;clear al;replace ad:=ad.to cx;have al:=ad.aG;clear bo;replace bT:=bT.to cx;have bo:=bT.aP;have ch:=lD.kJ;have cm:=lD.hU;have cv:=lD.mc;clear lD;have qO:=aQ.frozen 2;have sv:=aQ.frozen 3;have xn:=aQ.frozen 4;have xo:=aQ.frozen 5;have xp:=aQ.frozen 6;have fC:=ch.cA aQ;have ih:=cm.cA aQ;have ej:=bA.cA aQ
 have dK:=bq.cA aQ;have fI:=cv.cA aQ
 go_upto_region 16 with fail
 clear al bo bF
 refine gR 2 fun mo eN=>?_
 replace I:=eN.aE I;replace ad:=eN.dM ad;replace aQ:=eN.DC aQ;replace bA:=bA.bW eN ej;replace bq:=bq.bW eN dK;replace ch:=ch.bW eN fC;replace cm:=cm.bW eN ih
 replace cv:=cv.bW eN fI;have al:=ad.aG;have bF:=aQ.aG;clear fC ih ej dK fI qO sv xn xo xp;have fC:=ch.cA ad;have ih:=cm.cA ad;have ej:=bA.cA ad;have dK:=bq.cA ad;have fI:=cv.cA ad;have ep:=ad.jh
 go_wp2
 clear al bF
 refine iK 0 fun cS aC=>?_
 replace I:=aC.aE I;replace ad:=aC.jg ad;replace bA:=bA.bW aC ej;replace bq:=bq.bW aC dK;replace ch:=ch.bW aC fC;replace cm:=cm.bW aC ih;replace cv:=cv.bW aC fI;have al:=ad.aG
 exact hg ⟨cI,e0,cF,e1,bg,d2,bn,d3,cJ,e4,rfl,⟨ch.base (by omega),cm.base (by omega),bA.base (by omega),bq.base (by omega),cv.base (by omega)⟩,I⟩ (by simp [results,Tryz.results235,go_sem,al])):p:=h
theorem apy (an ar aj ak aA:Option Addr) (c0 c1 c2 c3 c4:Nat) (rs:List aJ) (qs:List aL) (af ae sp:Int) (ws:List Int) (U:List aI) (os:List Out) (Z:eC an ar aj ak aA c0 c1 c2 c3 c4 rs qs ws U os) (mem val yes no bx:Int) (q:Int) (aZ:sM ⟨af,ae,sp,ws,U⟩ =some q) (dv:Int) (bV:List Int) (bY:List aI) (aw:mT ⟨af,ae,sp,ws,U⟩ =true) (he:rR ⟨af,ae,sp,ws,U⟩ q=⟨af,ae,dv,bV,bY⟩) (aO:dD rs qs= true) (bO:ho rs qs= true) (w:World) (R:ea w an ar aj ak aA rs qs ws U os):
 Calls Tryz.prog 235 #[.agg #[.slice an rs c0,.slice ar qs c1,af,ae,sp,.slice aj ws c2,.slice ak U c3,.slice aA os c4],.agg #[(4:Int),mem,val,yes,no,bx]] w fun e ag=>∃cI e0 cF e1 bg d2 bn d3 cJ e4,e= .returned (.tuple #[.agg #[.slice cI rs e0,.slice cF qs e1,af,ae,dv,.slice bg bV d2,.slice bn bY d3,.slice cJ os e4],true])∧gA w ag cI e0 cF e1 bg d2 bn d3 cJ e4 rs qs bV bY os∧Below w w ag:=by
 have bJ:=J R;have bf:=J Z;have bC:=J aw;have cX:=J he;have cV:=J aZ;clear R Z aO bO aw he aZ
 go_in
 go_upto_region 1 with fail
 refine fr fun aF au ai aR ad=>?_
 have I:=au;have aD:=ai.aG;have a':=aR.da;have al:=ad.aG;have gy:=ad.lt
 go_upto_region 2 with fail
 refine cR fun kP ao bT=>?_
 replace I:=ah I ao;have bo:=bT.aP;clear aD;replace ai:=ai.to ao;have aD:=ai.aG;clear a';replace aR:=aR.to ao;have a':=aR.da;clear al;replace ad:=ad.to ao;have al:=ad.aG;have qW:=bT.lt
 go_wp2_with fail
 refine (ape af ae sp aj c2 ws ak c3 U bf.out.h2 bf.out.h3 bf.out.n2 bf.out.n3 bf.out.cp bf.out.ed q cV.out dv bV bY bC.out cX.out _ (bJ.out.r2.below (ah I av)) (bJ.out.hr.below (ah I av))).mono ?_
 exact Ra
theorem apA (an ar aj ak aA:Option Addr) (c0 c1 c2 c3 c4:Nat) (rs:List aJ) (qs:List aL) (af ae sp:Int) (ws:List Int) (U:List aI) (os:List Out) (Z:eC an ar aj ak aA c0 c1 c2 c3 c4 rs qs ws U os) (mem val yes no bx:Int) (dv:Int) (bV:List Int) (bY:List aI) (aw:oB ⟨af,ae,sp,ws,U⟩ val= true) (he:jG ⟨af,ae,sp,ws,U⟩ val=⟨af,ae,dv,bV,bY⟩) (aO:dD rs qs= true) (bO:ho rs qs= true) (w:World) (R:ea w an ar aj ak aA rs qs ws U os):
 Calls Tryz.prog 235 #[.agg #[.slice an rs c0,.slice ar qs c1,af,ae,sp,.slice aj ws c2,.slice ak U c3,.slice aA os c4],.agg #[(5:Int),mem,val,yes,no,bx]] w fun e ag=>∃cI e0 cF e1 bg d2 bn d3 cJ e4,e= .returned (.tuple #[.agg #[.slice cI rs e0,.slice cF qs e1,af,ae,dv,.slice bg bV d2,.slice bn bY d3,.slice cJ os e4],true])∧gA w ag cI e0 cF e1 bg d2 bn d3 cJ e4 rs qs bV bY os∧Below w w ag:=by
 have bJ:=J R;have bf:=J Z;have bC:=J aw;have cX:=J he;clear R Z aO bO aw he
 go_in
 go_upto_region 1 with fail
 refine fr fun aF au ai aR ad=>?_
 have I:=au;have aD:=ai.aG;have a':=aR.da;have al:=ad.aG;have gy:=ad.lt
 go_upto_region 2 with fail
 refine cR fun kP ao bT=>?_
 replace I:=ah I ao;have bo:=bT.aP;clear aD;replace ai:=ai.to ao;have aD:=ai.aG;clear a';replace aR:=aR.to ao;have a':=aR.da;clear al;replace ad:=ad.to ao;have al:=ad.aG;have qW:=bT.lt
 go_wp2_with fail
 refine (apf af ae sp aj c2 ws ak c3 U bf.out.h2 bf.out.h3 bf.out.n2 bf.out.n3 bf.out.cp bf.out.ed val dv bV bY bC.out cX.out _ (bJ.out.r2.below (ah I av)) (bJ.out.hr.below (ah I av))).mono ?_
 exact Ra
theorem apC (an ar aj ak aA:Option Addr) (c0 c1 c2 c3 c4:Nat) (rs:List aJ) (qs:List aL) (af ae sp:Int) (ws:List Int) (U:List aI) (os:List Out) (Z:eC an ar aj ak aA c0 c1 c2 c3 c4 rs qs ws U os) (mem val yes no bx:Int) (dv:Int) (bV:List Int) (bY:List aI) (aw:mB ⟨af,ae,sp,ws,U⟩ =true) (he:mZ ⟨af,ae,sp,ws,U⟩ =⟨af,ae,dv,bV,bY⟩) (aO:dD rs qs= true) (bO:ho rs qs= true) (w:World) (R:ea w an ar aj ak aA rs qs ws U os):
 Calls Tryz.prog 235 #[.agg #[.slice an rs c0,.slice ar qs c1,af,ae,sp,.slice aj ws c2,.slice ak U c3,.slice aA os c4],.agg #[(6:Int),mem,val,yes,no,bx]] w fun e ag=>∃cI e0 cF e1 bg d2 bn d3 cJ e4,e= .returned (.tuple #[.agg #[.slice cI rs e0,.slice cF qs e1,af,ae,dv,.slice bg bV d2,.slice bn bY d3,.slice cJ os e4],true])∧gA w ag cI e0 cF e1 bg d2 bn d3 cJ e4 rs qs bV bY os∧Below w w ag:=by
 have bJ:=J R;have bf:=J Z;have bC:=J aw;have cX:=J he;clear R Z aO bO aw he
 go_in
 go_upto_region 1 with fail
 refine fr fun aF au ai aR ad=>?_
 have I:=au;have aD:=ai.aG;have a':=aR.da;have al:=ad.aG;have gy:=ad.lt
 go_upto_region 2 with fail
 refine cR fun kP ao bT=>?_
 replace I:=ah I ao;have bo:=bT.aP;clear aD;replace ai:=ai.to ao;have aD:=ai.aG;clear a';replace aR:=aR.to ao;have a':=aR.da;clear al;replace ad:=ad.to ao;have al:=ad.aG;have qW:=bT.lt
 go_wp2_with fail
 refine (apg af ae sp aj c2 ws ak c3 U bf.out.h2 bf.out.h3 bf.out.n2 bf.out.n3 bf.out.cp bf.out.ed dv bV bY bC.out cX.out _ (bJ.out.r2.below (ah I av)) (bJ.out.hr.below (ah I av))).mono ?_
 exact Ra
theorem aaH {p:Prop} (h:p:=by
 have ep:=ad.jh
 go_wp2
 clear al
 refine iK 0 fun cS aC=>?_
 replace I:=aC.aE I;replace ad:=aC.jg ad;have al:=ad.aG
 exact hg ⟨rfl,I⟩ (by simp [results,Tryz.results235,go_sem,al])):p:=h
theorem apv (an ar aj ak aA:Option Addr) (c0 c1 c2 c3 c4:Nat) (rs:List aJ) (qs:List aL) (af ae sp:Int) (ws:List Int) (U:List aI) (os:List Out) (Z:eC an ar aj ak aA c0 c1 c2 c3 c4 rs qs ws U os) (mem val yes no bx:Int) (aw:ob ⟨af,ae,sp,ws,U⟩ mem= false) (bO:ho rs qs= true) (aO:dD rs qs= true) (w:World) (R:ea w an ar aj ak aA rs qs ws U os):
 Calls Tryz.prog 235 #[.agg #[.slice an rs c0,.slice ar qs c1,af,ae,sp,.slice aj ws c2,.slice ak U c3,.slice aA os c4],.agg #[(3:Int),mem,val,yes,no,bx]] w fun e ag=>e= .returned (.tuple #[.agg #[.slice none 0 0,.slice none 0 0,(0:Int),(0:Int),(0:Int),.slice none 0 0,.slice none 0 0,.slice none 0 0],false])∧Below w w ag:=by
 have bJ:=J R;have bf:=J Z;have eg:=J aO;clear R Z aO;have bC:=J aw;clear aw;have fG:=J bO;clear bO
 go_in
 go_upto_region 1 with fail
 refine fr fun aF au ai aR ad=>?_
 have I:=au;have aD:=ai.aG;have a':=aR.da;have al:=ad.aG;have gy:=ad.lt
 go_upto_region 2 with fail
 refine cR fun kP ao bT=>?_
 replace I:=ah I ao;have bo:=bT.aP;clear aD;replace ai:=ai.to ao;have aD:=ai.aG;clear a';replace aR:=aR.to ao;have a':=aR.da;clear al;replace ad:=ad.to ao;have al:=ad.aG
 go_wp2_with fail
 refine (AV rs qs an ar c0 c1 bf.out.h0 bf.out.h1 eg.out true fG.out _ (bJ.out.fF.below (ah I av)) (bJ.out.dJ.below (ah I av))).mono ?_
 rintro e bB ⟨rfl,bG⟩
 have aK:=be kP bG;replace I:=ah I aK;replace ai:=ai.to aK;clear aD;have aD:=ai.aG;replace aR:=aR.to aK;clear a';have a':=aR.da;replace ad:=ad.to aK;clear al;have al:=ad.aG;replace bT:=bT.to aK;clear bo;have bo:=bT.aP
 go_wp2_with fail
 refine (apk af ae sp aj c2 ws ak c3 U bf.out.h2 bf.out.h3 bf.out.n2 bf.out.n3 bf.out.cp bf.out.ed mem bC.out _ (bJ.out.r2.below (ah I av)) (bJ.out.hr.below (ah I av))).mono ?_
 rintro e ca ⟨rfl,cU⟩
 have bS:=be bB cU;replace I:=ah I bS;clear aD;clear a';replace ad:=ad.to bS;clear al;have al:=ad.aG;replace bT:=bT.to bS;clear bo;have bo:=bT.aP;have su:=bT.jn
 go_upto_region 12 with fail
 clear al bo
 refine gR 0 fun nx eS=>?_
 replace I:=eS.aE I;replace ad:=eS.dM ad;have al:=ad.aG;clear su
 exact aaH
theorem Rc {p:Prop} (h:p:=by
 rintro e bB ⟨rfl,bG⟩
 have aK:=be kP bG;replace I:=ah I aK;clear aD;clear a';replace ad:=ad.to aK;clear al;have al:=ad.aG;replace bT:=bT.to aK;clear bo;have bo:=bT.aP;have su:=bT.jn
 go_upto_region 12 with fail
 clear al bo
 refine gR 0 fun nx eS=>?_
 replace I:=eS.aE I;replace ad:=eS.dM ad;have al:=ad.aG;clear su;have ep:=ad.jh
 go_wp2
 clear al
 refine iK 0 fun cS aC=>?_
 replace I:=aC.aE I;replace ad:=aC.jg ad;have al:=ad.aG
 exact hg ⟨rfl,I⟩ (by simp [results,Tryz.results235,go_sem,al])):p:=h
theorem apx (an ar aj ak aA:Option Addr) (c0 c1 c2 c3 c4:Nat) (rs:List aJ) (qs:List aL) (af ae sp:Int) (ws:List Int) (U:List aI) (os:List Out) (Z:eC an ar aj ak aA c0 c1 c2 c3 c4 rs qs ws U os) (mem val yes no bx:Int) (aw:mT ⟨af,ae,sp,ws,U⟩ =false) (aO:dD rs qs= true) (w:World) (R:ea w an ar aj ak aA rs qs ws U os):
 Calls Tryz.prog 235 #[.agg #[.slice an rs c0,.slice ar qs c1,af,ae,sp,.slice aj ws c2,.slice ak U c3,.slice aA os c4],.agg #[(4:Int),mem,val,yes,no,bx]] w fun e ag=>e= .returned (.tuple #[.agg #[.slice none 0 0,.slice none 0 0,(0:Int),(0:Int),(0:Int),.slice none 0 0,.slice none 0 0,.slice none 0 0],false])∧Below w w ag:=by
 have bJ:=J R;have bf:=J Z;clear R Z aO;have bC:=J aw;clear aw
 go_in
 go_upto_region 1 with fail
 refine fr fun aF au ai aR ad=>?_
 have I:=au;have aD:=ai.aG;have a':=aR.da;have al:=ad.aG;have gy:=ad.lt
 go_upto_region 2 with fail
 refine cR fun kP ao bT=>?_
 replace I:=ah I ao;have bo:=bT.aP;clear aD;replace ai:=ai.to ao;have aD:=ai.aG;clear a';replace aR:=aR.to ao;have a':=aR.da;clear al;replace ad:=ad.to ao;have al:=ad.aG
 go_wp2_with fail
 refine (apW af ae sp aj c2 ws ak c3 U bf.out.h2 bf.out.h3 bf.out.n2 bf.out.n3 bf.out.cp bf.out.ed bC.out _ (bJ.out.r2.below (ah I av)) (bJ.out.hr.below (ah I av))).mono ?_
 exact Rc
theorem apz (an ar aj ak aA:Option Addr) (c0 c1 c2 c3 c4:Nat) (rs:List aJ) (qs:List aL) (af ae sp:Int) (ws:List Int) (U:List aI) (os:List Out) (Z:eC an ar aj ak aA c0 c1 c2 c3 c4 rs qs ws U os) (mem val yes no bx:Int) (aw:oB ⟨af,ae,sp,ws,U⟩ val= false) (aO:dD rs qs= true) (w:World) (R:ea w an ar aj ak aA rs qs ws U os):
 Calls Tryz.prog 235 #[.agg #[.slice an rs c0,.slice ar qs c1,af,ae,sp,.slice aj ws c2,.slice ak U c3,.slice aA os c4],.agg #[(5:Int),mem,val,yes,no,bx]] w fun e ag=>e= .returned (.tuple #[.agg #[.slice none 0 0,.slice none 0 0,(0:Int),(0:Int),(0:Int),.slice none 0 0,.slice none 0 0,.slice none 0 0],false])∧Below w w ag:=by
 have bJ:=J R;have bf:=J Z;clear R Z aO;have bC:=J aw;clear aw
 go_in
 go_upto_region 1 with fail
 refine fr fun aF au ai aR ad=>?_
 have I:=au;have aD:=ai.aG;have a':=aR.da;have al:=ad.aG;have gy:=ad.lt
 go_upto_region 2 with fail
 refine cR fun kP ao bT=>?_
 replace I:=ah I ao;have bo:=bT.aP;clear aD;replace ai:=ai.to ao;have aD:=ai.aG;clear a';replace aR:=aR.to ao;have a':=aR.da;clear al;replace ad:=ad.to ao;have al:=ad.aG
 go_wp2_with fail
 refine (aqc af ae sp aj c2 ws ak c3 U bf.out.h2 bf.out.h3 bf.out.n2 bf.out.n3 bf.out.cp bf.out.ed val bC.out _ (bJ.out.r2.below (ah I av)) (bJ.out.hr.below (ah I av))).mono ?_
 exact Rc
theorem apB (an ar aj ak aA:Option Addr) (c0 c1 c2 c3 c4:Nat) (rs:List aJ) (qs:List aL) (af ae sp:Int) (ws:List Int) (U:List aI) (os:List Out) (Z:eC an ar aj ak aA c0 c1 c2 c3 c4 rs qs ws U os) (mem val yes no bx:Int) (aw:mB ⟨af,ae,sp,ws,U⟩ =false) (aO:dD rs qs= true) (w:World) (R:ea w an ar aj ak aA rs qs ws U os):
 Calls Tryz.prog 235 #[.agg #[.slice an rs c0,.slice ar qs c1,af,ae,sp,.slice aj ws c2,.slice ak U c3,.slice aA os c4],.agg #[(6:Int),mem,val,yes,no,bx]] w fun e ag=>e= .returned (.tuple #[.agg #[.slice none 0 0,.slice none 0 0,(0:Int),(0:Int),(0:Int),.slice none 0 0,.slice none 0 0,.slice none 0 0],false])∧Below w w ag:=by
 have bJ:=J R;have bf:=J Z;clear R Z aO;have bC:=J aw;clear aw
 go_in
 go_upto_region 1 with fail
 refine fr fun aF au ai aR ad=>?_
 have I:=au;have aD:=ai.aG;have a':=aR.da;have al:=ad.aG;have gy:=ad.lt
 go_upto_region 2 with fail
 refine cR fun kP ao bT=>?_
 replace I:=ah I ao;have bo:=bT.aP;clear aD;replace ai:=ai.to ao;have aD:=ai.aG;clear a';replace aR:=aR.to ao;have a':=aR.da;clear al;replace ad:=ad.to ao;have al:=ad.aG
 go_wp2_with fail
 refine (aqj af ae sp aj c2 ws ak c3 U bf.out.h2 bf.out.h3 bf.out.n2 bf.out.n3 bf.out.cp bf.out.ed bC.out _ (bJ.out.r2.below (ah I av)) (bJ.out.hr.below (ah I av))).mono ?_
 exact Rc
theorem apu (an ar aj ak aA:Option Addr) (c0 c1 c2 c3 c4:Nat) (rs:List aJ) (qs:List aL) (af ae sp:Int) (ws:List Int) (U:List aI) (os:List Out) (Z:eC an ar aj ak aA c0 c1 c2 c3 c4 rs qs ws U os) (mem val yes no bx:Int) (bO:ho rs qs= false) (aO:dD rs qs= true) (w:World) (R:ea w an ar aj ak aA rs qs ws U os):
 Calls Tryz.prog 235 #[.agg #[.slice an rs c0,.slice ar qs c1,af,ae,sp,.slice aj ws c2,.slice ak U c3,.slice aA os c4],.agg #[(3:Int),mem,val,yes,no,bx]] w fun e ag=>e= .returned (.tuple #[.agg #[.slice none 0 0,.slice none 0 0,(0:Int),(0:Int),(0:Int),.slice none 0 0,.slice none 0 0,.slice none 0 0],false])∧Below w w ag:=by
 have bJ:=J R;have bf:=J Z;have eg:=J aO;clear R Z aO;have fG:=J bO;clear bO
 go_in
 go_upto_region 1 with fail
 refine fr fun aF au ai aR ad=>?_
 have I:=au;have aD:=ai.aG;have a':=aR.da;have al:=ad.aG
 go_upto_region 2 with fail
 refine cR fun kP ao bT=>?_
 replace I:=ah I ao;clear aD;replace ai:=ai.to ao;have aD:=ai.aG;clear a';replace aR:=aR.to ao;have a':=aR.da;clear al;replace ad:=ad.to ao;have al:=ad.aG
 go_wp2_with fail
 refine (AV rs qs an ar c0 c1 bf.out.h0 bf.out.h1 eg.out false fG.out _ (bJ.out.fF.below (ah I av)) (bJ.out.dJ.below (ah I av))).mono ?_
 rintro e bB ⟨rfl,bG⟩
 have aK:=be kP bG;replace I:=ah I aK;clear aD;clear a';replace ad:=ad.to aK;clear al;have al:=ad.aG
 exact aaH
theorem apD (an ar aj ak aA:Option Addr) (c0 c1 c2 c3 c4:Nat) (rs:List aJ) (qs:List aL) (af ae sp:Int) (ws:List Int) (U:List aI) (os:List Out) (Z:eC an ar aj ak aA c0 c1 c2 c3 c4 rs qs ws U os) (kind mem val yes no bx:Int) (sx:(kind == 3)= false) (xr:(kind == 4)= false) (atk:(kind == 5)= false) (ahS:(kind == 6)= false) (aO:dD rs qs= true) (w:World) (R:ea w an ar aj ak aA rs qs ws U os):
 Calls Tryz.prog 235 #[.agg #[.slice an rs c0,.slice ar qs c1,af,ae,sp,.slice aj ws c2,.slice ak U c3,.slice aA os c4],.agg #[kind,mem,val,yes,no,bx]] w fun e ag=>e= .returned (.tuple #[.agg #[.slice none 0 0,.slice none 0 0,(0:Int),(0:Int),(0:Int),.slice none 0 0,.slice none 0 0,.slice none 0 0],false])∧Below w w ag:=by
 clear R Z aO
 go_in
 go_upto_region 1 with fail
 refine fr fun aF au ai aR ad=>?_
 have I:=au;have a':=aR.da;have al:=ad.aG
 go_upto_region 2 with fail
 refine cR fun kP ao bT=>?_
 replace I:=ah I ao;clear a';replace aR:=aR.to ao;have a':=aR.da;clear al;replace ad:=ad.to ao;have al:=ad.aG;have ep:=ad.jh
 go_wp2
 clear a' al
 refine iK 0 fun cS aC=>?_
 replace I:=aC.aE I;replace ad:=aC.jg ad;have al:=ad.aG
 exact hg ⟨rfl,I⟩ (by simp [results,Tryz.results235,go_sem,al])
open Go.RowKit Go.G9
theorem Wt (af ae sp:Int) (aj:Option Addr) (c2:Nat) (ws:List Int) (ak:Option Addr) (c3:Nat) (U:List aI) (h2:ws.length≤1048576) (h3:U.length≤1048576) (n2:aj= none→ws= []∧c2= 0) (n3:ak= none→U= []∧c3= 0) (cp:ws.length≤c2) (mem:Int) (dv:Int) (bV:List Int) (bY:List aI) (aw:ob ⟨af,ae,sp,ws,U⟩ mem= true) (he:qF ⟨af,ae,sp,ws,U⟩ mem=⟨af,ae,dv,bV,bY⟩) (w:World) (bj:aH 1 bR w aj ws) (bh:aH 3 aI.cells w ak U):
 Calls Tryz.prog 258 #[.agg #[af,ae,sp,.slice aj ws c2,.slice ak U c3],mem] w fun e ag=>∃bg d2 bn d3,e= .returned (.tuple #[.agg #[af,ae,dv,.slice bg bV d2,.slice bn bY d3],true])∧jR w.heap.size ag bg d2 bn d3 bV bY∧Below w w ag:=by
 have e1:=congrArg ey.sp he;have e3:=congrArg ey.U he;have e2:=congrArg ey.ws he
 simp only [qF,rR] at e1 e2 e3
 subst e1;subst e3;subst e2
 exact akw af ae sp aj c2 ws ak c3 U h2 h3 n2 n3 cp mem aw w bj bh
theorem Wu (af ae sp:Int) (aj:Option Addr) (c2:Nat) (ws:List Int) (ak:Option Addr) (c3:Nat) (U:List aI) (h2:ws.length≤1048576) (h3:U.length≤1048576) (n2:aj= none→ws= []∧c2= 0) (n3:ak= none→U= []∧c3= 0) (cp:ws.length≤c2) (q:Int) (aZ:sM ⟨af,ae,sp,ws,U⟩ =some q) (dv:Int) (bV:List Int) (bY:List aI) (aw:mT ⟨af,ae,sp,ws,U⟩ =true) (he:rR ⟨af,ae,sp,ws,U⟩ q=⟨af,ae,dv,bV,bY⟩) (w:World) (bj:aH 1 bR w aj ws) (bh:aH 3 aI.cells w ak U):
 Calls Tryz.prog 259 #[.agg #[af,ae,sp,.slice aj ws c2,.slice ak U c3]] w fun e ag=>∃bg d2 bn d3,e= .returned (.tuple #[.agg #[af,ae,dv,.slice bg bV d2,.slice bn bY d3],q,true])∧jR w.heap.size ag bg d2 bn d3 bV bY∧Below w w ag:=by
 have e1:=congrArg ey.sp he;have e3:=congrArg ey.U he;have e2:=congrArg ey.ws he
 simp only [qF,rR] at e1 e2 e3
 subst e1;subst e3;subst e2
 exact als af ae sp aj c2 ws ak c3 U h2 h3 n2 n3 cp aw q aZ w bj bh
theorem Wv (af ae sp:Int) (aj:Option Addr) (c2:Nat) (ws:List Int) (ak:Option Addr) (c3:Nat) (U:List aI) (h2:ws.length≤1048576) (h3:U.length≤1048576) (n2:aj= none→ws= []∧c2= 0) (n3:ak= none→U= []∧c3= 0) (cp:ws.length≤c2) (val:Int) (dv:Int) (bV:List Int) (bY:List aI) (aw:oB ⟨af,ae,sp,ws,U⟩ val= true) (he:jG ⟨af,ae,sp,ws,U⟩ val=⟨af,ae,dv,bV,bY⟩) (w:World) (bj:aH 1 bR w aj ws) (bh:aH 3 aI.cells w ak U):
 Calls Tryz.prog 260 #[.agg #[af,ae,sp,.slice aj ws c2,.slice ak U c3],val] w fun e ag=>∃bg d2 bn d3,e= .returned (.tuple #[.agg #[af,ae,dv,.slice bg bV d2,.slice bn bY d3],.int .i64 (tM ⟨af,ae,sp,ws,U⟩ val),true])∧jR w.heap.size ag bg d2 bn d3 bV bY∧Below w w ag:=by
 have e1:(jG ⟨af,ae,sp,ws,U⟩ val).sp= dv:=by rw [he]
 have e3:(jG ⟨af,ae,sp,ws,U⟩ val).U= bY:=by rw [he]
 have e2:ws= bV:=by
  exact abP
 subst e1;subst e3;subst e2
 exact aly af ae sp aj c2 ws ak c3 U h2 h3 n2 n3 cp val aw w bj bh
theorem Ww (af ae sp:Int) (aj:Option Addr) (c2:Nat) (ws:List Int) (ak:Option Addr) (c3:Nat) (U:List aI) (h2:ws.length≤1048576) (h3:U.length≤1048576) (n2:aj= none→ws= []∧c2= 0) (n3:ak= none→U= []∧c3= 0) (cp:ws.length≤c2) (dv:Int) (bV:List Int) (bY:List aI) (aw:mB ⟨af,ae,sp,ws,U⟩ =true) (he:mZ ⟨af,ae,sp,ws,U⟩ =⟨af,ae,dv,bV,bY⟩) (w:World) (bj:aH 1 bR w aj ws) (bh:aH 3 aI.cells w ak U):
 Calls Tryz.prog 261 #[.agg #[af,ae,sp,.slice aj ws c2,.slice ak U c3]] w fun e ag=>∃bg d2 bn d3,e= .returned (.tuple #[.agg #[af,ae,dv,.slice bg bV d2,.slice bn bY d3],true])∧jR w.heap.size ag bg d2 bn d3 bV bY∧Below w w ag:=by
 have e1:(0:Int)= dv:=congrArg ey.sp he
 have e3:(mZ ⟨af,ae,sp,ws,U⟩).U= bY:=by rw [he]
 have e2:ws= bV:=congrArg ey.ws he
 subst e1;subst e3;subst e2
 exact alG af ae sp aj c2 ws ak c3 U h2 h3 n2 n3 cp aw w bj bh
theorem KY {p:Prop} (h:p:=by
 rintro e bB ⟨bg,d2,bn,d3,rfl,ds,bG⟩
 have aK:=be kP bG;replace I:=ah I aK;replace ai:=ai.to aK;clear aD;have aD:=ai.aG;clear a';replace ad:=ad.to aK;clear al;have al:=ad.aG;replace bT:=bT.to aK;clear bo;have bo:=bT.aP;have bA:=ds.fk;have bq:=ds.fJ;clear ds;have su:=bT.jn;have ej:=bA.cA bT;have dK:=bq.cA bT
 go_upto_region 11 with fail
 clear aD al bo
 refine gR 0 fun nx eS=>?_
 replace I:=eS.aE I;replace ai:=eS.dM ai;replace ad:=eS.dM ad;replace bT:=eS.iP bT;replace bA:=bA.bW eS ej;replace bq:=bq.bW eS dK;have aD:=ai.aG;have al:=ad.aG;have bo:=bT.aP;clear ej dK su;have gw:=bT.lt
 go_wp2_with fail
 refine (Dj rs qs af ae sp ws U os an ar aj ak aA c0 c1 c2 c3 c4 bf.out.h0 bf.out.h1 bf.out.h2 bf.out.h3 bf.out.h4 eg.out true fG.out _ (bJ.out.fF.below (ah I av)) (bJ.out.dJ.below (ah I av)) (bJ.out.r2.below (ah I av)) (bJ.out.hr.below (ah I av)) (bJ.out.nJ.below (ah I av))).mono ?_
 rintro e ca ⟨rfl,cU⟩
 have bS:=be nx cU;replace I:=ah I bS;replace bA:=bA.later bS;replace bq:=bq.later bS;replace ai:=ai.to bS;clear aD;have aD:=ai.aG;replace ad:=ad.to bS;clear al;have al:=ad.aG;replace bT:=bT.to bS;clear bo;have bo:=bT.aP;have aqI:=bS.size
 go_wp2_with fail
 refine (Kg an ar aj ak aA c0 c1 c2 c3 c4 rs qs af ae sp ws U os bf.out _ (bJ.out.below (ah I av))).mono ?_
 rintro e dc ⟨cI,e0,cF,e1,de,e2,df,e3,cJ,e4,rfl,ds,ei⟩
 have cx:=be ca ei;replace I:=ah I cx;replace bA:=bA.later cx;replace bq:=bq.later cx;clear aD;replace ad:=ad.to cx;clear al;have al:=ad.aG;replace bT:=bT.to cx;clear bo;have bo:=bT.aP;have aqJ:=cx.size;have KF:=I.size
 go_upto_region 14 with fail
 have lD:=ds.later (bZ dc (.cells #[.slice cI rs e0,.slice cF qs e1,af,ae,sp,.slice de ws e2,.slice df U e3,.slice cJ os e4] 44));have eD:Below dc dc (World.alloc dc (.cells #[.slice cI rs e0,.slice cF qs e1,af,ae,sp,.slice de ws e2,.slice df U e3,.slice cJ os e4] 44)):=bZ dc _
 have aQ:aq (World.alloc dc (.cells #[.slice cI rs e0,.slice cF qs e1,af,ae,sp,.slice de ws e2,.slice df U e3,.slice cJ os e4] 44)) (dc.heap.size) 44 #[.slice cI rs e0,.slice cF qs e1,af,ae,sp,.slice de ws e2,.slice df U e3,.slice cJ os e4]:=by repeat (first | exact aq.new _ _ _ | exact aq.fu _ _ _ _ | exact aq.fx _ _ _ _ _ | exact aq.gb _ _ _ _ _ _ | refine aq.alloc ?_ _)
 replace bA:=bA.later eD;replace bq:=bq.later eD
 generalize World.alloc dc (.cells #[.slice cI rs e0,.slice cF qs e1,af,ae,sp,.slice de ws e2,.slice df U e3,.slice cJ os e4] 44)= tS at *
 replace I:=ah I eD;have bF:=aQ.aG;clear al;replace ad:=ad.to eD;have al:=ad.aG;clear bo;replace bT:=bT.to eD;have bo:=bT.aP;have ch:=lD.kJ;have cm:=lD.hU;have cv:=lD.mc;clear lD;have qO:=aQ.frozen 2;have sv:=aQ.frozen 3;have xn:=aQ.frozen 4;have xo:=aQ.frozen 5;have xp:=aQ.frozen 6;have fC:=ch.cA aQ;have ih:=cm.cA aQ;have ej:=bA.cA aQ
 have dK:=bq.cA aQ;have fI:=cv.cA aQ
 go_upto_region 15 with fail
 clear al bo bF
 refine gR 2 fun mo eN=>?_
 replace I:=eN.aE I;replace ad:=eN.dM ad;replace aQ:=eN.DC aQ;replace bA:=bA.bW eN ej;replace bq:=bq.bW eN dK;replace ch:=ch.bW eN fC;replace cm:=cm.bW eN ih
 replace cv:=cv.bW eN fI;have al:=ad.aG;have bF:=aQ.aG;clear fC ih ej dK fI qO sv xn xo xp;have fC:=ch.cA ad;have ih:=cm.cA ad;have ej:=bA.cA ad;have dK:=bq.cA ad;have fI:=cv.cA ad;have ep:=ad.jh
 go_wp2
 clear al bF
 refine iK 0 fun cS aC=>?_
 replace I:=aC.aE I;replace ad:=aC.jg ad;replace bA:=bA.bW aC ej;replace bq:=bq.bW aC dK;replace ch:=ch.bW aC fC;replace cm:=cm.bW aC ih;replace cv:=cv.bW aC fI;have al:=ad.aG
 exact hg ⟨cI,e0,cF,e1,bg,d2,bn,d3,cJ,e4,rfl,⟨ch.base (by omega),cm.base (by omega),bA.base (by omega),bq.base (by omega),cv.base (by omega)⟩,I⟩ (by simp [results,Tryz.results179,go_sem,al])):p:=h
theorem akK (an ar aj ak aA:Option Addr) (c0 c1 c2 c3 c4:Nat) (rs:List aJ) (qs:List aL) (af ae sp:Int) (ws:List Int) (U:List aI) (os:List Out) (Z:eC an ar aj ak aA c0 c1 c2 c3 c4 rs qs ws U os) (mem val yes no bx:Int) (dv:Int) (bV:List Int) (bY:List aI) (aw:ob ⟨af,ae,sp,ws,U⟩ mem= true) (he:qF ⟨af,ae,sp,ws,U⟩ mem=⟨af,ae,dv,bV,bY⟩) (aO:dD rs qs= true) (bO:ho rs qs= true) (w:World) (R:ea w an ar aj ak aA rs qs ws U os):
 Calls Tryz.prog 179 #[.agg #[.slice an rs c0,.slice ar qs c1,af,ae,sp,.slice aj ws c2,.slice ak U c3,.slice aA os c4],.agg #[(3:Int),mem,val,yes,no,bx]] w fun e ag=>∃cI e0 cF e1 bg d2 bn d3 cJ e4,e= .returned (.tuple #[.agg #[.slice cI rs e0,.slice cF qs e1,af,ae,dv,.slice bg bV d2,.slice bn bY d3,.slice cJ os e4],true])∧gA w ag cI e0 cF e1 bg d2 bn d3 cJ e4 rs qs bV bY os∧Below w w ag:=by
 have bJ:=J R;have bf:=J Z;have eg:=J aO;have fG:=J bO;have bC:=J aw;have cX:=J he;clear R Z aO bO aw he
 go_in
 go_upto_region 1 with fail
 refine fr fun aF au ai aR ad=>?_
 have I:=au;have aD:=ai.aG;have a':=aR.da;have al:=ad.aG;have gy:=ad.lt
 go_upto_region 2 with fail
 refine cR fun kP ao bT=>?_
 replace I:=ah I ao;have bo:=bT.aP;clear aD;replace ai:=ai.to ao;have aD:=ai.aG;clear a';replace aR:=aR.to ao;have a':=aR.da;clear al;replace ad:=ad.to ao;have al:=ad.aG;have qW:=bT.lt
 go_wp2_with fail
 refine (Wt af ae sp aj c2 ws ak c3 U bf.out.h2 bf.out.h3 bf.out.n2 bf.out.n3 bf.out.cp mem dv bV bY bC.out cX.out _ (bJ.out.r2.below (ah I av)) (bJ.out.hr.below (ah I av))).mono ?_
 exact KY
theorem akN (an ar aj ak aA:Option Addr) (c0 c1 c2 c3 c4:Nat) (rs:List aJ) (qs:List aL) (af ae sp:Int) (ws:List Int) (U:List aI) (os:List Out) (Z:eC an ar aj ak aA c0 c1 c2 c3 c4 rs qs ws U os) (mem val yes no bx:Int) (q:Int) (aZ:sM ⟨af,ae,sp,ws,U⟩ =some q) (dv:Int) (bV:List Int) (bY:List aI) (aw:mT ⟨af,ae,sp,ws,U⟩ =true) (he:rR ⟨af,ae,sp,ws,U⟩ q=⟨af,ae,dv,bV,bY⟩) (aO:dD rs qs= true) (bO:ho rs qs= true) (w:World) (R:ea w an ar aj ak aA rs qs ws U os):
 Calls Tryz.prog 179 #[.agg #[.slice an rs c0,.slice ar qs c1,af,ae,sp,.slice aj ws c2,.slice ak U c3,.slice aA os c4],.agg #[(4:Int),mem,val,yes,no,bx]] w fun e ag=>∃cI e0 cF e1 bg d2 bn d3 cJ e4,e= .returned (.tuple #[.agg #[.slice cI rs e0,.slice cF qs e1,af,ae,dv,.slice bg bV d2,.slice bn bY d3,.slice cJ os e4],true])∧gA w ag cI e0 cF e1 bg d2 bn d3 cJ e4 rs qs bV bY os∧Below w w ag:=by
 have bJ:=J R;have bf:=J Z;have eg:=J aO;have fG:=J bO;have bC:=J aw;have cX:=J he;have cV:=J aZ;clear R Z aO bO aw he aZ
 go_in
 go_upto_region 1 with fail
 refine fr fun aF au ai aR ad=>?_
 have I:=au;have aD:=ai.aG;have a':=aR.da;have al:=ad.aG;have gy:=ad.lt
 go_upto_region 2 with fail
 refine cR fun kP ao bT=>?_
 replace I:=ah I ao;have bo:=bT.aP;clear aD;replace ai:=ai.to ao;have aD:=ai.aG;clear a';replace aR:=aR.to ao;have a':=aR.da;clear al;replace ad:=ad.to ao;have al:=ad.aG;have qW:=bT.lt
 go_wp2_with fail
 refine (Wu af ae sp aj c2 ws ak c3 U bf.out.h2 bf.out.h3 bf.out.n2 bf.out.n3 bf.out.cp q cV.out dv bV bY bC.out cX.out _ (bJ.out.r2.below (ah I av)) (bJ.out.hr.below (ah I av))).mono ?_
 exact KY
theorem akQ (an ar aj ak aA:Option Addr) (c0 c1 c2 c3 c4:Nat) (rs:List aJ) (qs:List aL) (af ae sp:Int) (ws:List Int) (U:List aI) (os:List Out) (Z:eC an ar aj ak aA c0 c1 c2 c3 c4 rs qs ws U os) (mem val yes no bx:Int) (dv:Int) (bV:List Int) (bY:List aI) (aw:oB ⟨af,ae,sp,ws,U⟩ val= true) (he:jG ⟨af,ae,sp,ws,U⟩ val=⟨af,ae,dv,bV,bY⟩) (aO:dD rs qs= true) (bO:ho rs qs= true) (w:World) (R:ea w an ar aj ak aA rs qs ws U os):
 Calls Tryz.prog 179 #[.agg #[.slice an rs c0,.slice ar qs c1,af,ae,sp,.slice aj ws c2,.slice ak U c3,.slice aA os c4],.agg #[(5:Int),mem,val,yes,no,bx]] w fun e ag=>∃cI e0 cF e1 bg d2 bn d3 cJ e4,e= .returned (.tuple #[.agg #[.slice cI rs e0,.slice cF qs e1,af,ae,dv,.slice bg bV d2,.slice bn bY d3,.slice cJ os e4],true])∧gA w ag cI e0 cF e1 bg d2 bn d3 cJ e4 rs qs bV bY os∧Below w w ag:=by
 have bJ:=J R;have bf:=J Z;have eg:=J aO;have fG:=J bO;have bC:=J aw;have cX:=J he;clear R Z aO bO aw he
 go_in
 go_upto_region 1 with fail
 refine fr fun aF au ai aR ad=>?_
 have I:=au;have aD:=ai.aG;have a':=aR.da;have al:=ad.aG;have gy:=ad.lt
 go_upto_region 2 with fail
 refine cR fun kP ao bT=>?_
 replace I:=ah I ao;have bo:=bT.aP;clear aD;replace ai:=ai.to ao;have aD:=ai.aG;clear a';replace aR:=aR.to ao;have a':=aR.da;clear al;replace ad:=ad.to ao;have al:=ad.aG;have qW:=bT.lt
 go_wp2_with fail
 refine (Wv af ae sp aj c2 ws ak c3 U bf.out.h2 bf.out.h3 bf.out.n2 bf.out.n3 bf.out.cp val dv bV bY bC.out cX.out _ (bJ.out.r2.below (ah I av)) (bJ.out.hr.below (ah I av))).mono ?_
 exact KY
theorem akT (an ar aj ak aA:Option Addr) (c0 c1 c2 c3 c4:Nat) (rs:List aJ) (qs:List aL) (af ae sp:Int) (ws:List Int) (U:List aI) (os:List Out) (Z:eC an ar aj ak aA c0 c1 c2 c3 c4 rs qs ws U os) (mem val yes no bx:Int) (dv:Int) (bV:List Int) (bY:List aI) (aw:mB ⟨af,ae,sp,ws,U⟩ =true) (he:mZ ⟨af,ae,sp,ws,U⟩ =⟨af,ae,dv,bV,bY⟩) (aO:dD rs qs= true) (bO:ho rs qs= true) (w:World) (R:ea w an ar aj ak aA rs qs ws U os):
 Calls Tryz.prog 179 #[.agg #[.slice an rs c0,.slice ar qs c1,af,ae,sp,.slice aj ws c2,.slice ak U c3,.slice aA os c4],.agg #[(6:Int),mem,val,yes,no,bx]] w fun e ag=>∃cI e0 cF e1 bg d2 bn d3 cJ e4,e= .returned (.tuple #[.agg #[.slice cI rs e0,.slice cF qs e1,af,ae,dv,.slice bg bV d2,.slice bn bY d3,.slice cJ os e4],true])∧gA w ag cI e0 cF e1 bg d2 bn d3 cJ e4 rs qs bV bY os∧Below w w ag:=by
 have bJ:=J R;have bf:=J Z;have eg:=J aO;have fG:=J bO;have bC:=J aw;have cX:=J he;clear R Z aO bO aw he
 go_in
 go_upto_region 1 with fail
 refine fr fun aF au ai aR ad=>?_
 have I:=au;have aD:=ai.aG;have a':=aR.da;have al:=ad.aG;have gy:=ad.lt
 go_upto_region 2 with fail
 refine cR fun kP ao bT=>?_
 replace I:=ah I ao;have bo:=bT.aP;clear aD;replace ai:=ai.to ao;have aD:=ai.aG;clear a';replace aR:=aR.to ao;have a':=aR.da;clear al;replace ad:=ad.to ao;have al:=ad.aG;have qW:=bT.lt
 go_wp2_with fail
 refine (Ww af ae sp aj c2 ws ak c3 U bf.out.h2 bf.out.h3 bf.out.n2 bf.out.n3 bf.out.cp dv bV bY bC.out cX.out _ (bJ.out.r2.below (ah I av)) (bJ.out.hr.below (ah I av))).mono ?_
 exact KY
theorem Lb {p:Prop} (h:p:=by
 rintro e bB ⟨rfl,bG⟩
 have aK:=be kP bG;replace I:=ah I aK;clear aD;clear a';replace ad:=ad.to aK;clear al;have al:=ad.aG;replace bT:=bT.to aK;clear bo;have bo:=bT.aP;have su:=bT.jn
 go_upto_region 11 with fail
 clear al bo
 refine gR 0 fun nx eS=>?_
 replace I:=eS.aE I;replace ad:=eS.dM ad;have al:=ad.aG;clear su;have ep:=ad.jh
 go_wp2
 clear al
 refine iK 0 fun cS aC=>?_
 replace I:=aC.aE I;replace ad:=aC.jg ad;have al:=ad.aG
 exact hg ⟨rfl,I⟩ (by simp [results,Tryz.results179,go_sem,al])):p:=h
theorem akJ (an ar aj ak aA:Option Addr) (c0 c1 c2 c3 c4:Nat) (rs:List aJ) (qs:List aL) (af ae sp:Int) (ws:List Int) (U:List aI) (os:List Out) (Z:eC an ar aj ak aA c0 c1 c2 c3 c4 rs qs ws U os) (mem val yes no bx:Int) (aw:ob ⟨af,ae,sp,ws,U⟩ mem= false) (aO:dD rs qs= true) (w:World) (R:ea w an ar aj ak aA rs qs ws U os):
 Calls Tryz.prog 179 #[.agg #[.slice an rs c0,.slice ar qs c1,af,ae,sp,.slice aj ws c2,.slice ak U c3,.slice aA os c4],.agg #[(3:Int),mem,val,yes,no,bx]] w fun e ag=>e= .returned (.tuple #[.agg #[.slice none 0 0,.slice none 0 0,(0:Int),(0:Int),(0:Int),.slice none 0 0,.slice none 0 0,.slice none 0 0],false])∧Below w w ag:=by
 have bJ:=J R;have bf:=J Z;clear R Z aO;have bC:=J aw;clear aw
 go_in
 go_upto_region 1 with fail
 refine fr fun aF au ai aR ad=>?_
 have I:=au;have aD:=ai.aG;have a':=aR.da;have al:=ad.aG;have gy:=ad.lt
 go_upto_region 2 with fail
 refine cR fun kP ao bT=>?_
 replace I:=ah I ao;have bo:=bT.aP;clear aD;replace ai:=ai.to ao;have aD:=ai.aG;clear a';replace aR:=aR.to ao;have a':=aR.da;clear al;replace ad:=ad.to ao;have al:=ad.aG
 go_wp2_with fail
 refine (akv af ae sp aj c2 ws ak c3 U bf.out.h2 bf.out.h3 bf.out.n2 bf.out.n3 bf.out.cp mem bC.out _ (bJ.out.r2.below (ah I av)) (bJ.out.hr.below (ah I av))).mono ?_
 exact Lb
theorem Rg {p:Prop} (h:p:=by
 have e1:=congrArg ey.af he;have e2:=congrArg ey.ae he
 simp only [qF,rR,mZ] at e1 e2
 first | exact⟨e1,e2⟩ | (unfold jG at e1 e2;split at e1 <;> rename_i aE <;> (first | rw [if_pos aE] at e2 | rw [if_neg aE] at e2) <;> exact⟨e1,e2⟩)):p:=h
theorem KZ {p:Prop} (h:p:=by
 rintro e bB ⟨bg,d2,bn,d3,rfl,ds,bG⟩
 have aK:=be kP bG;replace I:=ah I aK;replace ai:=ai.to aK;clear aD;have aD:=ai.aG;clear a';replace ad:=ad.to aK;clear al;have al:=ad.aG;replace bT:=bT.to aK;clear bo;have bo:=bT.aP;clear ds;have su:=bT.jn
 go_upto_region 11 with fail
 clear aD al bo
 refine gR 0 fun nx eS=>?_
 replace I:=eS.aE I;replace ai:=eS.dM ai;replace ad:=eS.dM ad;have aD:=ai.aG;have al:=ad.aG;clear su
 go_wp2_with fail
 refine (Dj rs qs af ae sp ws U os an ar aj ak aA c0 c1 c2 c3 c4 bf.out.h0 bf.out.h1 bf.out.h2 bf.out.h3 bf.out.h4 eg.out false fG.out _ (bJ.out.fF.below (ah I av)) (bJ.out.dJ.below (ah I av)) (bJ.out.r2.below (ah I av)) (bJ.out.hr.below (ah I av)) (bJ.out.nJ.below (ah I av))).mono ?_
 rintro e ca ⟨rfl,cU⟩
 have bS:=be nx cU;replace I:=ah I bS;clear aD;replace ad:=ad.to bS;clear al;have al:=ad.aG;have ep:=ad.jh
 go_wp2
 clear al
 refine iK 0 fun cS aC=>?_
 replace I:=aC.aE I;replace ad:=aC.jg ad;have al:=ad.aG
 exact hg ⟨rfl,I⟩ (by simp [results,Tryz.results179,go_sem,al])):p:=h
theorem akI (an ar aj ak aA:Option Addr) (c0 c1 c2 c3 c4:Nat) (rs:List aJ) (qs:List aL) (af ae sp:Int) (ws:List Int) (U:List aI) (os:List Out) (Z:eC an ar aj ak aA c0 c1 c2 c3 c4 rs qs ws U os) (mem val yes no bx:Int) (aw:ob ⟨af,ae,sp,ws,U⟩ mem= true) (bO:ho rs qs= false) (aO:dD rs qs= true) (w:World) (R:ea w an ar aj ak aA rs qs ws U os):
 Calls Tryz.prog 179 #[.agg #[.slice an rs c0,.slice ar qs c1,af,ae,sp,.slice aj ws c2,.slice ak U c3,.slice aA os c4],.agg #[(3:Int),mem,val,yes,no,bx]] w fun e ag=>e= .returned (.tuple #[.agg #[.slice none 0 0,.slice none 0 0,(0:Int),(0:Int),(0:Int),.slice none 0 0,.slice none 0 0,.slice none 0 0],false])∧Below w w ag:=by
 have bJ:=J R;have bf:=J Z;have eg:=J aO;clear R Z aO;have bC:=J aw;clear aw;have fG:=J bO;clear bO
 obtain⟨⟨fl,cf,dv,bV,bY⟩,he⟩ :∃f,qF ⟨af,ae,sp,ws,U⟩ mem= f:=⟨_,rfl⟩
 obtain⟨rfl,rfl⟩ :af= fl∧ae= cf:=by
  exact Rg
 have cX:=J he;clear he
 go_in
 go_upto_region 1 with fail
 refine fr fun aF au ai aR ad=>?_
 have I:=au;have aD:=ai.aG;have a':=aR.da;have al:=ad.aG;have gy:=ad.lt
 go_upto_region 2 with fail
 refine cR fun kP ao bT=>?_
 replace I:=ah I ao;have bo:=bT.aP;clear aD;replace ai:=ai.to ao;have aD:=ai.aG;clear a';replace aR:=aR.to ao;have a':=aR.da;clear al;replace ad:=ad.to ao;have al:=ad.aG
 go_wp2_with fail
 refine (Wt af ae sp aj c2 ws ak c3 U bf.out.h2 bf.out.h3 bf.out.n2 bf.out.n3 bf.out.cp mem dv bV bY bC.out cX.out _ (bJ.out.r2.below (ah I av)) (bJ.out.hr.below (ah I av))).mono ?_
 exact KZ
theorem akM (an ar aj ak aA:Option Addr) (c0 c1 c2 c3 c4:Nat) (rs:List aJ) (qs:List aL) (af ae sp:Int) (ws:List Int) (U:List aI) (os:List Out) (Z:eC an ar aj ak aA c0 c1 c2 c3 c4 rs qs ws U os) (mem val yes no bx:Int) (aw:mT ⟨af,ae,sp,ws,U⟩ =false) (aO:dD rs qs= true) (w:World) (R:ea w an ar aj ak aA rs qs ws U os):
 Calls Tryz.prog 179 #[.agg #[.slice an rs c0,.slice ar qs c1,af,ae,sp,.slice aj ws c2,.slice ak U c3,.slice aA os c4],.agg #[(4:Int),mem,val,yes,no,bx]] w fun e ag=>e= .returned (.tuple #[.agg #[.slice none 0 0,.slice none 0 0,(0:Int),(0:Int),(0:Int),.slice none 0 0,.slice none 0 0,.slice none 0 0],false])∧Below w w ag:=by
 have bJ:=J R;have bf:=J Z;clear R Z aO;have bC:=J aw;clear aw
 go_in
 go_upto_region 1 with fail
 refine fr fun aF au ai aR ad=>?_
 have I:=au;have aD:=ai.aG;have a':=aR.da;have al:=ad.aG;have gy:=ad.lt
 go_upto_region 2 with fail
 refine cR fun kP ao bT=>?_
 replace I:=ah I ao;have bo:=bT.aP;clear aD;replace ai:=ai.to ao;have aD:=ai.aG;clear a';replace aR:=aR.to ao;have a':=aR.da;clear al;replace ad:=ad.to ao;have al:=ad.aG
 go_wp2_with fail
 refine (alr af ae sp aj c2 ws ak c3 U bf.out.h2 bf.out.h3 bf.out.n2 bf.out.n3 bf.out.cp bC.out _ (bJ.out.r2.below (ah I av)) (bJ.out.hr.below (ah I av))).mono ?_
 exact Lb
theorem akL (an ar aj ak aA:Option Addr) (c0 c1 c2 c3 c4:Nat) (rs:List aJ) (qs:List aL) (af ae sp:Int) (ws:List Int) (U:List aI) (os:List Out) (Z:eC an ar aj ak aA c0 c1 c2 c3 c4 rs qs ws U os) (mem val yes no bx:Int) (aw:mT ⟨af,ae,sp,ws,U⟩ =true) (bO:ho rs qs= false) (aO:dD rs qs= true) (w:World) (R:ea w an ar aj ak aA rs qs ws U os):
 Calls Tryz.prog 179 #[.agg #[.slice an rs c0,.slice ar qs c1,af,ae,sp,.slice aj ws c2,.slice ak U c3,.slice aA os c4],.agg #[(4:Int),mem,val,yes,no,bx]] w fun e ag=>e= .returned (.tuple #[.agg #[.slice none 0 0,.slice none 0 0,(0:Int),(0:Int),(0:Int),.slice none 0 0,.slice none 0 0,.slice none 0 0],false])∧Below w w ag:=by
 have bJ:=J R;have bf:=J Z;have eg:=J aO;clear R Z aO;have bC:=J aw;clear aw;have fG:=J bO;clear bO
 obtain⟨q,aZ,_⟩:=Pv (f:=⟨af,ae,sp,ws,U⟩) (by have:=bC.out;simp only [mT,Bool.and_eq_true,decide_eq_true_eq] at this;exact this.2.2)
 have cV:=J aZ;clear aZ
 obtain⟨bV,he⟩ :∃bV,(rR ⟨af,ae,sp,ws,U⟩ q)=⟨af,ae,q,bV,U⟩:=⟨_,rfl⟩
 have cX:=J he;clear he
 go_in
 go_upto_region 1 with fail
 refine fr fun aF au ai aR ad=>?_
 have I:=au;have aD:=ai.aG;have a':=aR.da;have al:=ad.aG;have gy:=ad.lt
 go_upto_region 2 with fail
 refine cR fun kP ao bT=>?_
 replace I:=ah I ao;have bo:=bT.aP;clear aD;replace ai:=ai.to ao;have aD:=ai.aG;clear a';replace aR:=aR.to ao;have a':=aR.da;clear al;replace ad:=ad.to ao;have al:=ad.aG
 go_wp2_with fail
 refine (Wu af ae sp aj c2 ws ak c3 U bf.out.h2 bf.out.h3 bf.out.n2 bf.out.n3 bf.out.cp q cV.out q bV U bC.out cX.out _ (bJ.out.r2.below (ah I av)) (bJ.out.hr.below (ah I av))).mono ?_
 exact KZ
theorem akP (an ar aj ak aA:Option Addr) (c0 c1 c2 c3 c4:Nat) (rs:List aJ) (qs:List aL) (af ae sp:Int) (ws:List Int) (U:List aI) (os:List Out) (Z:eC an ar aj ak aA c0 c1 c2 c3 c4 rs qs ws U os) (mem val yes no bx:Int) (aw:oB ⟨af,ae,sp,ws,U⟩ val= false) (aO:dD rs qs= true) (w:World) (R:ea w an ar aj ak aA rs qs ws U os):
 Calls Tryz.prog 179 #[.agg #[.slice an rs c0,.slice ar qs c1,af,ae,sp,.slice aj ws c2,.slice ak U c3,.slice aA os c4],.agg #[(5:Int),mem,val,yes,no,bx]] w fun e ag=>e= .returned (.tuple #[.agg #[.slice none 0 0,.slice none 0 0,(0:Int),(0:Int),(0:Int),.slice none 0 0,.slice none 0 0,.slice none 0 0],false])∧Below w w ag:=by
 have bJ:=J R;have bf:=J Z;clear R Z aO;have bC:=J aw;clear aw
 go_in
 go_upto_region 1 with fail
 refine fr fun aF au ai aR ad=>?_
 have I:=au;have aD:=ai.aG;have a':=aR.da;have al:=ad.aG;have gy:=ad.lt
 go_upto_region 2 with fail
 refine cR fun kP ao bT=>?_
 replace I:=ah I ao;have bo:=bT.aP;clear aD;replace ai:=ai.to ao;have aD:=ai.aG;clear a';replace aR:=aR.to ao;have a':=aR.da;clear al;replace ad:=ad.to ao;have al:=ad.aG
 go_wp2_with fail
 refine (alx af ae sp aj c2 ws ak c3 U bf.out.h2 bf.out.h3 bf.out.n2 bf.out.n3 bf.out.cp val bC.out _ (bJ.out.r2.below (ah I av)) (bJ.out.hr.below (ah I av))).mono ?_
 exact Lb
theorem akO (an ar aj ak aA:Option Addr) (c0 c1 c2 c3 c4:Nat) (rs:List aJ) (qs:List aL) (af ae sp:Int) (ws:List Int) (U:List aI) (os:List Out) (Z:eC an ar aj ak aA c0 c1 c2 c3 c4 rs qs ws U os) (mem val yes no bx:Int) (aw:oB ⟨af,ae,sp,ws,U⟩ val= true) (bO:ho rs qs= false) (aO:dD rs qs= true) (w:World) (R:ea w an ar aj ak aA rs qs ws U os):
 Calls Tryz.prog 179 #[.agg #[.slice an rs c0,.slice ar qs c1,af,ae,sp,.slice aj ws c2,.slice ak U c3,.slice aA os c4],.agg #[(5:Int),mem,val,yes,no,bx]] w fun e ag=>e= .returned (.tuple #[.agg #[.slice none 0 0,.slice none 0 0,(0:Int),(0:Int),(0:Int),.slice none 0 0,.slice none 0 0,.slice none 0 0],false])∧Below w w ag:=by
 have bJ:=J R;have bf:=J Z;have eg:=J aO;clear R Z aO;have bC:=J aw;clear aw;have fG:=J bO;clear bO
 obtain⟨⟨fl,cf,dv,bV,bY⟩,he⟩ :∃f,jG ⟨af,ae,sp,ws,U⟩ val= f:=⟨_,rfl⟩
 obtain⟨rfl,rfl⟩ :af= fl∧ae= cf:=by
  exact Rg
 have cX:=J he;clear he
 go_in
 go_upto_region 1 with fail
 refine fr fun aF au ai aR ad=>?_
 have I:=au;have aD:=ai.aG;have a':=aR.da;have al:=ad.aG;have gy:=ad.lt
 go_upto_region 2 with fail
 refine cR fun kP ao bT=>?_
 replace I:=ah I ao;have bo:=bT.aP;clear aD;replace ai:=ai.to ao;have aD:=ai.aG;clear a';replace aR:=aR.to ao;have a':=aR.da;clear al;replace ad:=ad.to ao;have al:=ad.aG
 go_wp2_with fail
 refine (Wv af ae sp aj c2 ws ak c3 U bf.out.h2 bf.out.h3 bf.out.n2 bf.out.n3 bf.out.cp val dv bV bY bC.out cX.out _ (bJ.out.r2.below (ah I av)) (bJ.out.hr.below (ah I av))).mono ?_
 exact KZ
theorem akS (an ar aj ak aA:Option Addr) (c0 c1 c2 c3 c4:Nat) (rs:List aJ) (qs:List aL) (af ae sp:Int) (ws:List Int) (U:List aI) (os:List Out) (Z:eC an ar aj ak aA c0 c1 c2 c3 c4 rs qs ws U os) (mem val yes no bx:Int) (aw:mB ⟨af,ae,sp,ws,U⟩ =false) (aO:dD rs qs= true) (w:World) (R:ea w an ar aj ak aA rs qs ws U os):
 Calls Tryz.prog 179 #[.agg #[.slice an rs c0,.slice ar qs c1,af,ae,sp,.slice aj ws c2,.slice ak U c3,.slice aA os c4],.agg #[(6:Int),mem,val,yes,no,bx]] w fun e ag=>e= .returned (.tuple #[.agg #[.slice none 0 0,.slice none 0 0,(0:Int),(0:Int),(0:Int),.slice none 0 0,.slice none 0 0,.slice none 0 0],false])∧Below w w ag:=by
 have bJ:=J R;have bf:=J Z;clear R Z aO;have bC:=J aw;clear aw
 go_in
 go_upto_region 1 with fail
 refine fr fun aF au ai aR ad=>?_
 have I:=au;have aD:=ai.aG;have a':=aR.da;have al:=ad.aG;have gy:=ad.lt
 go_upto_region 2 with fail
 refine cR fun kP ao bT=>?_
 replace I:=ah I ao;have bo:=bT.aP;clear aD;replace ai:=ai.to ao;have aD:=ai.aG;clear a';replace aR:=aR.to ao;have a':=aR.da;clear al;replace ad:=ad.to ao;have al:=ad.aG
 go_wp2_with fail
 refine (alF af ae sp aj c2 ws ak c3 U bf.out.h2 bf.out.h3 bf.out.n2 bf.out.n3 bf.out.cp bC.out _ (bJ.out.r2.below (ah I av)) (bJ.out.hr.below (ah I av))).mono ?_
 exact Lb
theorem akR (an ar aj ak aA:Option Addr) (c0 c1 c2 c3 c4:Nat) (rs:List aJ) (qs:List aL) (af ae sp:Int) (ws:List Int) (U:List aI) (os:List Out) (Z:eC an ar aj ak aA c0 c1 c2 c3 c4 rs qs ws U os) (mem val yes no bx:Int) (aw:mB ⟨af,ae,sp,ws,U⟩ =true) (bO:ho rs qs= false) (aO:dD rs qs= true) (w:World) (R:ea w an ar aj ak aA rs qs ws U os):
 Calls Tryz.prog 179 #[.agg #[.slice an rs c0,.slice ar qs c1,af,ae,sp,.slice aj ws c2,.slice ak U c3,.slice aA os c4],.agg #[(6:Int),mem,val,yes,no,bx]] w fun e ag=>e= .returned (.tuple #[.agg #[.slice none 0 0,.slice none 0 0,(0:Int),(0:Int),(0:Int),.slice none 0 0,.slice none 0 0,.slice none 0 0],false])∧Below w w ag:=by
 have bJ:=J R;have bf:=J Z;have eg:=J aO;clear R Z aO;have bC:=J aw;clear aw;have fG:=J bO;clear bO
 obtain⟨⟨fl,cf,dv,bV,bY⟩,he⟩ :∃f,mZ ⟨af,ae,sp,ws,U⟩ =f:=⟨_,rfl⟩
 obtain⟨rfl,rfl⟩ :af= fl∧ae= cf:=by
  exact Rg
 have cX:=J he;clear he
 go_in
 go_upto_region 1 with fail
 refine fr fun aF au ai aR ad=>?_
 have I:=au;have aD:=ai.aG;have a':=aR.da;have al:=ad.aG;have gy:=ad.lt
 go_upto_region 2 with fail
 refine cR fun kP ao bT=>?_
 replace I:=ah I ao;have bo:=bT.aP;clear aD;replace ai:=ai.to ao;have aD:=ai.aG;clear a';replace aR:=aR.to ao;have a':=aR.da;clear al;replace ad:=ad.to ao;have al:=ad.aG
 go_wp2_with fail
 refine (Ww af ae sp aj c2 ws ak c3 U bf.out.h2 bf.out.h3 bf.out.n2 bf.out.n3 bf.out.cp dv bV bY bC.out cX.out _ (bJ.out.r2.below (ah I av)) (bJ.out.hr.below (ah I av))).mono ?_
 exact KZ
open Go.RowKit Go.G9
theorem acU {p:Prop} (h:p:=by
 clear aO
 go_in
 go_wp2_with fail
 refine (ox an c0 rs h0 ar c1 qs h1 _ eg.out _ (aU.below av) (aT.below av)).mono ?_
 rintro e bd ⟨rfl,bz⟩
 have au:=be w bz;have I:Below w w bd:=au;replace aU:=aU.below au;replace aT:=aT.below au
 go_wp2
 go_ret2
 exact⟨some ⟨_,0,none⟩,0,rfl,aV.made _ (by have:=I.size;first | omega | (simp;omega)) _,(ah I av)⟩):p:=h
theorem Zi (an:Option Addr) (c0:Nat) (rs:List aJ) (h0:rs.length≤1048576) (ar:Option Addr) (c1:Nat) (qs:List aL) (h1:qs.length≤1048576) (hT:qs.length≤c1) (mem:Int) (w:World) (aU:aH 7 aJ.cells w an rs) (aT:aH 3 aL.cells w ar qs):Calls Tryz.prog 233 #[.slice an rs c0,.slice ar qs c1,mem] w fun e ag=>∃A c,e= .returned (.tuple #[.slice A (jb (kz rs qs mem)).length c,.bool (kz rs qs mem).isSome])∧aV w 115 3 aL.cells ag (.slice A (jb (kz rs qs mem)).length c) (jb (kz rs qs mem))∧Below w w ag:=by
 obtain⟨i0,hi,dy,dC,dN⟩:=info_parts sH
 cases aO:dD rs qs
 ·have eg:=J aO
  rw [aaj aO]
  exact acU
 have eg:=J aO
 rw [aak aO]
 clear aO
 go_in
 go_wp2_with fail
 refine (ox an c0 rs h0 ar c1 qs h1 _ eg.out _ (aU.below av) (aT.below av)).mono ?_
 rintro e bd ⟨rfl,bz⟩
 have au:=be w bz;have I:Below w w bd:=au;replace aU:=aU.below au;replace aT:=aT.below au;have tP:=I.size;have gm:=J aT;clear aU aT
 go_wp2
 go_loopw [8] (fun i wr=>∃k:Nat,k≤qs.length∧i= .int .i64 ((k:Int) - 1)∧oD qs mem qs.length= oD qs mem k∧Below bd bd wr) (fun i _=>(intOf i + 1).toNat)
 case atStart=>exact⟨qs.length,Nat.le_refl _,rfl,rfl,Below.refl _ _⟩
 case round=>
  obtain⟨k,az,rfl,hw,aB⟩:=hrel
  have nN:=J hw;clear hw;have ZQ:=aB.size
  by_cases h0:0 < k
  ·exact acV
  ·obtain rfl:k= 0:=by omega
   have gu:Hid (oD qs mem qs.length= none):=J nN.out
   go_wp2
   go_ret2
   rw [gu.out]
   exact⟨some ⟨_,0,none⟩,0,rfl,aV.made _ (by omega) _,ah I (ah aB (bZ _ _))⟩
theorem acd {p:Prop} (h:p:=by
 have xw:=fB.base (by omega:w.heap.size≤_)
 simp only [jb,Option.getD_some]
 exact xw):p:=h
theorem apr (an:Option Addr) (c0:Nat) (rs:List aJ) (h0:rs.length≤1048576) (ar:Option Addr) (c1:Nat) (qs:List aL) (h1:qs.length≤1048576) (aR:ar= none→qs= []∧c1= 0) (hT:qs.length≤c1) (w:World) (aU:aH 7 aJ.cells w an rs) (aT:aH 3 aL.cells w ar qs):Calls Tryz.prog 234 #[.slice an rs c0,.slice ar qs c1] w fun e ag=>∃A c,e= .returned (.tuple #[.slice A (jb (lI rs qs)).length c,.bool (lI rs qs).isSome])∧aV w 115 3 aL.cells ag (.slice A (jb (lI rs qs)).length c) (jb (lI rs qs))∧Below w w ag:=by
 obtain⟨i0,hi,dy,dC,dN⟩:=info_parts sH
 have uf:=J aR;clear aR
 cases aO:dD rs qs
 ·have eg:=J aO
  rw [TJ aO]
  exact acU
 by_cases iA:qs.length= 0
 ·obtain rfl:=List.length_eq_zero_iff.1 iA
  rw [ME aO (JU rfl)]
  have eg:=J aO;clear aO iA hT
  cases ar with
  | none=>
   obtain⟨_,rfl⟩:=uf.out rfl
   go_in
   go_wp2_with fail
   refine (ox an c0 rs h0 none 0 [] h1 _ eg.out _ (aU.below av) (aT.below av)).mono ?_
   rintro e bd ⟨rfl,bz⟩
   have au:=be w bz;have I:Below w w bd:=au;replace aU:=aU.below au;replace aT:=aT.below au
   go_wp2
   go_ret2
   exact⟨some ⟨_,0,none⟩,0,rfl,aV.made _ (by have:=I.size;omega) _,(ah I av)⟩
  | some jf=>
   obtain⟨ab,Mp,Mq⟩:=jf
   go_in
   go_wp2_with fail
   refine (ox an c0 rs h0 (some ⟨ab,Mp,Mq⟩) c1 [] h1 _ eg.out _ (aU.below av) (aT.below av)).mono ?_
   rintro e bd ⟨rfl,bz⟩
   have au:=be w bz;have I:Below w w bd:=au;replace aU:=aU.below au;replace aT:=aT.below au;have tP:=I.size;have qA:=J (fun e u=>(aT.below (bZ bd (.cells #[] e))):∀(e:TypeId) (u:Unit),aH 3 aL.cells (bd.alloc (.cells #[] e)) (some ⟨ab,Mp,Mq⟩) ([]:List aL))
   go_wp2_with ((at_builtin;refine vx rfl _ _ 37 rfl bd.heap.size 115 i0 _ 3 24 Tryz.underlying37 hi dy dC dN rfl (by decide) aL.cells jP tL bd.heap.size rfl (aq.new _ _ _) (Nat.le_refl _) (some ⟨ab,Mp,Mq⟩) c1 ([]:List aL) 0 rfl rfl (qA.out _ ()) (fun h=>by cases h) (by simp [maxLen]) (by simp) ?_;intro bo cM nt fB eW))
   go_wp2
   go_ret2
   exact⟨some ⟨bo,0,none⟩,cM,rfl,fB.base (by omega),ah I (ah (bZ _ _) eW)⟩
 obtain⟨j,bH⟩ :∃j,qs.length= j + 1:=⟨qs.length - 1,by omega⟩
 obtain⟨gJ,gL,⟨qr,cg,dw⟩,uF,_,aZ,_⟩:=aT.at_ (Below.refl _ _) (k:=j) (by omega)
 obtain⟨t,cE⟩:=oA aO aZ
 have eH:=J bH;have cV:=J aZ;have bX:=J cE;have eg:=J aO
 have ie:j≤1048576:=by omega
 have NY:j + 1≤c1:=by omega
 have Ic:=J uF;have cX:=J (fun W h du=>ox an c0 rs h0 ar c1 qs h1 _ aO W h du)
 cases az:kt t ⟨qr,cg,dw⟩
 case false=>
  have fV:=J az
  rw [ME aO ((xR bH aZ cE).trans az)]
  skip
  rw [bH] at cX
  rw [show qs.length= j + 1 from bH]
  have ajo:j≤c1:=by omega
  clear aO az aZ cE bH iA h1 uF hT
  go_in
  go_wp2_with fail
  refine (cX.out _ (aU.below av) (aT.below av)).mono ?_
  rintro e bd ⟨rfl,bz⟩
  have au:=be w bz;have I:Below w w bd:=au;replace aU:=aU.below au;replace aT:=aT.below au
  obtain⟨_,_,y,e9,fS,hy,db⟩:=aT.at_ (Below.refl _ _) (k:=j) (by have:=eH.out;omega)
  obtain rfl:(⟨qr,cg,dw⟩ :aL)= y:=Option.some.inj (cV.out.symm.trans hy)
  have e8:=Ic.out
  rw [e8] at e9
  cases e9
  subst e8
  clear hy;have cu:=db 0 _ rfl;have dI:=db 1 _ rfl;have dj:=db 2 _ rfl
  simp only [Nat.add_zero] at cu
  have g0:=cu (ax.self _);have g1:=dI (ax.self _);have g2:=dj (ax.self _)
  simp only [ax.self] at g0
  simp only [ax.self] at g1
  simp only [ax.self] at g2
  clear db cu dI dj
  go_wp2_with fail
  refine (pK an c0 rs h0 ⟨qr,cg,dw⟩ t bX.out false fV.out _ (aU.below av)).mono ?_
  rintro e aM ⟨rfl,aN⟩
  have ao:=be bd aN;replace I:=ah I ao;replace aU:=aU.below ao;replace aT:=aT.below ao;have aR:=uf.out;have tP:=I.size;clear g0 g1 g2;have qA:=J (fun e u=>(aT.below (bZ aM (.cells #[] e))):∀(e:TypeId) (u:Unit),aH 3 aL.cells (aM.alloc (.cells #[] e)) (some ⟨gJ,gL,none⟩) qs)
  go_wp2_with ((at_builtin;refine vx rfl _ _ 37 rfl aM.heap.size 115 i0 _ 3 24 Tryz.underlying37 hi dy dC dN rfl (by decide) aL.cells jP tL aM.heap.size rfl (aq.new _ _ _) (Nat.le_refl _) (some ⟨gJ,gL,none⟩) c1 qs (j + 1) eH.out.symm rfl (qA.out _ ()) aR (by have:=eH.out.symm;unfold maxLen;omega) (by have:=eH.out.symm;omega) ?_;intro bo cM nt fB eW;clear aR))
  go_wp2
  go_ret2
  refine⟨some ⟨bo,0,none⟩,cM,by simp only [jb,Option.getD_some,eH.out];rfl,?_,ah I (ah (bZ _ _) eW)⟩
  exact acd
 case true=>
  have fV:=J az
  rw [TI aO ((xR bH aZ cE).trans az),show qs.length - 1= j by omega]
  have nb:=J (show (qs.take j).length= j by rw [List.length_take];omega)
  rw [bH] at cX
  rw [show qs.length= j + 1 from bH]
  have ajo:j≤c1:=by omega
  clear aO az aZ cE bH iA h1 uF hT
  go_in
  go_wp2_with fail
  refine (cX.out _ (aU.below av) (aT.below av)).mono ?_
  rintro e bd ⟨rfl,bz⟩
  have au:=be w bz;have I:Below w w bd:=au;replace aU:=aU.below au;replace aT:=aT.below au
  obtain⟨_,_,y,e9,fS,hy,db⟩:=aT.at_ (Below.refl _ _) (k:=j) (by have:=eH.out;omega)
  obtain rfl:(⟨qr,cg,dw⟩ :aL)= y:=Option.some.inj (cV.out.symm.trans hy)
  have e8:=Ic.out
  rw [e8] at e9
  cases e9
  subst e8
  clear hy;have cu:=db 0 _ rfl;have dI:=db 1 _ rfl;have dj:=db 2 _ rfl
  simp only [Nat.add_zero] at cu
  have g0:=cu (ax.self _);have g1:=dI (ax.self _);have g2:=dj (ax.self _)
  simp only [ax.self] at g0
  simp only [ax.self] at g1
  simp only [ax.self] at g2
  clear db cu dI dj
  go_wp2_with fail
  refine (pK an c0 rs h0 ⟨qr,cg,dw⟩ t bX.out true fV.out _ (aU.below av)).mono ?_
  rintro e aM ⟨rfl,aN⟩
  have ao:=be bd aN;replace I:=ah I ao;replace aU:=aU.below ao;replace aT:=aT.below ao;have aR:=uf.out;have tP:=I.size;clear g0 g1 g2;have qA:=J (fun e u=>((DH aT j).below (bZ aM (.cells #[] e))):∀(e:TypeId) (u:Unit),aH 3 aL.cells (aM.alloc (.cells #[] e)) (some ⟨gJ,gL,none⟩) (qs.take j))
  go_wp2_with ((at_builtin;refine vx rfl _ _ 37 rfl aM.heap.size 115 i0 _ 3 24 Tryz.underlying37 hi dy dC dN rfl (by decide) aL.cells jP tL aM.heap.size rfl (aq.new _ _ _) (Nat.le_refl _) (some ⟨gJ,gL,none⟩) c1 (qs.take j) j nb.out.symm rfl (qA.out _ ()) (fun h=>by cases h) (by have:=nb.out.symm;unfold maxLen;omega) (by have:=nb.out.symm;omega) ?_;intro bo cM nt fB eW;clear aR))
  go_wp2
  go_ret2
  refine⟨some ⟨bo,0,none⟩,cM,by simp only [jb,Option.getD_some,nb.out];rfl,?_,ah I (ah (bZ _ _) eW)⟩
  exact acd
open Go.RowKit Go.G9
theorem adz {p:Prop} (h:p:=by
 have zm:Below w w ca:=(hK.alloc hK.size _).grown gx (by have:=hK.size;simp;omega) (fun q aZ=>(yY.lt q aZ).1)
 go_roundw
 case rel=>exact⟨k + 1,by omega,by go_num,by rw [mh.out];exact fj,zm⟩
 case measure=>simp [intOf];omega):p:=h
theorem abf {p:Prop} (h:p:=by
 skip
 obtain rfl:k= rs.length:=by omega
 obtain⟨Y,gT,rfl,_,_,_⟩:=bP.form fZ
 go_wp2
 go_ret
 rw [cH.out]
 exact⟨Y,gT,rfl,bP,aB⟩):p:=h
theorem abE {p:Prop} (h:p:=by
 go_wp2
 go_ret
 rw [cH.out]
 obtain⟨Y,gT,aw,_,_,_⟩:=bP.form fZ
 subst aw
 exact⟨Y,gT,rfl,bP,aB⟩):p:=h
theorem Ph (an:Option Addr) (c0:Nat) (rs:List aJ) (h0:rs.length≤1048576) (ar:Option Addr) (c1:Nat) (qs:List aL) (h1:qs.length≤1048576) (aO:dD rs qs= true) (w:World) (aU:aH 7 aJ.cells w an rs) (aT:aH 3 aL.cells w ar qs):
 Calls Tryz.prog 165 #[.slice an rs c0,.slice ar qs c1] w fun e ag=>∃A c,e= .returned (.slice A (hz rs qs).length c)∧aV w 3 1 bR ag (.slice A (hz rs qs).length c) (hz rs qs)∧Below w w ag:=by
 obtain⟨i0,hi,dy,dC,dN⟩:=info_parts rN
 have ff:=J aU;have hJ:aV w 3 1 bR (w.alloc (.cells #[] 3)) (.slice w.heap.size 0 0) ([]:List Int):=aV.made w (Nat.le_refl _) _;have oj:Below w w (w.alloc (.cells #[] 3)):=bZ w _;have UK:=(nr aO).1
 by_cases iA:qs.length= 0
 ·have cH:=J (Xz aO iA)
  clear aU aT
  obtain rfl:=List.length_eq_zero_iff.1 iA
  clear iA
  go_in
  go_wp2
  go_loopw [5,7] (fun y i wr=>∃k:Nat,k≤rs.length∧i= .int .i64 k∧aV w 3 1 bR wr y (mx (-1) rs k)∧Below w w wr) (fun _ i _=>rs.length - (intOf i).toNat)
  case atStart=>exact⟨0,Nat.zero_le _,rfl,hJ,oj⟩
  case round=>
   clear hJ oj
   obtain⟨k,az,rfl,bP,aB⟩:=hrel
   by_cases bl:k < rs.length
   ·skip
    obtain⟨gJ,gL,x,rfl,dU,ay,bk⟩:=ff.out.at_ aB bl
    have jr:=zA (zB UK ay)
    obtain⟨pX,vB,hb,xs,vz,jv,vA,QE⟩:=x
    have cu:=bk 0 _ rfl
    simp only [Nat.add_zero] at cu
    have cb:=J ay;clear ay bk
    have bu:(-1) < hb:=by dsimp only at jr;omega
    have cT:=Hg (rk:=(-1)) cb.out bu;have mh:=J cT;clear cT
    go_wp2
    refine ew (by kernel_rfl) (by kernel_rfl) ?_
    repeat (go_big_quiet_step (fail))
    refine wpQuiet_nil ?_
    intro K
    have g0:=cu K;have hK:=ah aB K.below;have yY:=bP.later K.below;clear cu bP
    generalize K.world= hF at *
    go_wp2_with ((at_builtin;refine lA rfl _ _ 38 rfl w.heap.size 3 i0 _ 1 8 Tryz.underlying38 hi dy dC dN rfl (by decide) bR fZ pj _ (mx (-1) rs k) rfl (yY.alloc _) ⟨hF.heap.size,0,none⟩ 1 pX rfl (aH.one _ _) (by have:=xS (-1) rs k;unfold maxLen;omega) (by have:=xS (-1) rs k;omega) (by have:=hK.size;simp;omega) ?_;intro v4 ca fj gx lX))
    exact adz
   ·exact abf
 ·obtain⟨j,bH⟩ :∃j,qs.length= j + 1:=⟨qs.length - 1,by omega⟩
  obtain⟨dx,hU,⟨qr,cg,dw⟩,rfl,bz,aZ,oq⟩:=aT.at_ (Below.refl _ _) (k:=j) (by omega)
  obtain⟨t,cE⟩:=oA aO aZ
  have cV:=J aZ;have bX:=J cE;have eH:=J bH;have ahT:=(nr aO).2.1;have Io:Hid (aH 3 aL.cells w (some ⟨dx,hU,none⟩) qs):=J aT;clear aZ cE oq aT
  rw [bH] at ahT ⊢
  clear bH iA h1
  by_cases h6:j + 1= 6
  ·obtain rfl:j= 5:=by omega
   have cH:=J (JX eH.out cV.out bX.out (Or.inr eH.out));clear aO
   go_in
   go_wp2
   go_loopw [5,7] (fun y i wr=>i= .int .i64 0∧aV w 3 1 bR wr y ([]:List Int)∧Below w w wr) (fun _ i _=>0)
   case atStart=>exact⟨rfl,hJ,oj⟩
   case round=>
    clear hJ oj
    obtain⟨rfl,bP,aB⟩:=hrel
    rcases Nat.eq_zero_or_pos rs.length with h9 | h9
    ·obtain rfl:=List.length_eq_zero_iff.1 h9
     clear h9
     exact abE
    ·exact abE
  ·have tz:((j:Int) + 1 == 0)= false:=beq_eq_false_iff_ne.2 (by omega)
   have VT:decide ((j:Int) + 1 < 6)= true:=decide_eq_true (by omega)
   cases az:kt t ⟨qr,cg,dw⟩
   case true=>
    have fV:=J az;have cH:=J (JX eH.out cV.out bX.out (Or.inl az));clear az
    go_in
    go_wp2
    go_loopw [5,7] (fun y i wr=>∃k:Nat,k≤rs.length∧i= .int .i64 k∧aV w 3 1 bR wr y ([])∧Below w w wr) (fun _ i _=>rs.length - (intOf i).toNat)
    case atStart=>exact⟨0,Nat.zero_le _,rfl,hJ,oj⟩
    case round=>
     clear hJ oj
     obtain⟨k,az,rfl,bP,aB⟩:=hrel
     by_cases bl:k < rs.length
     ·obtain⟨_,_,QH,e9,fS,GR,db⟩:=Io.out.at_ aB (k:=j) (by have:=eH.out;omega)
      cases e9
      obtain rfl:(⟨qr,cg,dw⟩ :aL)= QH:=Option.some.inj (cV.out.symm.trans GR)
      clear GR;have iH:=db 0 _ rfl;have q1:=db 1 _ rfl;have gr:=db 2 _ rfl
      simp only [Nat.add_zero] at iH
      clear db
      go_wp2
      refine ew (by kernel_rfl) (by kernel_rfl) ?_
      repeat (go_big_quiet_step (fail))
      go_big_quiet_step ((go_at_call 163;exact ax.call _ (by first | exact Nat.le_refl _ | omega) (pK an c0 rs h0 ⟨qr,cg,dw⟩ t bX.out true fV.out _ (ff.out.below (ah aB (ax.below _))))))
      repeat (go_big_quiet_step (fail))
      refine wpQuiet_nil ?_
      intro K
      have hK:=ah aB K.below;have yY:=bP.later K.below;clear iH q1 gr bP
      generalize K.world= hF at *
      go_wp2
      go_roundw
      case rel=>exact⟨k + 1,by omega,by go_num,yY,hK⟩
      case measure=>simp [intOf];omega
     ·skip
      obtain⟨Y,gT,rfl,_,_,_⟩:=bP.form fZ
      go_wp2
      go_ret
      rw [cH.out]
      exact⟨Y,gT,rfl,bP,aB⟩
   case false=>
    have fV:=J az;have cH:=J (XC eH.out cV.out bX.out az (by have:=eH.out;omega));clear az
    obtain⟨zF,ir,fh,gS,iq,il,zE,KI⟩:=t
    go_in
    go_wp2
    go_loopw [5,7] (fun y i wr=>∃k:Nat,k≤rs.length∧i= .int .i64 k∧aV w 3 1 bR wr y (mx fh rs k)∧Below w w wr) (fun _ i _=>rs.length - (intOf i).toNat)
    case atStart=>exact⟨0,Nat.zero_le _,rfl,hJ,oj⟩
    case round=>
     clear hJ oj
     obtain⟨k,az,rfl,bP,aB⟩:=hrel
     by_cases bl:k < rs.length
     ·skip
      obtain⟨gJ,gL,x,hA0,dU,ay,bk⟩:=ff.out.at_ aB bl
      have jr:=zA (zB UK ay)
      obtain⟨pX,vB,hb,xs,vz,jv,vA,QE⟩:=x
      have cu:=bk 0 _ rfl;have dj:=bk 2 _ rfl
      simp only [Nat.add_zero] at cu
      have cb:=J ay;clear ay bk
      subst hA0
      obtain⟨_,_,QH,e9,fS,GR,db⟩:=Io.out.at_ aB (k:=j) (by have:=eH.out;omega)
      cases e9
      obtain rfl:(⟨qr,cg,dw⟩ :aL)= QH:=Option.some.inj (cV.out.symm.trans GR)
      clear GR;have iH:=db 0 _ rfl;have q1:=db 1 _ rfl;have gr:=db 2 _ rfl
      simp only [Nat.add_zero] at iH
      clear db
      by_cases bu:fh < hb
      ·have cT:=Hg (rk:=fh) cb.out bu;have mh:=J cT;clear cT
       go_wp2
       refine ew (by kernel_rfl) (by kernel_rfl) ?_
       repeat (go_big_quiet_step (fail))
       go_big_quiet_step ((go_at_call 163;exact ax.call _ (by first | exact Nat.le_refl _ | omega) (pK (some ⟨gJ,gL,none⟩) c0 rs h0 ⟨qr,cg,dw⟩ ⟨zF,ir,fh,gS,iq,il,zE,KI⟩ bX.out false fV.out _ (ff.out.below (ah aB (ax.below _))))))
       repeat (go_big_quiet_step (fail))
       go_big_quiet_step ((go_at_call 164;exact ax.call _ (by first | exact Nat.le_refl _ | omega) (Ds (some ⟨gJ,gL,none⟩) c0 rs h0 ⟨qr,cg,dw⟩ ⟨zF,ir,fh,gS,iq,il,zE,KI⟩ bX.out _ (ff.out.below (ah aB (ax.below _))))))
       repeat (go_big_quiet_step (fail))
       refine wpQuiet_nil ?_
       intro K
       have g0:=cu K;have hK:=ah aB K.below;have yY:=bP.later K.below;clear cu dj bP
       generalize K.world= hF at *
       clear iH q1 gr
       go_wp2_with ((at_builtin;refine lA rfl _ _ 38 rfl w.heap.size 3 i0 _ 1 8 Tryz.underlying38 hi dy dC dN rfl (by decide) bR fZ pj _ (mx (fh) rs k) rfl (yY.alloc _) ⟨hF.heap.size,0,none⟩ 1 pX rfl (aH.one _ _) (by have:=xS (fh) rs k;unfold maxLen;omega) (by have:=xS (fh) rs k;omega) (by have:=hK.size;simp;omega) ?_;intro v4 ca fj gx lX))
       exact adz
      ·have pg:decide (fh < hb)= false:=decide_eq_false bu
       have cT:=JW (rk:=fh) cb.out bu;have mh:=J cT;clear cT
       go_wp2
       refine ew (by kernel_rfl) (by kernel_rfl) ?_
       repeat (go_big_quiet_step (fail))
       go_big_quiet_step ((go_at_call 163;exact ax.call _ (by first | exact Nat.le_refl _ | omega) (pK (some ⟨gJ,gL,none⟩) c0 rs h0 ⟨qr,cg,dw⟩ ⟨zF,ir,fh,gS,iq,il,zE,KI⟩ bX.out false fV.out _ (ff.out.below (ah aB (ax.below _))))))
       repeat (go_big_quiet_step (fail))
       go_big_quiet_step ((go_at_call 164;exact ax.call _ (by first | exact Nat.le_refl _ | omega) (Ds (some ⟨gJ,gL,none⟩) c0 rs h0 ⟨qr,cg,dw⟩ ⟨zF,ir,fh,gS,iq,il,zE,KI⟩ bX.out _ (ff.out.below (ah aB (ax.below _))))))
       repeat (go_big_quiet_step (fail))
       refine wpQuiet_nil ?_
       intro K
       have hK:=ah aB K.below;have yY:=bP.later K.below;clear cu dj bP
       generalize K.world= hF at *
       clear iH q1 gr
       go_wp2
       go_roundw
       case rel=>exact⟨k + 1,by omega,by go_num,by rw [mh.out];exact yY,hK⟩
       case measure=>simp [intOf];omega
     ·exact abf
end Go.Proofs.YtlaaemmmbodaaaaGreatDoor
