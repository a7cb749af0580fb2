/- Parts. -/
import Derived.Test.YtlaaemmmbodaaaaGreatDoorRs5
set_option maxHeartbeats 16000000
set_option maxRecDepth 100000
set_option linter.unnecessarySimpa false
set_option linter.unusedSimpArgs false
set_option linter.unusedVariables false
namespace Go.Proofs.YtlaaemmmbodaaaaGreatDoor
open Go.RowKit Go.G9
structure ed (an ar ak al aA:Option Addr) (c0 au c2 c3 c4:Nat) (rs:List aM) (qs:List aN) (ws:List Int) (ad:List aK) (os:List Out):Prop where
 h0:rs.length≤1048576
 h1:qs.length≤1048576
 h2:ws.length≤1048576
 h3:ad.length≤1048576
 h4:os.length≤1048576
 n0:an= none→rs= []∧c0= 0
 n1:ar= none→qs= []∧au= 0
 n2:ak= none→ws= []∧c2= 0
 n3:al= none→ad= []∧c3= 0
 n4:aA= none→os= []∧c4= 0
 dP:rs.length≤c0
 eh:qs.length≤au
 cm:ws.length≤c2
 dS:ad.length≤c3
 gD:os.length≤c4
structure dL (w:World) (an ar ak al aA:Option Addr) (rs:List aM) (qs:List aN) (ws:List Int) (ad:List aK) (os:List Out):Prop where
 ft:aJ 7 aM.cells w an rs
 dz:aJ 3 aN.cells w ar qs
 r2:aJ 1 bU w ak ws
 gG:aJ 3 aK.cells w al ad
 lF:aJ 3 Out.cells w aA os
structure gi (B:Nat) (w:World) (cl:Option Addr) (d0:Nat) (cN:Option Addr) (d1:Nat) (bk:Option Addr) (d2:Nat) (bo:Option Addr) (d3:Nat) (cn:Option Addr) (d4:Nat) (rs:List aM) (qs:List aN) (ws:List Int) (ad:List aK) (os:List Out):Prop where
 kp:aX B 89 7 aM.cells w (.slice cl rs.length d0) rs
 hO:aX B 115 3 aN.cells w (.slice cN qs.length d1) qs
 fg:aX B 3 1 bU w (.slice bk ws.length d2) ws
 fF:aX B 214 3 aK.cells w (.slice bo ad.length d3) ad
 lE:aX B 163 3 Out.cells w (.slice cn os.length d4) os
section
variable {B B':Nat} {w ah:World} {an ar ak al aA cl cN bk bo cn:Option Addr} {c0 au c2 c3 c4 d0 d1 d2 d3 d4:Nat} {rs:List aM} {qs:List aN} {ws:List Int} {ad:List aK} {os:List Out}
theorem dL.U (h:dL w an ar ak al aA rs qs ws ad os) (aE:Below w w ah):dL ah an ar ak al aA rs qs ws ad os:=⟨h.ft.U aE,h.dz.U aE,h.r2.U aE,h.gG.U aE,h.lF.U aE⟩
theorem gi.bh (h:gi B w cl d0 cN d1 bk d2 bo d3 cn d4 rs qs ws ad os) (aE:Below w w ah):gi B ah cl d0 cN d1 bk d2 bo d3 cn d4 rs qs ws ad os:=⟨h.kp.bh aE,h.hO.bh aE,h.fg.bh aE,h.fF.bh aE,h.lE.bh aE⟩
theorem gi.base (h:gi B w cl d0 cN d1 bk d2 bo d3 cn d4 rs qs ws ad os) (aE:B'≤B):gi B' w cl d0 cN d1 bk d2 bo d3 cn d4 rs qs ws ad os:=⟨h.kp.base aE,h.hO.base aE,h.fg.base aE,h.fF.base aE,h.lE.base aE⟩
theorem amR:gi B w none 0 none 0 none 0 none 0 none 0 [] [] [] [] []:=⟨aX.nil,aX.nil,aX.nil,aX.nil,aX.nil⟩
theorem AY (x:Out):(Out.cells x).length= 3:=rfl
theorem PN (x:Out):∀u,u ∈ Out.cells x→u.oneCell'= true:=by
 intro u hu
 simp only [Out.cells,List.mem_cons,List.not_mem_nil,or_false] at hu
 rcases hu with rfl | rfl | rfl <;> rfl
theorem gi.rd (h:gi B w cl d0 cN d1 bk d2 bo d3 cn d4 rs qs ws ad os):dL w cl cN bk bo cn rs qs ws ad os:=⟨h.kp.fk Qk,h.hO.fk jE,h.fg.fk fZ,h.fF.fk ij,h.lE.fk AY⟩
theorem rP {T:Type} {sz:Nat} {f:T→List Value} {e:TypeId} {A:Option Addr} {n c:Nat} {xs:List T} (h:aX B e sz f w (.slice A n c) xs) (hf:∀y,(f y).length= sz):xs.length≤c:=by
 exact acB
theorem gi.JQ (h:gi B w cl d0 cN d1 bk d2 bo d3 cn d4 rs qs ws ad os) (h0:rs.length≤1048576) (h1:qs.length≤1048576) (h2:ws.length≤1048576) (h3:ad.length≤1048576) (h4:os.length≤1048576):ed cl cN bk bo cn d0 d1 d2 d3 d4 rs qs ws ad os:=
 ⟨h0,h1,h2,h3,h4,h.kp.mJ,h.hO.mJ,h.fg.mJ,h.fF.mJ,h.lE.mJ,rP h.kp Qk,rP h.hO jE,rP h.fg fZ,rP h.fF ij,rP h.lE AY⟩
theorem gi.apart (h:gi B w cl d0 cN d1 bk d2 bo d3 cn d4 rs qs ws ad os):rY [.slice cl rs d0,.slice cN qs d1,.slice bk ws d2,.slice bo ad d3,.slice cn os d4]:=by
 unfold rY
 refine List.Pairwise.cons (fun u hu=>?_) (List.Pairwise.cons (fun u hu=>?_) (List.Pairwise.cons (fun u hu=>?_) (List.Pairwise.cons (fun u hu=>?_) (List.Pairwise.cons (fun u hu=>by simp at hu) List.Pairwise.nil))))
 ·simp only [List.mem_cons,List.not_mem_nil,or_false] at hu
  rcases hu with rfl | rfl | rfl | rfl
  ·exact h.kp.apart h.hO (by decide)
  ·exact h.kp.apart h.fg (by decide)
  ·exact h.kp.apart h.fF (by decide)
  ·exact h.kp.apart h.lE (by decide)
 ·simp only [List.mem_cons,List.not_mem_nil,or_false] at hu
  rcases hu with rfl | rfl | rfl
  ·exact h.hO.apart h.fg (by decide)
  ·exact h.hO.apart h.fF (by decide)
  ·exact h.hO.apart h.lE (by decide)
 ·simp only [List.mem_cons,List.not_mem_nil,or_false] at hu
  rcases hu with rfl | rfl
  ·exact h.fg.apart h.fF (by decide)
  ·exact h.fg.apart h.lE (by decide)
 ·simp only [List.mem_cons,List.not_mem_nil,or_false] at hu
  subst hu
  exact h.fF.apart h.lE (by decide)
end
def Hn (rs:List aM) (qs:List aN) (ag af sp:Int) (ws:List Int) (ad:List aK) (os:List Out):lu ((Option Addr×Nat)×Option Addr×Nat) where
 par:=fun n=>match n with
  | 3=>[0]
  | 7=>[4]
  | 14=>[11]
  | _=>[]
 val:=fun n p=>match n with
  | 0=> .slice p.1.1 0 0
  | 3=> .slice p.1.1 rs.length p.1.2
  | 4=> .slice p.1.1 0 0
  | 7=> .slice p.1.1 qs.length p.1.2
  | 10=> .agg #[.int .i64 ag,.int .i64 af,.int .i64 sp,.slice p.1.1 ws.length p.1.2,.slice p.2.1 ad.length p.2.2]
  | 11=> .slice p.1.1 0 0
  | 14=> .slice p.1.1 os.length p.1.2
  | _=>undef
 post:=fun n bu p cY V=>match n with
  | 0=>p.1.1= some ⟨cY.heap.size,0,none⟩∧aC V cY.heap.size 89 #[]
  | 3=>∃g,(bu 0).1.1= some ⟨g,0,none⟩∧aX g 89 7 aM.cells V (.slice p.1.1 rs.length p.1.2) rs
  | 4=>p.1.1= some ⟨cY.heap.size,0,none⟩∧aC V cY.heap.size 115 #[]
  | 7=>∃g,(bu 4).1.1= some ⟨g,0,none⟩∧aX g 115 3 aN.cells V (.slice p.1.1 qs.length p.1.2) qs
  | 10=>jH cY.heap.size V p.1.1 p.1.2 p.2.1 p.2.2 ws ad
  | 11=>p.1.1= some ⟨cY.heap.size,0,none⟩∧aC V cY.heap.size 163 #[]
  | 14=>∃g,(bu 11).1.1= some ⟨g,0,none⟩∧aX g 163 3 Out.cells V (.slice p.1.1 os.length p.1.2) os
  | _=>True
theorem DM {p:Prop} (h:p:=by
 change wpList _ _ _ (_ ::[]) _ _
 go_wp2
 exact hZ ⟨((some ⟨k.world.heap.size,0,none⟩,0),none,0),rfl,ca _ _,rfl,aC.new _ _ _⟩):p:=h
theorem acH {p:Prop} (h:p:=by
 change wpList _ _ _ (_ ::[]) _ _
 obtain⟨gR,uh,qJ,⟨mA,mB⟩,mC⟩:=fO 0 (by simp [Hn])
 have mD:=mB.to mC;have jP:(bu 0).1.1= some ⟨gR.heap.size,0,none⟩:=mA;have qv:=J (bL.out.ft.U ((iI.out _).1 k.holds).1);have qu:=J mD;clear mD mB mA qJ mC fO
 rw [jP]
 have lY:=J jP;clear jP
 go_wp2_with ((at_builtin;refine zB rfl _ _ 29 rfl gR.heap.size 89 i0 _ 7 48 Tryz.underlying29 hi dk dx dC rfl (by decide) aM.cells Qk aoP gR.heap.size rfl qu.out (Nat.le_refl _) an c0 rs rfl qv.out m0 (by unfold maxLen;omega) (by omega) ?_;intro br cO ah fz eZ))
 first | exact hZ ⟨((some ⟨br,0,none⟩,cO),none,0),rfl,eZ,gR.heap.size,lY.out,fz⟩ | exact hZ ⟨(some ⟨br,0,none⟩,cO),(none,0),rfl,eZ,gR.heap.size,lY.out,fz⟩ | exact hZ ⟨some ⟨br,0,none⟩,cO,none,0,rfl,eZ,gR.heap.size,lY.out,fz⟩):p:=h
theorem acG {p:Prop} (h:p:=by
 change wpList _ _ _ (_ ::[]) _ _
 obtain⟨gR,uh,qJ,⟨mA,mB⟩,mC⟩:=fO 4 (by simp [Hn])
 have mD:=mB.to mC;have jP:(bu 4).1.1= some ⟨gR.heap.size,0,none⟩:=mA;have qv:=J (bL.out.dz.U ((iI.out _).1 k.holds).1);have qu:=J mD;clear mD mB mA qJ mC fO
 rw [jP]
 have lY:=J jP;clear jP
 go_wp2_with ((at_builtin;refine zB rfl _ _ 37 rfl gR.heap.size 115 CR _ 3 24 Tryz.underlying37 Xc Xf Xg Xh rfl (by decide) aN.cells jE tz gR.heap.size rfl qu.out (Nat.le_refl _) ar au qs rfl qv.out m1 (by unfold maxLen;omega) (by omega) ?_;intro br cO ah fz eZ))
 first | exact hZ ⟨((some ⟨br,0,none⟩,cO),none,0),rfl,eZ,gR.heap.size,lY.out,fz⟩ | exact hZ ⟨(some ⟨br,0,none⟩,cO),(none,0),rfl,eZ,gR.heap.size,lY.out,fz⟩ | exact hZ ⟨some ⟨br,0,none⟩,cO,none,0,rfl,eZ,gR.heap.size,lY.out,fz⟩):p:=h
theorem acF {p:Prop} (h:p:=by
 change wpList _ _ _ (_ ::[]) _ _
 obtain⟨gR,uh,qJ,⟨mA,mB⟩,mC⟩:=fO 11 (by simp [Hn])
 have mD:=mB.to mC;have jP:(bu 11).1.1= some ⟨gR.heap.size,0,none⟩:=mA;have qv:=J (bL.out.lF.U ((iI.out _).1 k.holds).1);have qu:=J mD;clear mD mB mA qJ mC fO
 rw [jP]
 have lY:=J jP;clear jP
 go_wp2_with ((at_builtin;refine zB rfl _ _ 42 rfl gR.heap.size 163 km _ 3 24 Tryz.underlying42 li XF XG XH rfl (by decide) Out.cells AY PN gR.heap.size rfl qu.out (Nat.le_refl _) aA c4 os rfl qv.out m4 (by unfold maxLen;omega) (by omega) ?_;intro br cO ah fz eZ))
 first | exact hZ ⟨((some ⟨br,0,none⟩,cO),none,0),rfl,eZ,gR.heap.size,lY.out,fz⟩ | exact hZ ⟨(some ⟨br,0,none⟩,cO),(none,0),rfl,eZ,gR.heap.size,lY.out,fz⟩ | exact hZ ⟨some ⟨br,0,none⟩,cO,none,0,rfl,eZ,gR.heap.size,lY.out,fz⟩):p:=h
theorem Kk (an ar ak al aA:Option Addr) (c0 au c2 c3 c4:Nat) (rs:List aM) (qs:List aN) (ag af sp:Int) (ws:List Int) (ad:List aK) (os:List Out) (Z:ed an ar ak al aA c0 au c2 c3 c4 rs qs ws ad os) (w:World) (R:dL w an ar ak al aA rs qs ws ad os):
 Calls Tryz.prog 96 #[.agg #[.slice an rs c0,.slice ar qs au,ag,af,sp,.slice ak ws c2,.slice al ad c3,.slice aA os c4]] w fun e ah=>∃cl d0 cN d1 bk d2 bo d3 cn d4,e= .returned (.agg #[.slice cl rs d0,.slice cN qs d1,ag,af,sp,.slice bk ws d2,.slice bo ad d3,.slice cn os d4])∧gi w ah cl d0 cN d1 bk d2 bo d3 cn d4 rs qs ws ad os∧Below w w ah:=by
 obtain⟨i0,hi,dk,dx,dC⟩:=info_parts Pm
 obtain⟨CR,Xc,Xf,Xg,Xh⟩:=info_parts sE
 obtain⟨km,li,XF,XG,XH⟩:=info_parts GR
 have bL:=J R;have bj:=J Z;have eb:=Z.h0;have ds:=Z.h1;have fm:=Z.h4;have m0:=Z.n0;have m1:=Z.n1;have m4:=Z.n4;clear R Z
 go_in
 go_upto_region 1 with fail
 refine fp fun aH av aj ae=>?_
 have I:=av;have aF:=aj.aI;have aq:=ae.aI;have gv:=ae.lt
 obtain⟨tP,yM⟩ :∃X:World→Prop,∀V,X V↔(Below w w V∧aC V (w.heap.size) 44 #[.slice an rs c0,.slice ar qs au,ag,af,sp,.slice ak ws c2,.slice al ad c3,.slice aA os c4]):=⟨_,fun _=>Iff.rfl⟩
 have iI:=J yM;clear yM
 haveI:Nonempty (cP tP):=⟨⟨aH,((iI.out _).2 ⟨I,aj⟩)⟩⟩
 clear aF;clear aq;have aF:=aC.qb (fun K:cP tP=>((iI.out _).1 K.holds).2)
 go_wp2
 refine Bv (Hn rs qs ag af sp ws ad os) tP [([],0),([1,2],3),([],4),([5,6],7),([8,9],10),([],11),([12,13],14)] [15] [([],16)] [] (by kernel_rfl) (by kernel_rfl) ((iI.out _).2 ⟨I.drew,aj⟩) (fun W eF h k=>((iI.out _).2 ⟨((iI.out _).1 h).1.trans (k.mono ((iI.out _).1 h).1.size),((iI.out _).1 h).2.U k ((iI.out _).1 h).2.lt⟩)) ?_
 intro bu
 refine iF (some 3) rfl (.slice (bu 0).1.1 0 0) rfl fun hH eN=>?_
 change wpQuiet _ _ _ _ ([]) _
 refine wpQuiet_nil ?_
 refine⟨fun k fO=>?_,eN _ ?_⟩
 ·exact DM
 simp only [Act.put]
 go_simp
 refine iF (some 6) rfl (.slice (bu 3).1.1 rs.length (bu 3).1.2) rfl fun hH eN=>?_
 change wpQuiet _ _ _ _ (_ ::_ ::[]) _
 repeat (go_big_quiet_step (fail))
 refine wpQuiet_nil ?_
 refine⟨fun k fO=>?_,eN _ ?_⟩
 ·exact acH
 simp only [Act.put]
 go_simp
 refine iF (some 7) rfl (.slice (bu 4).1.1 0 0) rfl fun hH eN=>?_
 change wpQuiet _ _ _ _ ([]) _
 refine wpQuiet_nil ?_
 refine⟨fun k fO=>?_,eN _ ?_⟩
 ·exact DM
 simp only [Act.put]
 go_simp
 refine iF (some 10) rfl (.slice (bu 7).1.1 qs.length (bu 7).1.2) rfl fun hH eN=>?_
 change wpQuiet _ _ _ _ (_ ::_ ::[]) _
 repeat (go_big_quiet_step (fail))
 refine wpQuiet_nil ?_
 refine⟨fun k fO=>?_,eN _ ?_⟩
 ·exact acG
 simp only [Act.put]
 go_simp
 refine iF (some 13) rfl (.agg #[ag,af,sp,.slice (bu 10).1.1 ws.length (bu 10).1.2,.slice (bu 10).2.1 ad.length (bu 10).2.2]) rfl fun hH eN=>?_
 change wpQuiet _ _ _ _ (_ ::_ ::[]) _
 repeat (go_big_quiet_step (fail))
 refine wpQuiet_nil ?_
 refine⟨fun k fO=>?_,eN _ ?_⟩
 ·change wpList _ _ _ (_ ::[]) _ _
  go_wp2_with fail
  refine (Hl ag af sp ak c2 ws al c3 ad bj.out.h2 bj.out.h3 bj.out.n2 bj.out.n3 _ (bL.out.r2.U ((iI.out _).1 k.holds).1) (bL.out.gG.U ((iI.out _).1 k.holds).1)).mono ?_
  rintro e mP ⟨bk,d2,g3,d3,rfl,dr,fR⟩
  go_wp2
  exact hZ ⟨((bk,d2),some ⟨g3,0,none⟩,d3),rfl,fR,dr⟩
 simp only [Act.put]
 go_simp
 refine iF (some 14) rfl (.slice (bu 11).1.1 0 0) rfl fun hH eN=>?_
 change wpQuiet _ _ _ _ ([]) _
 refine wpQuiet_nil ?_
 refine⟨fun k fO=>?_,eN _ ?_⟩
 ·exact DM
 simp only [Act.put]
 go_simp
 refine iF (some 17) rfl (.slice (bu 14).1.1 os.length (bu 14).1.2) rfl fun hH eN=>?_
 change wpQuiet _ _ _ _ (_ ::_ ::[]) _
 repeat (go_big_quiet_step (fail))
 refine wpQuiet_nil ?_
 refine⟨fun k fO=>?_,eN _ ?_⟩
 ·exact acF
 simp only [Act.put]
 go_simp
 refine tM ?_
 change wpQuiet _ _ _ _ (_ ::[]) _
 repeat (go_big_quiet_step (fail))
 refine wpQuiet_nil ?_
 intro cY V W aY bK
 obtain⟨g3,e3,nf⟩ :∃g,(bu 0).1.1= some ⟨g,0,none⟩∧aX g 89 7 aM.cells (V 3) (.slice (bu 3).1.1 rs.length (bu 3).1.2) rs:=aY.post 3 (by simp)
 obtain⟨a3,_⟩ :(bu 0).1.1= some ⟨(cY 0).heap.size,0,none⟩∧aC (V 0) (cY 0).heap.size 89 #[]:=aY.post 0 (by simp)
 have pS:(cY 0).heap.size= g3:=by rw [a3] at e3;exact congrArg Addr.block (Option.some.inj e3)
 have cq:=(nf.bh (aY.bh 3 (by simp))).base (B':=aH.heap.size) (by rw [← pS];exact (aY.nt 0 (by simp)).size)
 obtain⟨g7,e7,yb⟩ :∃g,(bu 4).1.1= some ⟨g,0,none⟩∧aX g 115 3 aN.cells (V 7) (.slice (bu 7).1.1 qs.length (bu 7).1.2) qs:=aY.post 7 (by simp)
 obtain⟨a7,_⟩ :(bu 4).1.1= some ⟨(cY 4).heap.size,0,none⟩∧aC (V 4) (cY 4).heap.size 115 #[]:=aY.post 4 (by simp)
 have HE:(cY 4).heap.size= g7:=by rw [a7] at e7;exact congrArg Addr.block (Option.some.inj e7)
 have cv:=(yb.bh (aY.bh 7 (by simp))).base (B':=aH.heap.size) (by rw [← HE];exact (aY.nt 4 (by simp)).size)
 obtain⟨g14,e14,sJ⟩ :∃g,(bu 11).1.1= some ⟨g,0,none⟩∧aX g 163 3 Out.cells (V 14) (.slice (bu 14).1.1 os.length (bu 14).1.2) os:=aY.post 14 (by simp)
 obtain⟨a14,_⟩ :(bu 11).1.1= some ⟨(cY 11).heap.size,0,none⟩∧aC (V 11) (cY 11).heap.size 163 #[]:=aY.post 11 (by simp)
 have HD:(cY 11).heap.size= g14:=by rw [a14] at e14;exact congrArg Addr.block (Option.some.inj e14)
 have cz:=(sJ.bh (aY.bh 14 (by simp))).base (B':=aH.heap.size) (by rw [← HD];exact (aY.nt 11 (by simp)).size);have Hs:jH (cY 10).heap.size (V 10) (bu 10).1.1 (bu 10).1.2 (bu 10).2.1 (bu 10).2.2 ws ad:=aY.post 10 (by simp);have dr:=(Hs.bh (aY.bh 10 (by simp))).base (B':=aH.heap.size) (aY.nt 10 (by simp)).size;clear aF;have aL:Below aH aH W:=ai aw (aY.whole 10 (by simp)).qZ
 replace I:=ai I aL;replace aj:=aj.to aL;replace ae:=ae.to aL;have aq:=ae.aI;clear aY Hs nf yb sJ a3 a7 a14 e3 e7 e14 pS HE HD bK m0 m1 m4
 generalize bu 3= cy at *
 generalize bu 7= dD at *
 generalize bu 10= di at *
 generalize bu 14= pN at *
 obtain⟨⟨cl,d0⟩,_,_⟩:=cy
 obtain⟨⟨cN,d1⟩,_,_⟩:=dD
 obtain⟨⟨bk,d2⟩,bo,d3⟩:=di
 obtain⟨⟨cn,d4⟩,_,_⟩:=pN
 simp only at cq cv cz dr
 have bF:=dr.fg;have bw:=dr.fF;clear dr
 refine gZ fun gr dX=>?_
 change wpQuiet _ _ _ _ ([]) _
 refine wpQuiet_nil ?_
 change wpList _ _ _ (_ ::[]) _ _
 have ez:=ae.jb
 go_wp2
 clear aq
 refine iE 0 fun cQ aD=>?_
 replace I:=aD.aG I;replace aj:=aD.dJ aj;replace ae:=aD.ja ae;replace cq:=cq.bY aD (fun k ax=>by first | exact fC k ax | (have:=cq.lt k ax;omega));replace cv:=cv.bY aD (fun k ax=>by first | exact ih k ax | (have:=cv.lt k ax;omega));replace bF:=bF.bY aD (fun k ax=>by first | exact en k ax | (have:=bF.lt k ax;omega));replace bw:=bw.bY aD (fun k ax=>by first | exact dI k ax | (have:=bw.lt k ax;omega))
 replace cz:=cz.bY aD (fun k ax=>by first | exact fH k ax | (have:=cz.lt k ax;omega));have aq:=ae.aI
 refine hh (((iI.out _).2 ⟨I,aj⟩)) (dX _ _ ?_)
 refine mg ?_
 change wpQuiet _ _ _ _ ([]) _
 refine wpQuiet_nil ?_
 go_wp2
 exact hc ⟨cl,d0,cN,d1,bk,d2,bo,d3,cn,d4,rfl,⟨cq.base (by omega),cv.base (by omega),bF.base (by omega),bw.base (by omega),cz.base (by omega)⟩,I⟩ (by simp [results,Tryz.results96,go_sem,aq])
theorem Ha (an ar ak al aA:Option Addr) (c0 au c2 c3 c4:Nat) (rs:List aM) (qs:List aN) (ag af sp:Int) (ws:List Int) (ad:List aK) (os:List Out) (Z:ed an ar ak al aA c0 au c2 c3 c4 rs qs ws ad os) (w:World) (R:dL w an ar ak al aA rs qs ws ad os):
 Calls Tryz.prog 106 #[.agg #[.slice an rs c0,.slice ar qs au,ag,af,sp,.slice ak ws c2,.slice al ad c3,.slice aA os c4]] w fun e ah=>∃cl d0 cN d1 bk d2 bo d3 cn d4,e= .returned (.agg #[.slice cl rs d0,.slice cN qs d1,ag,af,sp,.slice bk ws d2,.slice bo ad d3,.slice cn os d4])∧gi w ah cl d0 cN d1 bk d2 bo d3 cn d4 rs qs ws ad os∧Below w w ah:=by
 obtain⟨i0,hi,dk,dx,dC⟩:=info_parts Pm
 obtain⟨CR,Xc,Xf,Xg,Xh⟩:=info_parts sE
 obtain⟨km,li,XF,XG,XH⟩:=info_parts GR
 have bL:=J R;have bj:=J Z;have eb:=Z.h0;have ds:=Z.h1;have fm:=Z.h4;have m0:=Z.n0;have m1:=Z.n1;have m4:=Z.n4;clear R Z
 go_in
 go_upto_region 1 with fail
 refine fp fun aH av aj ae=>?_
 have I:=av;have aF:=aj.aI;have aq:=ae.aI;have gv:=ae.lt
 obtain⟨tP,yM⟩ :∃X:World→Prop,∀V,X V↔(Below w w V∧aC V (w.heap.size) 44 #[.slice an rs c0,.slice ar qs au,ag,af,sp,.slice ak ws c2,.slice al ad c3,.slice aA os c4]):=⟨_,fun _=>Iff.rfl⟩
 have iI:=J yM;clear yM
 haveI:Nonempty (cP tP):=⟨⟨aH,((iI.out _).2 ⟨I,aj⟩)⟩⟩
 clear aF;clear aq;have aF:=aC.qb (fun K:cP tP=>((iI.out _).1 K.holds).2)
 go_wp2
 refine Bv (Hn rs qs ag af sp ws ad os) tP [([],0),([1,2],3),([],4),([5,6],7),([8,9],10),([],11),([12,13],14)] [15] [([],16)] [] (by kernel_rfl) (by kernel_rfl) ((iI.out _).2 ⟨I.drew,aj⟩) (fun W eF h k=>((iI.out _).2 ⟨((iI.out _).1 h).1.trans (k.mono ((iI.out _).1 h).1.size),((iI.out _).1 h).2.U k ((iI.out _).1 h).2.lt⟩)) ?_
 intro bu
 refine iF (some 3) rfl (.slice (bu 0).1.1 0 0) rfl fun hH eN=>?_
 change wpQuiet _ _ _ _ ([]) _
 refine wpQuiet_nil ?_
 refine⟨fun k fO=>?_,eN _ ?_⟩
 ·exact DM
 simp only [Act.put]
 go_simp
 refine iF (some 6) rfl (.slice (bu 3).1.1 rs.length (bu 3).1.2) rfl fun hH eN=>?_
 change wpQuiet _ _ _ _ (_ ::_ ::[]) _
 repeat (go_big_quiet_step (fail))
 refine wpQuiet_nil ?_
 refine⟨fun k fO=>?_,eN _ ?_⟩
 ·exact acH
 simp only [Act.put]
 go_simp
 refine iF (some 7) rfl (.slice (bu 4).1.1 0 0) rfl fun hH eN=>?_
 change wpQuiet _ _ _ _ ([]) _
 refine wpQuiet_nil ?_
 refine⟨fun k fO=>?_,eN _ ?_⟩
 ·exact DM
 simp only [Act.put]
 go_simp
 refine iF (some 10) rfl (.slice (bu 7).1.1 qs.length (bu 7).1.2) rfl fun hH eN=>?_
 change wpQuiet _ _ _ _ (_ ::_ ::[]) _
 repeat (go_big_quiet_step (fail))
 refine wpQuiet_nil ?_
 refine⟨fun k fO=>?_,eN _ ?_⟩
 ·exact acG
 simp only [Act.put]
 go_simp
 refine iF (some 13) rfl (.agg #[ag,af,sp,.slice (bu 10).1.1 ws.length (bu 10).1.2,.slice (bu 10).2.1 ad.length (bu 10).2.2]) rfl fun hH eN=>?_
 change wpQuiet _ _ _ _ (_ ::_ ::[]) _
 repeat (go_big_quiet_step (fail))
 refine wpQuiet_nil ?_
 refine⟨fun k fO=>?_,eN _ ?_⟩
 ·change wpList _ _ _ (_ ::[]) _ _
  go_wp2_with fail
  refine (Hc ag af sp ak c2 ws al c3 ad bj.out.h2 bj.out.h3 bj.out.n2 bj.out.n3 _ (bL.out.r2.U ((iI.out _).1 k.holds).1) (bL.out.gG.U ((iI.out _).1 k.holds).1)).mono ?_
  rintro e mP ⟨bk,d2,bo,d3,rfl,dr,fR⟩
  go_wp2
  exact hZ ⟨((bk,d2),bo,d3),rfl,fR,dr⟩
 simp only [Act.put]
 go_simp
 refine iF (some 14) rfl (.slice (bu 11).1.1 0 0) rfl fun hH eN=>?_
 change wpQuiet _ _ _ _ ([]) _
 refine wpQuiet_nil ?_
 refine⟨fun k fO=>?_,eN _ ?_⟩
 ·exact DM
 simp only [Act.put]
 go_simp
 refine iF (some 17) rfl (.slice (bu 14).1.1 os.length (bu 14).1.2) rfl fun hH eN=>?_
 change wpQuiet _ _ _ _ (_ ::_ ::[]) _
 repeat (go_big_quiet_step (fail))
 refine wpQuiet_nil ?_
 refine⟨fun k fO=>?_,eN _ ?_⟩
 ·exact acF
 simp only [Act.put]
 go_simp
 refine tM ?_
 change wpQuiet _ _ _ _ (_ ::[]) _
 repeat (go_big_quiet_step (fail))
 refine wpQuiet_nil ?_
 intro cY V W aY bK
 obtain⟨g3,e3,nf⟩ :∃g,(bu 0).1.1= some ⟨g,0,none⟩∧aX g 89 7 aM.cells (V 3) (.slice (bu 3).1.1 rs.length (bu 3).1.2) rs:=aY.post 3 (by simp)
 obtain⟨a3,_⟩ :(bu 0).1.1= some ⟨(cY 0).heap.size,0,none⟩∧aC (V 0) (cY 0).heap.size 89 #[]:=aY.post 0 (by simp)
 have pS:(cY 0).heap.size= g3:=by rw [a3] at e3;exact congrArg Addr.block (Option.some.inj e3)
 have cq:=(nf.bh (aY.bh 3 (by simp))).base (B':=aH.heap.size) (by rw [← pS];exact (aY.nt 0 (by simp)).size)
 obtain⟨g7,e7,yb⟩ :∃g,(bu 4).1.1= some ⟨g,0,none⟩∧aX g 115 3 aN.cells (V 7) (.slice (bu 7).1.1 qs.length (bu 7).1.2) qs:=aY.post 7 (by simp)
 obtain⟨a7,_⟩ :(bu 4).1.1= some ⟨(cY 4).heap.size,0,none⟩∧aC (V 4) (cY 4).heap.size 115 #[]:=aY.post 4 (by simp)
 have HE:(cY 4).heap.size= g7:=by rw [a7] at e7;exact congrArg Addr.block (Option.some.inj e7)
 have cv:=(yb.bh (aY.bh 7 (by simp))).base (B':=aH.heap.size) (by rw [← HE];exact (aY.nt 4 (by simp)).size)
 obtain⟨g14,e14,sJ⟩ :∃g,(bu 11).1.1= some ⟨g,0,none⟩∧aX g 163 3 Out.cells (V 14) (.slice (bu 14).1.1 os.length (bu 14).1.2) os:=aY.post 14 (by simp)
 obtain⟨a14,_⟩ :(bu 11).1.1= some ⟨(cY 11).heap.size,0,none⟩∧aC (V 11) (cY 11).heap.size 163 #[]:=aY.post 11 (by simp)
 have HD:(cY 11).heap.size= g14:=by rw [a14] at e14;exact congrArg Addr.block (Option.some.inj e14)
 have cz:=(sJ.bh (aY.bh 14 (by simp))).base (B':=aH.heap.size) (by rw [← HD];exact (aY.nt 11 (by simp)).size);have Hs:jH (cY 10).heap.size (V 10) (bu 10).1.1 (bu 10).1.2 (bu 10).2.1 (bu 10).2.2 ws ad:=aY.post 10 (by simp);have dr:=(Hs.bh (aY.bh 10 (by simp))).base (B':=aH.heap.size) (aY.nt 10 (by simp)).size;clear aF;have aL:Below aH aH W:=ai aw (aY.whole 10 (by simp)).qZ
 replace I:=ai I aL;replace aj:=aj.to aL;replace ae:=ae.to aL;have aq:=ae.aI;clear aY Hs nf yb sJ a3 a7 a14 e3 e7 e14 pS HE HD bK m0 m1 m4
 generalize bu 3= cy at *
 generalize bu 7= dD at *
 generalize bu 10= di at *
 generalize bu 14= pN at *
 obtain⟨⟨cl,d0⟩,_,_⟩:=cy
 obtain⟨⟨cN,d1⟩,_,_⟩:=dD
 obtain⟨⟨bk,d2⟩,bo,d3⟩:=di
 obtain⟨⟨cn,d4⟩,_,_⟩:=pN
 simp only at cq cv cz dr
 have bF:=dr.fg;have bw:=dr.fF;clear dr
 refine gZ fun gr dX=>?_
 change wpQuiet _ _ _ _ ([]) _
 refine wpQuiet_nil ?_
 change wpList _ _ _ (_ ::[]) _ _
 have ez:=ae.jb
 go_wp2
 clear aq
 refine iE 0 fun cQ aD=>?_
 replace I:=aD.aG I;replace aj:=aD.dJ aj;replace ae:=aD.ja ae;replace cq:=cq.bY aD (fun k ax=>by first | exact fC k ax | (have:=cq.lt k ax;omega));replace cv:=cv.bY aD (fun k ax=>by first | exact ih k ax | (have:=cv.lt k ax;omega));replace bF:=bF.bY aD (fun k ax=>by first | exact en k ax | (have:=bF.lt k ax;omega));replace bw:=bw.bY aD (fun k ax=>by first | exact dI k ax | (have:=bw.lt k ax;omega))
 replace cz:=cz.bY aD (fun k ax=>by first | exact fH k ax | (have:=cz.lt k ax;omega));have aq:=ae.aI
 refine hh (((iI.out _).2 ⟨I,aj⟩)) (dX _ _ ?_)
 refine mg ?_
 change wpQuiet _ _ _ _ ([]) _
 refine wpQuiet_nil ?_
 go_wp2
 exact hc ⟨cl,d0,cN,d1,bk,d2,bo,d3,cn,d4,rfl,⟨cq.base (by omega),cv.base (by omega),bF.base (by omega),bw.base (by omega),cz.base (by omega)⟩,I⟩ (by simp [results,Tryz.results106,go_sem,aq])
open Go.RowKit Go.G9
theorem amc (a b v:Int) (az:v= if a < b then a else b) (w:World):Calls Tryz.prog 131 #[a,b] w fun e ah=>e= .returned v∧ah= w:=by
 subst az
 by_cases h:a < b
 ·rw [if_pos h]
  go_in
  go_wp2
  go_ret
  exact⟨rfl,rfl⟩
 ·rw [if_neg h]
  go_in
  go_wp2
  go_ret
  exact⟨rfl,rfl⟩
theorem aaW {p:Prop} (h:p:=by
 have ez:=ae.jh
 go_wp2
 clear aF aq
 refine gT 0 fun cQ aD=>?_
 replace I:=aD.aG I;replace ae:=aD.iK ae;have aq:=ae.aS
 exact hc ⟨rfl,I⟩ (by simp [results,Tryz.results240,go_sem,aq])):p:=h
theorem aqp (ag af sp:Int) (ak:Option Addr) (c2:Nat) (ws:List Int) (al:Option Addr) (c3:Nat) (ad:List aK) (h2:ws.length≤1048576) (h3:ad.length≤1048576) (n2:ak= none→ws= []∧c2= 0) (n3:al= none→ad= []∧c3= 0) (cm:ws.length≤c2) (dS:ad.length≤c3) (n:Int) (az:oj ⟨ag,af,sp,ws,ad⟩ n= false) (w:World) (bm:aJ 1 bU w ak ws) (bl:aJ 3 aK.cells w al ad):
 Calls Tryz.prog 240 #[.agg #[ag,af,sp,.slice ak ws c2,.slice al ad c3],n] w fun e ah=>e= .returned (.tuple #[.agg #[(0:Int),(0:Int),(0:Int),.slice none 0 0,.slice none 0 0],(0:Int),false])∧Below w w ah:=by
 have ea:=J bm;have cS:=J bl;clear bm bl n2 n3 dS
 cases hf:gl ag af sp ws ad
 ·have bD:=J hf
  clear hf az
  go_in
  go_upto_region 1 with fail
  refine fp fun aH av aj ae=>?_
  have I:=av;have aF:=aj.aS;have aq:=ae.aS
  go_wp2_with fail
  refine (mI ag af sp ak ws c2 al c3 ad h2 h3 cm _ bD.out _ (ea.out.U (ai I aw)) (cS.out.U (ai I aw))).mono ?_
  rintro e aQ ⟨rfl,aP⟩
  have ao:=be aH aP;replace I:=ai I ao;clear aF;replace ae:=ae.to ao;clear aq;have aq:=ae.aS;have ez:=ae.jh
  go_wp2
  clear aq
  refine gT 0 fun cQ aD=>?_
  replace I:=aD.aG I;replace ae:=aD.iK ae;have aq:=ae.aS
  exact hc ⟨rfl,I⟩ (by simp [results,Tryz.results240,go_sem,aq])
 ·cases aZ:(sp == 0)
  case true=>
   have bD:=J hf;clear hf az
   go_in
   go_upto_region 1 with fail
   refine fp fun aH av aj ae=>?_
   have I:=av;have aF:=aj.aS;have aq:=ae.aS
   go_wp2_with fail
   refine (mI ag af sp ak ws c2 al c3 ad h2 h3 cm _ bD.out _ (ea.out.U (ai I aw)) (cS.out.U (ai I aw))).mono ?_
   rintro e aQ ⟨rfl,aP⟩
   have ao:=be aH aP;replace I:=ai I ao;replace aj:=aj.to ao;clear aF;have aF:=aj.aS;replace ae:=ae.to ao;clear aq;have aq:=ae.aS
   exact aaW
  case false=>
   have hi:fc n 1 3600= false:=by simpa [oj,eD.ok,hf,aZ] using az
   have bD:=J hf;have hP:=J hi;clear hf az hi
   go_in
   go_upto_region 1 with fail
   refine fp fun aH av aj ae=>?_
   have I:=av;have aF:=aj.aS;have aq:=ae.aS
   go_wp2_with fail
   refine (mI ag af sp ak ws c2 al c3 ad h2 h3 cm _ bD.out _ (ea.out.U (ai I aw)) (cS.out.U (ai I aw))).mono ?_
   rintro e aQ ⟨rfl,aP⟩
   have ao:=be aH aP;replace I:=ai I ao;replace aj:=aj.to ao;clear aF;have aF:=aj.aS;replace ae:=ae.to ao;clear aq;have aq:=ae.aS
   go_wp2_with fail
   refine (jv n 1 3600 _ hP.out _).mono ?_
   rintro e w0 ⟨rfl,h0⟩
   rw [h0]
   clear h0 w0
   exact aaW
theorem aqq (ag af sp:Int) (ak:Option Addr) (c2:Nat) (ws:List Int) (al:Option Addr) (c3:Nat) (ad:List aK) (h2:ws.length≤1048576) (h3:ad.length≤1048576) (n2:ak= none→ws= []∧c2= 0) (n3:al= none→ad= []∧c3= 0) (cm:ws.length≤c2) (dS:ad.length≤c3) (n:Int) (az:oj ⟨ag,af,sp,ws,ad⟩ n= true) (w:World) (bm:aJ 1 bU w ak ws) (bl:aJ 3 aK.cells w al ad):
 Calls Tryz.prog 240 #[.agg #[ag,af,sp,.slice ak ws c2,.slice al ad c3],n] w fun e ah=>∃bk d2 bo d3,e= .returned (.tuple #[.agg #[ag,af,.int .i64 (jw ⟨ag,af,sp,ws,ad⟩ n).sp,.slice bk ws d2,.slice bo (jw ⟨ag,af,sp,ws,ad⟩ n).ad.length d3],.int .i64 (tC ⟨ag,af,sp,ws,ad⟩ n),true])∧jH w.heap.size ah bk d2 bo d3 ws (jw ⟨ag,af,sp,ws,ad⟩ n).ad∧Below w w ah:=by
 have ea:=J bm;have cS:=J bl;have iY:=J n2;have iR:=J n3;have wT:=J dS;clear bm bl n2 n3 dS
 obtain⟨gd,qR,oa,sB⟩:=HH az
 have aZ:(sp == 0)= false:=beq_eq_false_iff_ne.2 qR;have hlen:=Nd gd
 obtain⟨qh,nb,pH⟩:=Dg gd qR
 have AF:=(lg.1 gd).t;have uS:=(lg.1 gd).s
 obtain⟨av,ao,aL⟩:=vo.1 nb
 have kS:=KJ (xs:=ad) (m:=sp);have At:=(lg.1 gd).ord
 obtain⟨⟨dK,st,cx⟩,kU⟩ :∃x,eB ad sp= x:=⟨_,rfl⟩
 simp only at pH ao aL At
 rw [kU] at pH ao aL kS
 simp only at pH ao aL kS AF uS
 have OT:=kU
 subst kS
 obtain⟨u,hu⟩ :∃u,u= (if n < af - cx then n else af - cx):=⟨_,rfl⟩
 have Af:tC ⟨ag,af,dK,ws,ad⟩ n= u:=by simp [tC,kU,hu]
 have ajV:0≤u∧u≤af - cx:=by rw [hu];split <;> omega
 have Fq:rW ⟨ag,af,dK,ws,ad⟩ n=⟨dK,st,cx + u⟩:=by simp [rW,kU,Af]
 rw [Af]
 have bD:Hid (gl ag af dK ws ad= true):=J gd;have hP:Hid (fc n 1 3600= true):=J (rH.2 ⟨oa,sB⟩);have lW:=J kU;have DS:=J Fq;have LX:=J hu
 have OS:ad.length≤1048574:=by simp only at hlen;omega
 have GH:(fi ad ⟨dK,st,cx + u⟩).length≤1048575:=by have:=Qs ad ⟨dK,st,cx + u⟩;omega
 have GI:eB (fi ad ⟨dK,st,cx + u⟩) dK=⟨dK,st,cx + u⟩:=by rw [Dy dK At,if_pos rfl]
 have Iv:=J GI;have LW:=J GH;clear gd az qh nb av kU hlen OT At Fq GI GH qR hu Af oa sB
 go_in
 go_upto_region 1 with fail
 refine fp fun aH av aj ae=>?_
 have I:=av;have aF:=aj.aS;have aq:=ae.aS;have gv:=ae.lt
 go_wp2_with fail
 refine (mI ag af dK ak ws c2 al c3 ad h2 h3 cm _ bD.out _ (ea.out.U (ai I aw)) (cS.out.U (ai I aw))).mono ?_
 rintro e aQ ⟨rfl,aP⟩
 have ao:=be aH aP;replace I:=ai I ao;replace aj:=aj.to ao;clear aF;have aF:=aj.aS;replace ae:=ae.to ao;clear aq;have aq:=ae.aS
 go_wp2_with fail
 refine (jv n 1 3600 _ hP.out _).mono ?_
 rintro e w0 ⟨rfl,h0⟩
 rw [h0]
 clear h0 w0
 go_wp2_with fail
 refine (vh ag af dK ak ws.length c2 al c3 ad h3 dK ⟨dK,st,cx⟩ lW.out _ (cS.out.U (ai I aw))).mono ?_
 rintro e bA ⟨rfl,bC⟩
 have aL:=be aQ bC;replace I:=ai I aL;replace aj:=aj.to aL;clear aF;have aF:=aj.aS;replace ae:=ae.to aL;clear aq;have aq:=ae.aS;have KS:=ao.size;have QF:=aL.size
 have sC:IntKind.i64.wrap (af - cx)= af - cx:=by rw [IntKind.wrap_i64];omega
 have Wu:IntKind.i64.wrap (cx + u)= cx + u:=by rw [IntKind.wrap_i64];omega
 have aad:=I.size
 go_upto_region 4 with fail
 refine cR fun aaq bV bO=>?_
 replace I:=ai I bV;have cj:=bO.cK;clear aF;replace aj:=aj.to bV;have aF:=aj.aS;clear aq;replace ae:=ae.to bV;have aq:=ae.aS
 go_wp2_with fail
 refine (amc n (af - cx) u LX.out _).mono ?_
 rintro e w0 ⟨rfl,h0⟩
 rw [h0]
 have Fz:=bO.frozen 2
 go_upto_region 6 with fail
 clear aF aq cj
 refine kG 2 fun jW lq=>?_
 replace I:=lq.aG I;replace aj:=lq.dJ aj;replace ae:=lq.dJ ae;replace bO:=lq.PU bO;have aF:=aj.aS;have aq:=ae.aS;have cj:=bO.cK;clear Fz;have ajK:=bO.lt
 go_wp2_with fail
 refine (Xt ag af dK ak c2 ws al c3 ad h2 h3 iY.out iR.out wT.out dK st (cx + u) _ (ea.out.U (ai I aw)) (cS.out.U (ai I aw))).mono ?_
 rintro e dE ⟨bk,d2,bo,d3,rfl,dr,ek⟩
 have cG:=be jW ek;replace I:=ai I cG;replace aj:=aj.to cG;clear aF;have aF:=aj.aS;replace ae:=ae.to cG;clear aq;have aq:=ae.aS;replace bO:=bO.to cG;clear cj;have cj:=bO.cK;have vp:=I.size;have aae:=cG.size
 go_upto_region 7 with fail
 have eX:=dr.bh (ca dE (.cells #[ag,af,dK,.slice bk ws d2,.slice bo (fi ad ⟨dK,st,cx + u⟩).length d3] 41));clear dr;have fb:Below dE dE (World.alloc dE (.cells #[ag,af,dK,.slice bk ws d2,.slice bo (fi ad ⟨dK,st,cx + u⟩).length d3] 41)):=ca dE _
 have aO:=aC.new dE 41 #[ag,af,dK,.slice bk ws d2,.slice bo (fi ad ⟨dK,st,cx + u⟩).length d3]
 generalize World.alloc dE (.cells #[ag,af,dK,.slice bk ws d2,.slice bo (fi ad ⟨dK,st,cx + u⟩).length d3] 41)= aar at *
 replace I:=ai I fb;have bG:=aO.aS;clear aF;replace aj:=aj.to fb;have aF:=aj.aS;clear aq;replace ae:=ae.to fb;have aq:=ae.aS;clear cj;replace bO:=bO.to fb;have cj:=bO.cK;have kW:=aO.lt;have bF:=eX.fg;have bw:=eX.fF;clear eX
 by_cases uI:cx + u= af
 ·have xw:(cx + u == af)= true:=beq_iff_eq.2 uI
  have e1:(jw ⟨ag,af,dK,ws,ad⟩ n).sp= 0∧(jw ⟨ag,af,dK,ws,ad⟩ n).ad= fi (fi ad ⟨dK,st,cx + u⟩) ⟨dK,st + 1,cx + u⟩:=by
   exact adh
  have oR:=J e1;clear e1 uI
  go_upto_region 8 with fail
  have hs:=J bF;have jV:=J bw
  go_wp2_with fail
  refine (Xv ag af dK bk d2 ws bo d3 (fi ad ⟨dK,st,cx + u⟩) h2 (by have:=LW.out;omega) hs.out.mJ jV.out.mJ (rP hs.out fZ) (rP jV.out ij) st (cx + u) Iv.out (by omega) (by omega) _ (hs.out.fk fZ) (jV.out.fk ij)).mono ?_
  rintro e zA ⟨cV,e2,cW,e3,rfl,dr,uB⟩
  have qQ:=be aar uB;replace I:=ai I qQ;clear aF;replace ae:=ae.to qQ;clear aq;have aq:=ae.aS;clear cj;replace aO:=aO.to qQ;clear bG;have bG:=aO.aS;have uf:=dr.fg;have ug:=dr.fF;have MY:=aO.jh;have Kg:=uf.cH aO;have Kh:=ug.cH aO
  go_upto_region 9 with fail
  clear aq bG
  refine gT 0 fun SK pj=>?_
  replace I:=pj.aG I;replace ae:=pj.dJ ae;replace aO:=pj.iK aO;replace uf:=uf.bY pj Kg;replace ug:=ug.bY pj Kh;have aq:=ae.aS;have bG:=aO.aS;clear Kg Kh MY;have ez:=ae.jh;have Kg:=uf.cH ae;have Kh:=ug.cH ae
  go_wp2
  clear aq bG
  refine gT 0 fun cQ aD=>?_
  replace I:=aD.aG I;replace ae:=aD.iK ae;replace uf:=uf.bY aD Kg;replace ug:=ug.bY aD Kh;have aq:=ae.aS
  refine bodyPost_ret (v:= .tuple #[.agg #[ag,af,(0:Int),.slice cV ws e2,.slice cW (fi (fi ad ⟨dK,st,cx + u⟩) ⟨dK,st + 1,cx + u⟩).length e3],.int .i64 u,true]) (by simp [results,Tryz.results240,go_sem,aq]) rfl ?_
  rw [oR.out.1,oR.out.2]
  exact⟨cV,e2,cW,e3,rfl,⟨uf.base (by omega),ug.base (by omega),uf.apart ug (by decide)⟩,I⟩
 ·have xw:(cx + u == af)= false:=beq_eq_false_iff_ne.2 uI
  have e1:(jw ⟨ag,af,dK,ws,ad⟩ n).sp= dK∧(jw ⟨ag,af,dK,ws,ad⟩ n).ad= fi ad ⟨dK,st,cx + u⟩:=by
   exact abg
  have oR:=J e1;clear e1 uI;have ez:=ae.jh;have en:=bF.cH ae;have dI:=bw.cH ae
  go_wp2
  clear aF aq cj bG
  refine gT 0 fun cQ aD=>?_
  replace I:=aD.aG I;replace ae:=aD.iK ae;replace bF:=bF.bY aD en;replace bw:=bw.bY aD dI;have aq:=ae.aS
  refine bodyPost_ret (v:= .tuple #[.agg #[ag,af,dK,.slice bk ws d2,.slice bo (fi ad ⟨dK,st,cx + u⟩).length d3],.int .i64 u,true]) (by simp [results,Tryz.results240,go_sem,aq]) rfl ?_
  rw [oR.out.1,oR.out.2]
  exact aci
open Go.RowKit Go.G9
theorem aay (an ar ak al aA:Option Addr) (c0 au c2 c3 c4:Nat) (rs:List aM) (qs:List aN) (ag af sp:Int) (ws:List Int) (ad:List aK) (os:List Out) (Z:ed an ar ak al aA c0 au c2 c3 c4 rs qs ws ad os) (Ez:Option Addr) (EB EA:Nat) (w:World) (R:dL w an ar ak al aA rs qs ws ad os):
 Calls Tryz.prog 257 #[.agg #[.slice an rs c0,.slice ar qs au,ag,af,sp,.slice ak ws c2,.slice al ad c3,.slice aA os c4],.slice Ez EB EA] w fun e ah=>∃cl d0 cn d4,e= .returned (.agg #[.slice cl rs d0,.slice Ez EB EA,ag,af,(0:Int),.slice none 0 0,.slice none 0 0,.slice cn os d4])∧aX w 89 7 aM.cells ah (.slice cl rs d0) rs∧aX w 163 3 Out.cells ah (.slice cn os d4) os∧Below w w ah:=by
 have bL:=J R;have bj:=J Z;clear R Z
 go_in
 go_upto_region 1 with fail
 refine fp fun aH av aj ae=>?_
 have I:=av;have aF:=aj.aI;have aq:=ae.aI;have gv:=ae.lt
 go_wp2_with fail
 refine (Kk an ar ak al aA c0 au c2 c3 c4 rs qs ag af sp ws ad os bj.out _ (bL.out.U (ai I aw))).mono ?_
 rintro e aQ ⟨cl,d0,cN,d1,bk,d2,bo,d3,cn,d4,rfl,dr,aP⟩
 have ao:=be aH aP;replace I:=ai I ao;replace aj:=aj.to ao;clear aF;have aF:=aj.aI;replace ae:=ae.to ao;clear aq;have aq:=ae.aI;have wG:=ao.size;have vp:=I.size
 go_upto_region 2 with fail
 have sf:=dr.bh (ca aQ (.cells #[.slice cl rs d0,.slice cN qs d1,ag,af,sp,.slice bk ws d2,.slice bo ad d3,.slice cn os d4] 44));clear dr;have aL:Below aQ aQ (World.alloc aQ (.cells #[.slice cl rs d0,.slice cN qs d1,ag,af,sp,.slice bk ws d2,.slice bo ad d3,.slice cn os d4] 44)):=ca aQ _
 have aO:=aC.new aQ 44 #[.slice cl rs d0,.slice cN qs d1,ag,af,sp,.slice bk ws d2,.slice bo ad d3,.slice cn os d4]
 generalize World.alloc aQ (.cells #[.slice cl rs d0,.slice cN qs d1,ag,af,sp,.slice bk ws d2,.slice bo ad d3,.slice cn os d4] 44)= cf at *
 replace I:=ai I aL;have bG:=aO.aI;clear aF;replace aj:=aj.to aL;have aF:=aj.aI;clear aq;replace ae:=ae.to aL;have aq:=ae.aI;have cq:=sf.kp;have cz:=sf.lE;clear sf;have Ag:=aO.frozen 1
 go_upto_region 3 with fail
 have fC:=cq.cH aO;have fH:=cz.cH aO;clear aF aq bG
 refine kG 1 fun ui gf=>?_
 replace I:=gf.aG I;replace aj:=gf.dJ aj;replace ae:=gf.dJ ae;replace aO:=gf.Ht aO;replace cq:=cq.bY gf fC;replace cz:=cz.bY gf fH;have aF:=aj.aI;have aq:=ae.aI;have bG:=aO.aI
 clear Ag;have qG:=aO.frozen 2;have so:=aO.frozen 3;have xi:=aO.frozen 4;have xj:=aO.frozen 5;have xk:=aO.frozen 6
 go_upto_region 4 with fail
 clear aF aq bG
 refine gT 2 fun mb eQ=>?_
 replace I:=eQ.aG I;replace ae:=eQ.dJ ae;replace aO:=eQ.Dl aO;replace cq:=cq.bY eQ (fun k ax=>by first | exact fC k ax | (have:=cq.lt k ax;omega));replace cz:=cz.bY eQ (fun k ax=>by first | exact fH k ax | (have:=cz.lt k ax;omega))
 have aq:=ae.aI;have bG:=aO.aI;clear qG so xi xj xk fC fH;have ez:=ae.jb;have fC:=cq.cH ae;have fH:=cz.cH ae
 go_wp2
 clear aq bG
 refine iE 0 fun cQ aD=>?_
 replace I:=aD.aG I;replace ae:=aD.ja ae;replace cq:=cq.bY aD fC;replace cz:=cz.bY aD fH;have aq:=ae.aI
 exact hc ⟨cl,d0,cn,d4,rfl,cq.base (by omega),cz.base (by omega),I⟩ (by simp [results,Tryz.results257,go_sem,aq])
theorem Xn (an ar ak al aA:Option Addr) (c0 au c2 c3 c4:Nat) (rs:List aM) (qs:List aN) (ag af sp:Int) (ws:List Int) (ad:List aK) (os:List Out) (Z:ed an ar ak al aA c0 au c2 c3 c4 rs qs ws ad os) (Ez:Option Addr) (EB EA:Nat) (w:World) (R:dL w an ar ak al aA rs qs ws ad os):
 Calls Tryz.prog 236 #[.agg #[.slice an rs c0,.slice ar qs au,ag,af,sp,.slice ak ws c2,.slice al ad c3,.slice aA os c4],.slice Ez EB EA] w fun e ah=>∃cl d0 cn d4,e= .returned (.agg #[.slice cl rs d0,.slice Ez EB EA,ag,af,(0:Int),.slice none 0 0,.slice none 0 0,.slice cn os d4])∧aX w 89 7 aM.cells ah (.slice cl rs d0) rs∧aX w 163 3 Out.cells ah (.slice cn os d4) os∧Below w w ah:=by
 have bL:=J R;have bj:=J Z;clear R Z
 go_in
 go_upto_region 1 with fail
 refine fp fun aH av aj ae=>?_
 have I:=av;have aF:=aj.aI;have aq:=ae.aI;have gv:=ae.lt
 go_wp2_with fail
 refine (Ha an ar ak al aA c0 au c2 c3 c4 rs qs ag af sp ws ad os bj.out _ (bL.out.U (ai I aw))).mono ?_
 rintro e aQ ⟨cl,d0,cN,d1,bk,d2,bo,d3,cn,d4,rfl,dr,aP⟩
 have ao:=be aH aP;replace I:=ai I ao;replace aj:=aj.to ao;clear aF;have aF:=aj.aI;replace ae:=ae.to ao;clear aq;have aq:=ae.aI;have wG:=ao.size;have vp:=I.size
 go_upto_region 2 with fail
 have sf:=dr.bh (ca aQ (.cells #[.slice cl rs d0,.slice cN qs d1,ag,af,sp,.slice bk ws d2,.slice bo ad d3,.slice cn os d4] 44));clear dr;have aL:Below aQ aQ (World.alloc aQ (.cells #[.slice cl rs d0,.slice cN qs d1,ag,af,sp,.slice bk ws d2,.slice bo ad d3,.slice cn os d4] 44)):=ca aQ _
 have aO:=aC.new aQ 44 #[.slice cl rs d0,.slice cN qs d1,ag,af,sp,.slice bk ws d2,.slice bo ad d3,.slice cn os d4]
 generalize World.alloc aQ (.cells #[.slice cl rs d0,.slice cN qs d1,ag,af,sp,.slice bk ws d2,.slice bo ad d3,.slice cn os d4] 44)= cf at *
 replace I:=ai I aL;have bG:=aO.aI;clear aF;replace aj:=aj.to aL;have aF:=aj.aI;clear aq;replace ae:=ae.to aL;have aq:=ae.aI;have cq:=sf.kp;have cz:=sf.lE;clear sf;have Ag:=aO.frozen 1
 go_upto_region 3 with fail
 have fC:=cq.cH aO;have fH:=cz.cH aO;clear aF aq bG
 refine kG 1 fun ui gf=>?_
 replace I:=gf.aG I;replace aj:=gf.dJ aj;replace ae:=gf.dJ ae;replace aO:=gf.Ht aO;replace cq:=cq.bY gf fC;replace cz:=cz.bY gf fH;have aF:=aj.aI;have aq:=ae.aI;have bG:=aO.aI
 clear Ag;have qG:=aO.frozen 2;have so:=aO.frozen 3;have xi:=aO.frozen 4;have xj:=aO.frozen 5;have xk:=aO.frozen 6
 go_upto_region 4 with fail
 clear aF aq bG
 refine gT 2 fun mb eQ=>?_
 replace I:=eQ.aG I;replace ae:=eQ.dJ ae;replace aO:=eQ.Dl aO;replace cq:=cq.bY eQ (fun k ax=>by first | exact fC k ax | (have:=cq.lt k ax;omega));replace cz:=cz.bY eQ (fun k ax=>by first | exact fH k ax | (have:=cz.lt k ax;omega))
 have aq:=ae.aI;have bG:=aO.aI;clear qG so xi xj xk fC fH;have ez:=ae.jb;have fC:=cq.cH ae;have fH:=cz.cH ae
 go_wp2
 clear aq bG
 refine iE 0 fun cQ aD=>?_
 replace I:=aD.aG I;replace ae:=aD.ja ae;replace cq:=cq.bY aD fC;replace cz:=cz.bY aD fH;have aq:=ae.aI
 exact hc ⟨cl,d0,cn,d4,rfl,cq.base (by omega),cz.base (by omega),I⟩ (by simp [results,Tryz.results236,go_sem,aq])
open Go.RowKit Go.G9
theorem apo (ag af sp:Int) (ak:Option Addr) (c2:Nat) (ws:List Int) (al:Option Addr) (c3:Nat) (ad:List aK) (h2:ws.length≤1048576) (h3:ad.length≤1048576) (n2:ak= none→ws= []∧c2= 0) (n3:al= none→ad= []∧c3= 0) (cm:ws.length≤c2) (dS:ad.length≤c3) (mem:Int) (dw:Int) (bX:List Int) (cc:List aK) (az:nP ⟨ag,af,sp,ws,ad⟩ mem= true) (he:qw ⟨ag,af,sp,ws,ad⟩ mem=⟨ag,af,dw,bX,cc⟩) (w:World) (bm:aJ 1 bU w ak ws) (bl:aJ 3 aK.cells w al ad):
 Calls Tryz.prog 238 #[.agg #[ag,af,sp,.slice ak ws c2,.slice al ad c3],mem] w fun e ah=>∃bk d2 bo d3,e= .returned (.tuple #[.agg #[ag,af,dw,.slice bk bX d2,.slice bo cc d3],true])∧jH w.heap.size ah bk d2 bo d3 bX cc∧Below w w ah:=by
 have e1:=congrArg eD.sp he;have e3:=congrArg eD.ad he;have e2:=congrArg eD.ws he
 simp only [qw,rM] at e1 e2 e3
 subst e1;subst e3;subst e2
 exact apx ag af sp ak c2 ws al c3 ad h2 h3 n2 n3 cm dS mem az w bm bl
theorem apq (ag af sp:Int) (ak:Option Addr) (c2:Nat) (ws:List Int) (al:Option Addr) (c3:Nat) (ad:List aK) (h2:ws.length≤1048576) (h3:ad.length≤1048576) (n2:ak= none→ws= []∧c2= 0) (n3:al= none→ad= []∧c3= 0) (cm:ws.length≤c2) (dS:ad.length≤c3) (q:Int) (bf:sI ⟨ag,af,sp,ws,ad⟩ =some q) (dw:Int) (bX:List Int) (cc:List aK) (az:mK ⟨ag,af,sp,ws,ad⟩ =true) (he:rM ⟨ag,af,sp,ws,ad⟩ q=⟨ag,af,dw,bX,cc⟩) (w:World) (bm:aJ 1 bU w ak ws) (bl:aJ 3 aK.cells w al ad):
 Calls Tryz.prog 239 #[.agg #[ag,af,sp,.slice ak ws c2,.slice al ad c3]] w fun e ah=>∃bk d2 bo d3,e= .returned (.tuple #[.agg #[ag,af,dw,.slice bk bX d2,.slice bo cc d3],q,true])∧jH w.heap.size ah bk d2 bo d3 bX cc∧Below w w ah:=by
 have e1:=congrArg eD.sp he;have e3:=congrArg eD.ad he;have e2:=congrArg eD.ws he
 simp only [qw,rM] at e1 e2 e3
 subst e1;subst e3;subst e2
 exact aqi ag af sp ak c2 ws al c3 ad h2 h3 n2 n3 cm dS az q bf w bm bl
theorem acj {p:Prop} (h:p:=by
 have e4:(jw ⟨ag,af,sp,ws,ad⟩ val).ws= bX:=by rw [he]
 rw [← e4];unfold jw;split <;> rfl):p:=h
theorem apr (ag af sp:Int) (ak:Option Addr) (c2:Nat) (ws:List Int) (al:Option Addr) (c3:Nat) (ad:List aK) (h2:ws.length≤1048576) (h3:ad.length≤1048576) (n2:ak= none→ws= []∧c2= 0) (n3:al= none→ad= []∧c3= 0) (cm:ws.length≤c2) (dS:ad.length≤c3) (val:Int) (dw:Int) (bX:List Int) (cc:List aK) (az:oj ⟨ag,af,sp,ws,ad⟩ val= true) (he:jw ⟨ag,af,sp,ws,ad⟩ val=⟨ag,af,dw,bX,cc⟩) (w:World) (bm:aJ 1 bU w ak ws) (bl:aJ 3 aK.cells w al ad):
 Calls Tryz.prog 240 #[.agg #[ag,af,sp,.slice ak ws c2,.slice al ad c3],val] w fun e ah=>∃bk d2 bo d3,e= .returned (.tuple #[.agg #[ag,af,dw,.slice bk bX d2,.slice bo cc d3],.int .i64 (tC ⟨ag,af,sp,ws,ad⟩ val),true])∧jH w.heap.size ah bk d2 bo d3 bX cc∧Below w w ah:=by
 have e1:(jw ⟨ag,af,sp,ws,ad⟩ val).sp= dw:=by rw [he]
 have e3:(jw ⟨ag,af,sp,ws,ad⟩ val).ad= cc:=by rw [he]
 have e2:ws= bX:=by
  exact acj
 subst e1;subst e3;subst e2
 exact aqq ag af sp ak c2 ws al c3 ad h2 h3 n2 n3 cm dS val az w bm bl
theorem aps (ag af sp:Int) (ak:Option Addr) (c2:Nat) (ws:List Int) (al:Option Addr) (c3:Nat) (ad:List aK) (h2:ws.length≤1048576) (h3:ad.length≤1048576) (n2:ak= none→ws= []∧c2= 0) (n3:al= none→ad= []∧c3= 0) (cm:ws.length≤c2) (dS:ad.length≤c3) (dw:Int) (bX:List Int) (cc:List aK) (az:mh ⟨ag,af,sp,ws,ad⟩ =true) (he:mR ⟨ag,af,sp,ws,ad⟩ =⟨ag,af,dw,bX,cc⟩) (w:World) (bm:aJ 1 bU w ak ws) (bl:aJ 3 aK.cells w al ad):
 Calls Tryz.prog 241 #[.agg #[ag,af,sp,.slice ak ws c2,.slice al ad c3]] w fun e ah=>∃bk d2 bo d3,e= .returned (.tuple #[.agg #[ag,af,dw,.slice bk bX d2,.slice bo cc d3],true])∧jH w.heap.size ah bk d2 bo d3 bX cc∧Below w w ah:=by
 have e1:(0:Int)= dw:=congrArg eD.sp he
 have e3:(mR ⟨ag,af,sp,ws,ad⟩).ad= cc:=by rw [he]
 have e2:ws= bX:=congrArg eD.ws he
 subst e1;subst e3;subst e2
 exact aqx ag af sp ak c2 ws al c3 ad h2 h3 n2 n3 cm dS az w bm bl
theorem apH (an ar ak al aA:Option Addr) (c0 au c2 c3 c4:Nat) (rs:List aM) (qs:List aN) (ag af sp:Int) (ws:List Int) (ad:List aK) (os:List Out) (Z:ed an ar ak al aA c0 au c2 c3 c4 rs qs ws ad os) (mem val yes no bB:Int) (dw:Int) (bX:List Int) (cc:List aK) (az:nP ⟨ag,af,sp,ws,ad⟩ mem= true) (he:qw ⟨ag,af,sp,ws,ad⟩ mem=⟨ag,af,dw,bX,cc⟩) (aR:dF rs qs= true) (bS:hk rs qs= true) (w:World) (R:dL w an ar ak al aA rs qs ws ad os):
 Calls Tryz.prog 235 #[.agg #[.slice an rs c0,.slice ar qs au,ag,af,sp,.slice ak ws c2,.slice al ad c3,.slice aA os c4],.agg #[(3:Int),mem,val,yes,no,bB]] w fun e ah=>∃cI e0 cC e1 bk d2 bo d3 cL e4,e= .returned (.tuple #[.agg #[.slice cI rs e0,.slice cC qs e1,ag,af,dw,.slice bk bX d2,.slice bo cc d3,.slice cL os e4],true])∧gi w ah cI e0 cC e1 bk d2 bo d3 cL e4 rs qs bX cc os∧Below w w ah:=by
 have bL:=J R;have bj:=J Z;have ei:=J aR;have fD:=J bS;have bD:=J az;have da:=J he;clear R Z aR bS az he
 go_in
 go_upto_region 1 with fail
 refine fv fun aH av aj aU ae=>?_
 have I:=av;have aF:=aj.aI;have a':=aU.df;have aq:=ae.aI;have gv:=ae.lt
 go_upto_region 2 with fail
 refine cR fun kI ao bW=>?_
 replace I:=ai I ao;have br:=bW.aS;clear aF;replace aj:=aj.to ao;have aF:=aj.aI;clear a';replace aU:=aU.to ao;have a':=aU.df;clear aq;replace ae:=ae.to ao;have aq:=ae.aI;have qN:=bW.lt
 go_wp2_with fail
 refine (AO rs qs an ar c0 au bj.out.h0 bj.out.h1 ei.out true fD.out _ (bL.out.ft.U (ai I aw)) (bL.out.dz.U (ai I aw))).mono ?_
 rintro e bA ⟨rfl,bC⟩
 have aL:=be kI bC;replace I:=ai I aL;replace aj:=aj.to aL;clear aF;have aF:=aj.aI;replace aU:=aU.to aL;clear a';have a':=aU.df;replace ae:=ae.to aL;clear aq;have aq:=ae.aI;replace bW:=bW.to aL;clear br;have br:=bW.aS;have aac:=aL.size
 go_wp2_with fail
 refine (apo ag af sp ak c2 ws al c3 ad bj.out.h2 bj.out.h3 bj.out.n2 bj.out.n3 bj.out.cm bj.out.dS mem dw bX cc bD.out da.out _ (bL.out.r2.U (ai I aw)) (bL.out.gG.U (ai I aw))).mono ?_
 rintro e cf ⟨bk,d2,bo,d3,rfl,dr,cZ⟩
 have bV:=be bA cZ;replace I:=ai I bV;replace aj:=aj.to bV;clear aF;have aF:=aj.aI;clear a';replace ae:=ae.to bV;clear aq;have aq:=ae.aI;replace bW:=bW.to bV;clear br;have br:=bW.aS;have bF:=dr.fg;have bw:=dr.fF;clear dr;have sn:=bW.jh;have en:=bF.cH bW;have dI:=bw.cH bW
 go_upto_region 12 with fail
 clear aF aq br
 refine gT 0 fun nj eU=>?_
 replace I:=eU.aG I;replace aj:=eU.dJ aj;replace ae:=eU.dJ ae;replace bW:=eU.iK bW;replace bF:=bF.bY eU en;replace bw:=bw.bY eU dI;have aF:=aj.aI;have aq:=ae.aI;have br:=bW.aS;clear en dI sn;have fY:=bW.lt
 go_wp2_with fail
 refine (Ha an ar ak al aA c0 au c2 c3 c4 rs qs ag af sp ws ad os bj.out _ (bL.out.U (ai I aw))).mono ?_
 rintro e dE ⟨cI,e0,cC,e1,cV,e2,cW,e3,cL,e4,rfl,dr,ek⟩
 have cG:=be nj ek;replace I:=ai I cG;replace bF:=bF.bh cG;replace bw:=bw.bh cG;clear aF;replace ae:=ae.to cG;clear aq;have aq:=ae.aI;replace bW:=bW.to cG;clear br;have br:=bW.aS;have aqW:=cG.size;have KQ:=I.size
 go_upto_region 15 with fail
 have lv:=dr.bh (ca dE (.cells #[.slice cI rs e0,.slice cC qs e1,ag,af,sp,.slice cV ws e2,.slice cW ad e3,.slice cL os e4] 44));have fb:Below dE dE (World.alloc dE (.cells #[.slice cI rs e0,.slice cC qs e1,ag,af,sp,.slice cV ws e2,.slice cW ad e3,.slice cL os e4] 44)):=ca dE _
 have aO:=aC.new dE 44 #[.slice cI rs e0,.slice cC qs e1,ag,af,sp,.slice cV ws e2,.slice cW ad e3,.slice cL os e4]
 replace bF:=bF.bh fb;replace bw:=bw.bh fb
 generalize World.alloc dE (.cells #[.slice cI rs e0,.slice cC qs e1,ag,af,sp,.slice cV ws e2,.slice cW ad e3,.slice cL os e4] 44)= tI at *
 replace I:=ai I fb;have bG:=aO.aI;clear aq;replace ae:=ae.to fb;have aq:=ae.aI;clear br;replace bW:=bW.to fb;have br:=bW.aS;have cq:=lv.kp;have cv:=lv.hO;have cz:=lv.lE;clear lv;have qG:=aO.frozen 2;have so:=aO.frozen 3;have xi:=aO.frozen 4;have xj:=aO.frozen 5;have xk:=aO.frozen 6;have fC:=cq.cH aO;have ih:=cv.cH aO;have en:=bF.cH aO
 have dI:=bw.cH aO;have fH:=cz.cH aO
 go_upto_region 16 with fail
 clear aq br bG
 refine gT 2 fun mb eQ=>?_
 replace I:=eQ.aG I;replace ae:=eQ.dJ ae;replace aO:=eQ.Dl aO;replace bF:=bF.bY eQ en;replace bw:=bw.bY eQ dI;replace cq:=cq.bY eQ fC;replace cv:=cv.bY eQ ih
 replace cz:=cz.bY eQ fH;have aq:=ae.aI;have bG:=aO.aI;clear fC ih en dI fH qG so xi xj xk;have fC:=cq.cH ae;have ih:=cv.cH ae;have en:=bF.cH ae;have dI:=bw.cH ae;have fH:=cz.cH ae;have ez:=ae.jb
 go_wp2
 clear aq bG
 refine iE 0 fun cQ aD=>?_
 replace I:=aD.aG I;replace ae:=aD.ja ae;replace bF:=bF.bY aD en;replace bw:=bw.bY aD dI;replace cq:=cq.bY aD fC;replace cv:=cv.bY aD ih;replace cz:=cz.bY aD fH;have aq:=ae.aI
 exact hc ⟨cI,e0,cC,e1,bk,d2,bo,d3,cL,e4,rfl,⟨cq.base (by omega),cv.base (by omega),bF.base (by omega),bw.base (by omega),cz.base (by omega)⟩,I⟩ (by simp [results,Tryz.results235,go_sem,aq])
theorem Ro {p:Prop} (h:p:=by
 rintro e bA ⟨bk,d2,bo,d3,rfl,dr,bC⟩
 have aL:=be kI bC;replace I:=ai I aL;replace aj:=aj.to aL;clear aF;have aF:=aj.aI;clear a';replace ae:=ae.to aL;clear aq;have aq:=ae.aI;replace bW:=bW.to aL;clear br;have br:=bW.aS;have bF:=dr.fg;have bw:=dr.fF;clear dr;have sn:=bW.jh;have en:=bF.cH bW;have dI:=bw.cH bW
 go_upto_region 12 with fail
 clear aF aq br
 refine gT 0 fun nj eU=>?_
 replace I:=eU.aG I;replace aj:=eU.dJ aj;replace ae:=eU.dJ ae;replace bW:=eU.iK bW;replace bF:=bF.bY eU en;replace bw:=bw.bY eU dI;have aF:=aj.aI;have aq:=ae.aI;have br:=bW.aS;clear en dI sn;have fY:=bW.lt
 go_wp2_with fail
 refine (Ha an ar ak al aA c0 au c2 c3 c4 rs qs ag af sp ws ad os bj.out _ (bL.out.U (ai I aw))).mono ?_
 rintro e cf ⟨cI,e0,cC,e1,cV,e2,cW,e3,cL,e4,rfl,dr,cZ⟩
 have bV:=be nj cZ;replace I:=ai I bV;replace bF:=bF.bh bV;replace bw:=bw.bh bV;clear aF;replace ae:=ae.to bV;clear aq;have aq:=ae.aI;replace bW:=bW.to bV;clear br;have br:=bW.aS;have aqV:=bV.size;have KQ:=I.size
 go_upto_region 15 with fail
 have lv:=dr.bh (ca cf (.cells #[.slice cI rs e0,.slice cC qs e1,ag,af,sp,.slice cV ws e2,.slice cW ad e3,.slice cL os e4] 44));have cG:Below cf cf (World.alloc cf (.cells #[.slice cI rs e0,.slice cC qs e1,ag,af,sp,.slice cV ws e2,.slice cW ad e3,.slice cL os e4] 44)):=ca cf _
 have aO:=aC.new cf 44 #[.slice cI rs e0,.slice cC qs e1,ag,af,sp,.slice cV ws e2,.slice cW ad e3,.slice cL os e4]
 replace bF:=bF.bh cG;replace bw:=bw.bh cG
 generalize World.alloc cf (.cells #[.slice cI rs e0,.slice cC qs e1,ag,af,sp,.slice cV ws e2,.slice cW ad e3,.slice cL os e4] 44)= tI at *
 replace I:=ai I cG;have bG:=aO.aI;clear aq;replace ae:=ae.to cG;have aq:=ae.aI;clear br;replace bW:=bW.to cG;have br:=bW.aS;have cq:=lv.kp;have cv:=lv.hO;have cz:=lv.lE;clear lv;have qG:=aO.frozen 2;have so:=aO.frozen 3;have xi:=aO.frozen 4;have xj:=aO.frozen 5;have xk:=aO.frozen 6;have fC:=cq.cH aO;have ih:=cv.cH aO;have en:=bF.cH aO
 have dI:=bw.cH aO;have fH:=cz.cH aO
 go_upto_region 16 with fail
 clear aq br bG
 refine gT 2 fun mb eQ=>?_
 replace I:=eQ.aG I;replace ae:=eQ.dJ ae;replace aO:=eQ.Dl aO;replace bF:=bF.bY eQ en;replace bw:=bw.bY eQ dI;replace cq:=cq.bY eQ fC;replace cv:=cv.bY eQ ih
 replace cz:=cz.bY eQ fH;have aq:=ae.aI;have bG:=aO.aI;clear fC ih en dI fH qG so xi xj xk;have fC:=cq.cH ae;have ih:=cv.cH ae;have en:=bF.cH ae;have dI:=bw.cH ae;have fH:=cz.cH ae;have ez:=ae.jb
 go_wp2
 clear aq bG
 refine iE 0 fun cQ aD=>?_
 replace I:=aD.aG I;replace ae:=aD.ja ae;replace bF:=bF.bY aD en;replace bw:=bw.bY aD dI;replace cq:=cq.bY aD fC;replace cv:=cv.bY aD ih;replace cz:=cz.bY aD fH;have aq:=ae.aI
 exact hc ⟨cI,e0,cC,e1,bk,d2,bo,d3,cL,e4,rfl,⟨cq.base (by omega),cv.base (by omega),bF.base (by omega),bw.base (by omega),cz.base (by omega)⟩,I⟩ (by simp [results,Tryz.results235,go_sem,aq])):p:=h
theorem apJ (an ar ak al aA:Option Addr) (c0 au c2 c3 c4:Nat) (rs:List aM) (qs:List aN) (ag af sp:Int) (ws:List Int) (ad:List aK) (os:List Out) (Z:ed an ar ak al aA c0 au c2 c3 c4 rs qs ws ad os) (mem val yes no bB:Int) (q:Int) (bf:sI ⟨ag,af,sp,ws,ad⟩ =some q) (dw:Int) (bX:List Int) (cc:List aK) (az:mK ⟨ag,af,sp,ws,ad⟩ =true) (he:rM ⟨ag,af,sp,ws,ad⟩ q=⟨ag,af,dw,bX,cc⟩) (aR:dF rs qs= true) (bS:hk rs qs= true) (w:World) (R:dL w an ar ak al aA rs qs ws ad os):
 Calls Tryz.prog 235 #[.agg #[.slice an rs c0,.slice ar qs au,ag,af,sp,.slice ak ws c2,.slice al ad c3,.slice aA os c4],.agg #[(4:Int),mem,val,yes,no,bB]] w fun e ah=>∃cI e0 cC e1 bk d2 bo d3 cL e4,e= .returned (.tuple #[.agg #[.slice cI rs e0,.slice cC qs e1,ag,af,dw,.slice bk bX d2,.slice bo cc d3,.slice cL os e4],true])∧gi w ah cI e0 cC e1 bk d2 bo d3 cL e4 rs qs bX cc os∧Below w w ah:=by
 have bL:=J R;have bj:=J Z;have bD:=J az;have da:=J he;have dc:=J bf;clear R Z aR bS az he bf
 go_in
 go_upto_region 1 with fail
 refine fv fun aH av aj aU ae=>?_
 have I:=av;have aF:=aj.aI;have a':=aU.df;have aq:=ae.aI;have gv:=ae.lt
 go_upto_region 2 with fail
 refine cR fun kI ao bW=>?_
 replace I:=ai I ao;have br:=bW.aS;clear aF;replace aj:=aj.to ao;have aF:=aj.aI;clear a';replace aU:=aU.to ao;have a':=aU.df;clear aq;replace ae:=ae.to ao;have aq:=ae.aI;have qN:=bW.lt
 go_wp2_with fail
 refine (apq ag af sp ak c2 ws al c3 ad bj.out.h2 bj.out.h3 bj.out.n2 bj.out.n3 bj.out.cm bj.out.dS q dc.out dw bX cc bD.out da.out _ (bL.out.r2.U (ai I aw)) (bL.out.gG.U (ai I aw))).mono ?_
 exact Ro
theorem apL (an ar ak al aA:Option Addr) (c0 au c2 c3 c4:Nat) (rs:List aM) (qs:List aN) (ag af sp:Int) (ws:List Int) (ad:List aK) (os:List Out) (Z:ed an ar ak al aA c0 au c2 c3 c4 rs qs ws ad os) (mem val yes no bB:Int) (dw:Int) (bX:List Int) (cc:List aK) (az:oj ⟨ag,af,sp,ws,ad⟩ val= true) (he:jw ⟨ag,af,sp,ws,ad⟩ val=⟨ag,af,dw,bX,cc⟩) (aR:dF rs qs= true) (bS:hk rs qs= true) (w:World) (R:dL w an ar ak al aA rs qs ws ad os):
 Calls Tryz.prog 235 #[.agg #[.slice an rs c0,.slice ar qs au,ag,af,sp,.slice ak ws c2,.slice al ad c3,.slice aA os c4],.agg #[(5:Int),mem,val,yes,no,bB]] w fun e ah=>∃cI e0 cC e1 bk d2 bo d3 cL e4,e= .returned (.tuple #[.agg #[.slice cI rs e0,.slice cC qs e1,ag,af,dw,.slice bk bX d2,.slice bo cc d3,.slice cL os e4],true])∧gi w ah cI e0 cC e1 bk d2 bo d3 cL e4 rs qs bX cc os∧Below w w ah:=by
 have bL:=J R;have bj:=J Z;have bD:=J az;have da:=J he;clear R Z aR bS az he
 go_in
 go_upto_region 1 with fail
 refine fv fun aH av aj aU ae=>?_
 have I:=av;have aF:=aj.aI;have a':=aU.df;have aq:=ae.aI;have gv:=ae.lt
 go_upto_region 2 with fail
 refine cR fun kI ao bW=>?_
 replace I:=ai I ao;have br:=bW.aS;clear aF;replace aj:=aj.to ao;have aF:=aj.aI;clear a';replace aU:=aU.to ao;have a':=aU.df;clear aq;replace ae:=ae.to ao;have aq:=ae.aI;have qN:=bW.lt
 go_wp2_with fail
 refine (apr ag af sp ak c2 ws al c3 ad bj.out.h2 bj.out.h3 bj.out.n2 bj.out.n3 bj.out.cm bj.out.dS val dw bX cc bD.out da.out _ (bL.out.r2.U (ai I aw)) (bL.out.gG.U (ai I aw))).mono ?_
 exact Ro
theorem apN (an ar ak al aA:Option Addr) (c0 au c2 c3 c4:Nat) (rs:List aM) (qs:List aN) (ag af sp:Int) (ws:List Int) (ad:List aK) (os:List Out) (Z:ed an ar ak al aA c0 au c2 c3 c4 rs qs ws ad os) (mem val yes no bB:Int) (dw:Int) (bX:List Int) (cc:List aK) (az:mh ⟨ag,af,sp,ws,ad⟩ =true) (he:mR ⟨ag,af,sp,ws,ad⟩ =⟨ag,af,dw,bX,cc⟩) (aR:dF rs qs= true) (bS:hk rs qs= true) (w:World) (R:dL w an ar ak al aA rs qs ws ad os):
 Calls Tryz.prog 235 #[.agg #[.slice an rs c0,.slice ar qs au,ag,af,sp,.slice ak ws c2,.slice al ad c3,.slice aA os c4],.agg #[(6:Int),mem,val,yes,no,bB]] w fun e ah=>∃cI e0 cC e1 bk d2 bo d3 cL e4,e= .returned (.tuple #[.agg #[.slice cI rs e0,.slice cC qs e1,ag,af,dw,.slice bk bX d2,.slice bo cc d3,.slice cL os e4],true])∧gi w ah cI e0 cC e1 bk d2 bo d3 cL e4 rs qs bX cc os∧Below w w ah:=by
 have bL:=J R;have bj:=J Z;have bD:=J az;have da:=J he;clear R Z aR bS az he
 go_in
 go_upto_region 1 with fail
 refine fv fun aH av aj aU ae=>?_
 have I:=av;have aF:=aj.aI;have a':=aU.df;have aq:=ae.aI;have gv:=ae.lt
 go_upto_region 2 with fail
 refine cR fun kI ao bW=>?_
 replace I:=ai I ao;have br:=bW.aS;clear aF;replace aj:=aj.to ao;have aF:=aj.aI;clear a';replace aU:=aU.to ao;have a':=aU.df;clear aq;replace ae:=ae.to ao;have aq:=ae.aI;have qN:=bW.lt
 go_wp2_with fail
 refine (aps ag af sp ak c2 ws al c3 ad bj.out.h2 bj.out.h3 bj.out.n2 bj.out.n3 bj.out.cm bj.out.dS dw bX cc bD.out da.out _ (bL.out.r2.U (ai I aw)) (bL.out.gG.U (ai I aw))).mono ?_
 exact Ro
theorem aaX {p:Prop} (h:p:=by
 have ez:=ae.jb
 go_wp2
 clear aq
 refine iE 0 fun cQ aD=>?_
 replace I:=aD.aG I;replace ae:=aD.ja ae;have aq:=ae.aI
 exact hc ⟨rfl,I⟩ (by simp [results,Tryz.results235,go_sem,aq])):p:=h
theorem apG (an ar ak al aA:Option Addr) (c0 au c2 c3 c4:Nat) (rs:List aM) (qs:List aN) (ag af sp:Int) (ws:List Int) (ad:List aK) (os:List Out) (Z:ed an ar ak al aA c0 au c2 c3 c4 rs qs ws ad os) (mem val yes no bB:Int) (az:nP ⟨ag,af,sp,ws,ad⟩ mem= false) (bS:hk rs qs= true) (aR:dF rs qs= true) (w:World) (R:dL w an ar ak al aA rs qs ws ad os):
 Calls Tryz.prog 235 #[.agg #[.slice an rs c0,.slice ar qs au,ag,af,sp,.slice ak ws c2,.slice al ad c3,.slice aA os c4],.agg #[(3:Int),mem,val,yes,no,bB]] w fun e ah=>e= .returned (.tuple #[.agg #[.slice none 0 0,.slice none 0 0,(0:Int),(0:Int),(0:Int),.slice none 0 0,.slice none 0 0,.slice none 0 0],false])∧Below w w ah:=by
 have bL:=J R;have bj:=J Z;have ei:=J aR;clear R Z aR;have bD:=J az;clear az;have fD:=J bS;clear bS
 go_in
 go_upto_region 1 with fail
 refine fv fun aH av aj aU ae=>?_
 have I:=av;have aF:=aj.aI;have a':=aU.df;have aq:=ae.aI;have gv:=ae.lt
 go_upto_region 2 with fail
 refine cR fun kI ao bW=>?_
 replace I:=ai I ao;have br:=bW.aS;clear aF;replace aj:=aj.to ao;have aF:=aj.aI;clear a';replace aU:=aU.to ao;have a':=aU.df;clear aq;replace ae:=ae.to ao;have aq:=ae.aI
 go_wp2_with fail
 refine (AO rs qs an ar c0 au bj.out.h0 bj.out.h1 ei.out true fD.out _ (bL.out.ft.U (ai I aw)) (bL.out.dz.U (ai I aw))).mono ?_
 rintro e bA ⟨rfl,bC⟩
 have aL:=be kI bC;replace I:=ai I aL;replace aj:=aj.to aL;clear aF;have aF:=aj.aI;replace aU:=aU.to aL;clear a';have a':=aU.df;replace ae:=ae.to aL;clear aq;have aq:=ae.aI;replace bW:=bW.to aL;clear br;have br:=bW.aS
 go_wp2_with fail
 refine (apw ag af sp ak c2 ws al c3 ad bj.out.h2 bj.out.h3 bj.out.n2 bj.out.n3 bj.out.cm bj.out.dS mem bD.out _ (bL.out.r2.U (ai I aw)) (bL.out.gG.U (ai I aw))).mono ?_
 rintro e cf ⟨rfl,cZ⟩
 have bV:=be bA cZ;replace I:=ai I bV;clear aF;clear a';replace ae:=ae.to bV;clear aq;have aq:=ae.aI;replace bW:=bW.to bV;clear br;have br:=bW.aS;have sn:=bW.jh
 go_upto_region 12 with fail
 clear aq br
 refine gT 0 fun nj eU=>?_
 replace I:=eU.aG I;replace ae:=eU.dJ ae;have aq:=ae.aI;clear sn
 exact aaX
theorem Rq {p:Prop} (h:p:=by
 rintro e bA ⟨rfl,bC⟩
 have aL:=be kI bC;replace I:=ai I aL;clear aF;clear a';replace ae:=ae.to aL;clear aq;have aq:=ae.aI;replace bW:=bW.to aL;clear br;have br:=bW.aS;have sn:=bW.jh
 go_upto_region 12 with fail
 clear aq br
 refine gT 0 fun nj eU=>?_
 replace I:=eU.aG I;replace ae:=eU.dJ ae;have aq:=ae.aI;clear sn;have ez:=ae.jb
 go_wp2
 clear aq
 refine iE 0 fun cQ aD=>?_
 replace I:=aD.aG I;replace ae:=aD.ja ae;have aq:=ae.aI
 exact hc ⟨rfl,I⟩ (by simp [results,Tryz.results235,go_sem,aq])):p:=h
theorem apI (an ar ak al aA:Option Addr) (c0 au c2 c3 c4:Nat) (rs:List aM) (qs:List aN) (ag af sp:Int) (ws:List Int) (ad:List aK) (os:List Out) (Z:ed an ar ak al aA c0 au c2 c3 c4 rs qs ws ad os) (mem val yes no bB:Int) (az:mK ⟨ag,af,sp,ws,ad⟩ =false) (aR:dF rs qs= true) (w:World) (R:dL w an ar ak al aA rs qs ws ad os):
 Calls Tryz.prog 235 #[.agg #[.slice an rs c0,.slice ar qs au,ag,af,sp,.slice ak ws c2,.slice al ad c3,.slice aA os c4],.agg #[(4:Int),mem,val,yes,no,bB]] w fun e ah=>e= .returned (.tuple #[.agg #[.slice none 0 0,.slice none 0 0,(0:Int),(0:Int),(0:Int),.slice none 0 0,.slice none 0 0,.slice none 0 0],false])∧Below w w ah:=by
 have bL:=J R;have bj:=J Z;clear R Z aR;have bD:=J az;clear az
 go_in
 go_upto_region 1 with fail
 refine fv fun aH av aj aU ae=>?_
 have I:=av;have aF:=aj.aI;have a':=aU.df;have aq:=ae.aI;have gv:=ae.lt
 go_upto_region 2 with fail
 refine cR fun kI ao bW=>?_
 replace I:=ai I ao;have br:=bW.aS;clear aF;replace aj:=aj.to ao;have aF:=aj.aI;clear a';replace aU:=aU.to ao;have a':=aU.df;clear aq;replace ae:=ae.to ao;have aq:=ae.aI
 go_wp2_with fail
 refine (aqh ag af sp ak c2 ws al c3 ad bj.out.h2 bj.out.h3 bj.out.n2 bj.out.n3 bj.out.cm bj.out.dS bD.out _ (bL.out.r2.U (ai I aw)) (bL.out.gG.U (ai I aw))).mono ?_
 exact Rq
theorem apK (an ar ak al aA:Option Addr) (c0 au c2 c3 c4:Nat) (rs:List aM) (qs:List aN) (ag af sp:Int) (ws:List Int) (ad:List aK) (os:List Out) (Z:ed an ar ak al aA c0 au c2 c3 c4 rs qs ws ad os) (mem val yes no bB:Int) (az:oj ⟨ag,af,sp,ws,ad⟩ val= false) (aR:dF rs qs= true) (w:World) (R:dL w an ar ak al aA rs qs ws ad os):
 Calls Tryz.prog 235 #[.agg #[.slice an rs c0,.slice ar qs au,ag,af,sp,.slice ak ws c2,.slice al ad c3,.slice aA os c4],.agg #[(5:Int),mem,val,yes,no,bB]] w fun e ah=>e= .returned (.tuple #[.agg #[.slice none 0 0,.slice none 0 0,(0:Int),(0:Int),(0:Int),.slice none 0 0,.slice none 0 0,.slice none 0 0],false])∧Below w w ah:=by
 have bL:=J R;have bj:=J Z;clear R Z aR;have bD:=J az;clear az
 go_in
 go_upto_region 1 with fail
 refine fv fun aH av aj aU ae=>?_
 have I:=av;have aF:=aj.aI;have a':=aU.df;have aq:=ae.aI;have gv:=ae.lt
 go_upto_region 2 with fail
 refine cR fun kI ao bW=>?_
 replace I:=ai I ao;have br:=bW.aS;clear aF;replace aj:=aj.to ao;have aF:=aj.aI;clear a';replace aU:=aU.to ao;have a':=aU.df;clear aq;replace ae:=ae.to ao;have aq:=ae.aI
 go_wp2_with fail
 refine (aqp ag af sp ak c2 ws al c3 ad bj.out.h2 bj.out.h3 bj.out.n2 bj.out.n3 bj.out.cm bj.out.dS val bD.out _ (bL.out.r2.U (ai I aw)) (bL.out.gG.U (ai I aw))).mono ?_
 exact Rq
theorem apM (an ar ak al aA:Option Addr) (c0 au c2 c3 c4:Nat) (rs:List aM) (qs:List aN) (ag af sp:Int) (ws:List Int) (ad:List aK) (os:List Out) (Z:ed an ar ak al aA c0 au c2 c3 c4 rs qs ws ad os) (mem val yes no bB:Int) (az:mh ⟨ag,af,sp,ws,ad⟩ =false) (aR:dF rs qs= true) (w:World) (R:dL w an ar ak al aA rs qs ws ad os):
 Calls Tryz.prog 235 #[.agg #[.slice an rs c0,.slice ar qs au,ag,af,sp,.slice ak ws c2,.slice al ad c3,.slice aA os c4],.agg #[(6:Int),mem,val,yes,no,bB]] w fun e ah=>e= .returned (.tuple #[.agg #[.slice none 0 0,.slice none 0 0,(0:Int),(0:Int),(0:Int),.slice none 0 0,.slice none 0 0,.slice none 0 0],false])∧Below w w ah:=by
 have bL:=J R;have bj:=J Z;clear R Z aR;have bD:=J az;clear az
 go_in
 go_upto_region 1 with fail
 refine fv fun aH av aj aU ae=>?_
 have I:=av;have aF:=aj.aI;have a':=aU.df;have aq:=ae.aI;have gv:=ae.lt
 go_upto_region 2 with fail
 refine cR fun kI ao bW=>?_
 replace I:=ai I ao;have br:=bW.aS;clear aF;replace aj:=aj.to ao;have aF:=aj.aI;clear a';replace aU:=aU.to ao;have a':=aU.df;clear aq;replace ae:=ae.to ao;have aq:=ae.aI
 go_wp2_with fail
 refine (aqw ag af sp ak c2 ws al c3 ad bj.out.h2 bj.out.h3 bj.out.n2 bj.out.n3 bj.out.cm bj.out.dS bD.out _ (bL.out.r2.U (ai I aw)) (bL.out.gG.U (ai I aw))).mono ?_
 exact Rq
theorem apF (an ar ak al aA:Option Addr) (c0 au c2 c3 c4:Nat) (rs:List aM) (qs:List aN) (ag af sp:Int) (ws:List Int) (ad:List aK) (os:List Out) (Z:ed an ar ak al aA c0 au c2 c3 c4 rs qs ws ad os) (mem val yes no bB:Int) (bS:hk rs qs= false) (aR:dF rs qs= true) (w:World) (R:dL w an ar ak al aA rs qs ws ad os):
 Calls Tryz.prog 235 #[.agg #[.slice an rs c0,.slice ar qs au,ag,af,sp,.slice ak ws c2,.slice al ad c3,.slice aA os c4],.agg #[(3:Int),mem,val,yes,no,bB]] w fun e ah=>e= .returned (.tuple #[.agg #[.slice none 0 0,.slice none 0 0,(0:Int),(0:Int),(0:Int),.slice none 0 0,.slice none 0 0,.slice none 0 0],false])∧Below w w ah:=by
 have bL:=J R;have bj:=J Z;have ei:=J aR;clear R Z aR;have fD:=J bS;clear bS
 go_in
 go_upto_region 1 with fail
 refine fv fun aH av aj aU ae=>?_
 have I:=av;have aF:=aj.aI;have a':=aU.df;have aq:=ae.aI
 go_upto_region 2 with fail
 refine cR fun kI ao bW=>?_
 replace I:=ai I ao;clear aF;replace aj:=aj.to ao;have aF:=aj.aI;clear a';replace aU:=aU.to ao;have a':=aU.df;clear aq;replace ae:=ae.to ao;have aq:=ae.aI
 go_wp2_with fail
 refine (AO rs qs an ar c0 au bj.out.h0 bj.out.h1 ei.out false fD.out _ (bL.out.ft.U (ai I aw)) (bL.out.dz.U (ai I aw))).mono ?_
 rintro e bA ⟨rfl,bC⟩
 have aL:=be kI bC;replace I:=ai I aL;clear aF;clear a';replace ae:=ae.to aL;clear aq;have aq:=ae.aI
 exact aaX
theorem apO (an ar ak al aA:Option Addr) (c0 au c2 c3 c4:Nat) (rs:List aM) (qs:List aN) (ag af sp:Int) (ws:List Int) (ad:List aK) (os:List Out) (Z:ed an ar ak al aA c0 au c2 c3 c4 rs qs ws ad os) (kind mem val yes no bB:Int) (sr:(kind == 3)= false) (xm:(kind == 4)= false) (atx:(kind == 5)= false) (ahQ:(kind == 6)= false) (aR:dF rs qs= true) (w:World) (R:dL w an ar ak al aA rs qs ws ad os):
 Calls Tryz.prog 235 #[.agg #[.slice an rs c0,.slice ar qs au,ag,af,sp,.slice ak ws c2,.slice al ad c3,.slice aA os c4],.agg #[kind,mem,val,yes,no,bB]] w fun e ah=>e= .returned (.tuple #[.agg #[.slice none 0 0,.slice none 0 0,(0:Int),(0:Int),(0:Int),.slice none 0 0,.slice none 0 0,.slice none 0 0],false])∧Below w w ah:=by
 clear R Z aR
 go_in
 go_upto_region 1 with fail
 refine fv fun aH av aj aU ae=>?_
 have I:=av;have a':=aU.df;have aq:=ae.aI
 go_upto_region 2 with fail
 refine cR fun kI ao bW=>?_
 replace I:=ai I ao;clear a';replace aU:=aU.to ao;have a':=aU.df;clear aq;replace ae:=ae.to ao;have aq:=ae.aI;have ez:=ae.jb
 go_wp2
 clear a' aq
 refine iE 0 fun cQ aD=>?_
 replace I:=aD.aG I;replace ae:=aD.ja ae;have aq:=ae.aI
 exact hc ⟨rfl,I⟩ (by simp [results,Tryz.results235,go_sem,aq])
open Go.RowKit Go.G9
theorem WD (ag af sp:Int) (ak:Option Addr) (c2:Nat) (ws:List Int) (al:Option Addr) (c3:Nat) (ad:List aK) (h2:ws.length≤1048576) (h3:ad.length≤1048576) (n2:ak= none→ws= []∧c2= 0) (n3:al= none→ad= []∧c3= 0) (cm:ws.length≤c2) (mem:Int) (dw:Int) (bX:List Int) (cc:List aK) (az:nP ⟨ag,af,sp,ws,ad⟩ mem= true) (he:qw ⟨ag,af,sp,ws,ad⟩ mem=⟨ag,af,dw,bX,cc⟩) (w:World) (bm:aJ 1 bU w ak ws) (bl:aJ 3 aK.cells w al ad):
 Calls Tryz.prog 258 #[.agg #[ag,af,sp,.slice ak ws c2,.slice al ad c3],mem] w fun e ah=>∃bk d2 bo d3,e= .returned (.tuple #[.agg #[ag,af,dw,.slice bk bX d2,.slice bo cc d3],true])∧jH w.heap.size ah bk d2 bo d3 bX cc∧Below w w ah:=by
 have e1:=congrArg eD.sp he;have e3:=congrArg eD.ad he;have e2:=congrArg eD.ws he
 simp only [qw,rM] at e1 e2 e3
 subst e1;subst e3;subst e2
 exact aks ag af sp ak c2 ws al c3 ad h2 h3 n2 n3 cm mem az w bm bl
theorem WE (ag af sp:Int) (ak:Option Addr) (c2:Nat) (ws:List Int) (al:Option Addr) (c3:Nat) (ad:List aK) (h2:ws.length≤1048576) (h3:ad.length≤1048576) (n2:ak= none→ws= []∧c2= 0) (n3:al= none→ad= []∧c3= 0) (cm:ws.length≤c2) (q:Int) (bf:sI ⟨ag,af,sp,ws,ad⟩ =some q) (dw:Int) (bX:List Int) (cc:List aK) (az:mK ⟨ag,af,sp,ws,ad⟩ =true) (he:rM ⟨ag,af,sp,ws,ad⟩ q=⟨ag,af,dw,bX,cc⟩) (w:World) (bm:aJ 1 bU w ak ws) (bl:aJ 3 aK.cells w al ad):
 Calls Tryz.prog 259 #[.agg #[ag,af,sp,.slice ak ws c2,.slice al ad c3]] w fun e ah=>∃bk d2 bo d3,e= .returned (.tuple #[.agg #[ag,af,dw,.slice bk bX d2,.slice bo cc d3],q,true])∧jH w.heap.size ah bk d2 bo d3 bX cc∧Below w w ah:=by
 have e1:=congrArg eD.sp he;have e3:=congrArg eD.ad he;have e2:=congrArg eD.ws he
 simp only [qw,rM] at e1 e2 e3
 subst e1;subst e3;subst e2
 exact alp ag af sp ak c2 ws al c3 ad h2 h3 n2 n3 cm az q bf w bm bl
theorem WG (ag af sp:Int) (ak:Option Addr) (c2:Nat) (ws:List Int) (al:Option Addr) (c3:Nat) (ad:List aK) (h2:ws.length≤1048576) (h3:ad.length≤1048576) (n2:ak= none→ws= []∧c2= 0) (n3:al= none→ad= []∧c3= 0) (cm:ws.length≤c2) (val:Int) (dw:Int) (bX:List Int) (cc:List aK) (az:oj ⟨ag,af,sp,ws,ad⟩ val= true) (he:jw ⟨ag,af,sp,ws,ad⟩ val=⟨ag,af,dw,bX,cc⟩) (w:World) (bm:aJ 1 bU w ak ws) (bl:aJ 3 aK.cells w al ad):
 Calls Tryz.prog 260 #[.agg #[ag,af,sp,.slice ak ws c2,.slice al ad c3],val] w fun e ah=>∃bk d2 bo d3,e= .returned (.tuple #[.agg #[ag,af,dw,.slice bk bX d2,.slice bo cc d3],.int .i64 (tC ⟨ag,af,sp,ws,ad⟩ val),true])∧jH w.heap.size ah bk d2 bo d3 bX cc∧Below w w ah:=by
 have e1:(jw ⟨ag,af,sp,ws,ad⟩ val).sp= dw:=by rw [he]
 have e3:(jw ⟨ag,af,sp,ws,ad⟩ val).ad= cc:=by rw [he]
 have e2:ws= bX:=by
  exact acj
 subst e1;subst e3;subst e2
 exact alw ag af sp ak c2 ws al c3 ad h2 h3 n2 n3 cm val az w bm bl
theorem WH (ag af sp:Int) (ak:Option Addr) (c2:Nat) (ws:List Int) (al:Option Addr) (c3:Nat) (ad:List aK) (h2:ws.length≤1048576) (h3:ad.length≤1048576) (n2:ak= none→ws= []∧c2= 0) (n3:al= none→ad= []∧c3= 0) (cm:ws.length≤c2) (dw:Int) (bX:List Int) (cc:List aK) (az:mh ⟨ag,af,sp,ws,ad⟩ =true) (he:mR ⟨ag,af,sp,ws,ad⟩ =⟨ag,af,dw,bX,cc⟩) (w:World) (bm:aJ 1 bU w ak ws) (bl:aJ 3 aK.cells w al ad):
 Calls Tryz.prog 261 #[.agg #[ag,af,sp,.slice ak ws c2,.slice al ad c3]] w fun e ah=>∃bk d2 bo d3,e= .returned (.tuple #[.agg #[ag,af,dw,.slice bk bX d2,.slice bo cc d3],true])∧jH w.heap.size ah bk d2 bo d3 bX cc∧Below w w ah:=by
 have e1:(0:Int)= dw:=congrArg eD.sp he
 have e3:(mR ⟨ag,af,sp,ws,ad⟩).ad= cc:=by rw [he]
 have e2:ws= bX:=congrArg eD.ws he
 subst e1;subst e3;subst e2
 exact alD ag af sp ak c2 ws al c3 ad h2 h3 n2 n3 cm az w bm bl
theorem Ll {p:Prop} (h:p:=by
 rintro e bA ⟨bk,d2,bo,d3,rfl,dr,bC⟩
 have aL:=be kI bC;replace I:=ai I aL;replace aj:=aj.to aL;clear aF;have aF:=aj.aI;clear a';replace ae:=ae.to aL;clear aq;have aq:=ae.aI;replace bW:=bW.to aL;clear br;have br:=bW.aS;have bF:=dr.fg;have bw:=dr.fF;clear dr;have sn:=bW.jh;have en:=bF.cH bW;have dI:=bw.cH bW
 go_upto_region 11 with fail
 clear aF aq br
 refine gT 0 fun nj eU=>?_
 replace I:=eU.aG I;replace aj:=eU.dJ aj;replace ae:=eU.dJ ae;replace bW:=eU.iK bW;replace bF:=bF.bY eU en;replace bw:=bw.bY eU dI;have aF:=aj.aI;have aq:=ae.aI;have br:=bW.aS;clear en dI sn;have fY:=bW.lt
 go_wp2_with fail
 refine (CQ rs qs ag af sp ws ad os an ar ak al aA c0 au c2 c3 c4 bj.out.h0 bj.out.h1 bj.out.h2 bj.out.h3 bj.out.h4 ei.out true fD.out _ (bL.out.ft.U (ai I aw)) (bL.out.dz.U (ai I aw)) (bL.out.r2.U (ai I aw)) (bL.out.gG.U (ai I aw)) (bL.out.lF.U (ai I aw))).mono ?_
 rintro e cf ⟨rfl,cZ⟩
 have bV:=be nj cZ;replace I:=ai I bV;replace bF:=bF.bh bV;replace bw:=bw.bh bV;replace aj:=aj.to bV;clear aF;have aF:=aj.aI;replace ae:=ae.to bV;clear aq;have aq:=ae.aI;replace bW:=bW.to bV;clear br;have br:=bW.aS;have aqV:=bV.size
 go_wp2_with fail
 refine (Kk an ar ak al aA c0 au c2 c3 c4 rs qs ag af sp ws ad os bj.out _ (bL.out.U (ai I aw))).mono ?_
 rintro e dE ⟨cI,e0,cC,e1,cV,e2,cW,e3,cL,e4,rfl,dr,ek⟩
 have cG:=be cf ek;replace I:=ai I cG;replace bF:=bF.bh cG;replace bw:=bw.bh cG;clear aF;replace ae:=ae.to cG;clear aq;have aq:=ae.aI;replace bW:=bW.to cG;clear br;have br:=bW.aS;have aqW:=cG.size;have KQ:=I.size
 go_upto_region 14 with fail
 have lv:=dr.bh (ca dE (.cells #[.slice cI rs e0,.slice cC qs e1,ag,af,sp,.slice cV ws e2,.slice cW ad e3,.slice cL os e4] 44));have fb:Below dE dE (World.alloc dE (.cells #[.slice cI rs e0,.slice cC qs e1,ag,af,sp,.slice cV ws e2,.slice cW ad e3,.slice cL os e4] 44)):=ca dE _
 have aO:=aC.new dE 44 #[.slice cI rs e0,.slice cC qs e1,ag,af,sp,.slice cV ws e2,.slice cW ad e3,.slice cL os e4]
 replace bF:=bF.bh fb;replace bw:=bw.bh fb
 generalize World.alloc dE (.cells #[.slice cI rs e0,.slice cC qs e1,ag,af,sp,.slice cV ws e2,.slice cW ad e3,.slice cL os e4] 44)= tI at *
 replace I:=ai I fb;have bG:=aO.aI;clear aq;replace ae:=ae.to fb;have aq:=ae.aI;clear br;replace bW:=bW.to fb;have br:=bW.aS;have cq:=lv.kp;have cv:=lv.hO;have cz:=lv.lE;clear lv;have qG:=aO.frozen 2;have so:=aO.frozen 3;have xi:=aO.frozen 4;have xj:=aO.frozen 5;have xk:=aO.frozen 6;have fC:=cq.cH aO;have ih:=cv.cH aO;have en:=bF.cH aO
 have dI:=bw.cH aO;have fH:=cz.cH aO
 go_upto_region 15 with fail
 clear aq br bG
 refine gT 2 fun mb eQ=>?_
 replace I:=eQ.aG I;replace ae:=eQ.dJ ae;replace aO:=eQ.Dl aO;replace bF:=bF.bY eQ en;replace bw:=bw.bY eQ dI;replace cq:=cq.bY eQ fC;replace cv:=cv.bY eQ ih
 replace cz:=cz.bY eQ fH;have aq:=ae.aI;have bG:=aO.aI;clear fC ih en dI fH qG so xi xj xk;have fC:=cq.cH ae;have ih:=cv.cH ae;have en:=bF.cH ae;have dI:=bw.cH ae;have fH:=cz.cH ae;have ez:=ae.jb
 go_wp2
 clear aq bG
 refine iE 0 fun cQ aD=>?_
 replace I:=aD.aG I;replace ae:=aD.ja ae;replace bF:=bF.bY aD en;replace bw:=bw.bY aD dI;replace cq:=cq.bY aD fC;replace cv:=cv.bY aD ih;replace cz:=cz.bY aD fH;have aq:=ae.aI
 exact hc ⟨cI,e0,cC,e1,bk,d2,bo,d3,cL,e4,rfl,⟨cq.base (by omega),cv.base (by omega),bF.base (by omega),bw.base (by omega),cz.base (by omega)⟩,I⟩ (by simp [results,Tryz.results179,go_sem,aq])):p:=h
theorem akH (an ar ak al aA:Option Addr) (c0 au c2 c3 c4:Nat) (rs:List aM) (qs:List aN) (ag af sp:Int) (ws:List Int) (ad:List aK) (os:List Out) (Z:ed an ar ak al aA c0 au c2 c3 c4 rs qs ws ad os) (mem val yes no bB:Int) (dw:Int) (bX:List Int) (cc:List aK) (az:nP ⟨ag,af,sp,ws,ad⟩ mem= true) (he:qw ⟨ag,af,sp,ws,ad⟩ mem=⟨ag,af,dw,bX,cc⟩) (aR:dF rs qs= true) (bS:hk rs qs= true) (w:World) (R:dL w an ar ak al aA rs qs ws ad os):
 Calls Tryz.prog 179 #[.agg #[.slice an rs c0,.slice ar qs au,ag,af,sp,.slice ak ws c2,.slice al ad c3,.slice aA os c4],.agg #[(3:Int),mem,val,yes,no,bB]] w fun e ah=>∃cI e0 cC e1 bk d2 bo d3 cL e4,e= .returned (.tuple #[.agg #[.slice cI rs e0,.slice cC qs e1,ag,af,dw,.slice bk bX d2,.slice bo cc d3,.slice cL os e4],true])∧gi w ah cI e0 cC e1 bk d2 bo d3 cL e4 rs qs bX cc os∧Below w w ah:=by
 have bL:=J R;have bj:=J Z;have ei:=J aR;have fD:=J bS;have bD:=J az;have da:=J he;clear R Z aR bS az he
 go_in
 go_upto_region 1 with fail
 refine fv fun aH av aj aU ae=>?_
 have I:=av;have aF:=aj.aI;have a':=aU.df;have aq:=ae.aI;have gv:=ae.lt
 go_upto_region 2 with fail
 refine cR fun kI ao bW=>?_
 replace I:=ai I ao;have br:=bW.aS;clear aF;replace aj:=aj.to ao;have aF:=aj.aI;clear a';replace aU:=aU.to ao;have a':=aU.df;clear aq;replace ae:=ae.to ao;have aq:=ae.aI;have qN:=bW.lt
 go_wp2_with fail
 refine (WD ag af sp ak c2 ws al c3 ad bj.out.h2 bj.out.h3 bj.out.n2 bj.out.n3 bj.out.cm mem dw bX cc bD.out da.out _ (bL.out.r2.U (ai I aw)) (bL.out.gG.U (ai I aw))).mono ?_
 exact Ll
theorem akK (an ar ak al aA:Option Addr) (c0 au c2 c3 c4:Nat) (rs:List aM) (qs:List aN) (ag af sp:Int) (ws:List Int) (ad:List aK) (os:List Out) (Z:ed an ar ak al aA c0 au c2 c3 c4 rs qs ws ad os) (mem val yes no bB:Int) (q:Int) (bf:sI ⟨ag,af,sp,ws,ad⟩ =some q) (dw:Int) (bX:List Int) (cc:List aK) (az:mK ⟨ag,af,sp,ws,ad⟩ =true) (he:rM ⟨ag,af,sp,ws,ad⟩ q=⟨ag,af,dw,bX,cc⟩) (aR:dF rs qs= true) (bS:hk rs qs= true) (w:World) (R:dL w an ar ak al aA rs qs ws ad os):
 Calls Tryz.prog 179 #[.agg #[.slice an rs c0,.slice ar qs au,ag,af,sp,.slice ak ws c2,.slice al ad c3,.slice aA os c4],.agg #[(4:Int),mem,val,yes,no,bB]] w fun e ah=>∃cI e0 cC e1 bk d2 bo d3 cL e4,e= .returned (.tuple #[.agg #[.slice cI rs e0,.slice cC qs e1,ag,af,dw,.slice bk bX d2,.slice bo cc d3,.slice cL os e4],true])∧gi w ah cI e0 cC e1 bk d2 bo d3 cL e4 rs qs bX cc os∧Below w w ah:=by
 have bL:=J R;have bj:=J Z;have ei:=J aR;have fD:=J bS;have bD:=J az;have da:=J he;have dc:=J bf;clear R Z aR bS az he bf
 go_in
 go_upto_region 1 with fail
 refine fv fun aH av aj aU ae=>?_
 have I:=av;have aF:=aj.aI;have a':=aU.df;have aq:=ae.aI;have gv:=ae.lt
 go_upto_region 2 with fail
 refine cR fun kI ao bW=>?_
 replace I:=ai I ao;have br:=bW.aS;clear aF;replace aj:=aj.to ao;have aF:=aj.aI;clear a';replace aU:=aU.to ao;have a':=aU.df;clear aq;replace ae:=ae.to ao;have aq:=ae.aI;have qN:=bW.lt
 go_wp2_with fail
 refine (WE ag af sp ak c2 ws al c3 ad bj.out.h2 bj.out.h3 bj.out.n2 bj.out.n3 bj.out.cm q dc.out dw bX cc bD.out da.out _ (bL.out.r2.U (ai I aw)) (bL.out.gG.U (ai I aw))).mono ?_
 exact Ll
theorem akN (an ar ak al aA:Option Addr) (c0 au c2 c3 c4:Nat) (rs:List aM) (qs:List aN) (ag af sp:Int) (ws:List Int) (ad:List aK) (os:List Out) (Z:ed an ar ak al aA c0 au c2 c3 c4 rs qs ws ad os) (mem val yes no bB:Int) (dw:Int) (bX:List Int) (cc:List aK) (az:oj ⟨ag,af,sp,ws,ad⟩ val= true) (he:jw ⟨ag,af,sp,ws,ad⟩ val=⟨ag,af,dw,bX,cc⟩) (aR:dF rs qs= true) (bS:hk rs qs= true) (w:World) (R:dL w an ar ak al aA rs qs ws ad os):
 Calls Tryz.prog 179 #[.agg #[.slice an rs c0,.slice ar qs au,ag,af,sp,.slice ak ws c2,.slice al ad c3,.slice aA os c4],.agg #[(5:Int),mem,val,yes,no,bB]] w fun e ah=>∃cI e0 cC e1 bk d2 bo d3 cL e4,e= .returned (.tuple #[.agg #[.slice cI rs e0,.slice cC qs e1,ag,af,dw,.slice bk bX d2,.slice bo cc d3,.slice cL os e4],true])∧gi w ah cI e0 cC e1 bk d2 bo d3 cL e4 rs qs bX cc os∧Below w w ah:=by
 have bL:=J R;have bj:=J Z;have ei:=J aR;have fD:=J bS;have bD:=J az;have da:=J he;clear R Z aR bS az he
 go_in
 go_upto_region 1 with fail
 refine fv fun aH av aj aU ae=>?_
 have I:=av;have aF:=aj.aI;have a':=aU.df;have aq:=ae.aI;have gv:=ae.lt
 go_upto_region 2 with fail
 refine cR fun kI ao bW=>?_
 replace I:=ai I ao;have br:=bW.aS;clear aF;replace aj:=aj.to ao;have aF:=aj.aI;clear a';replace aU:=aU.to ao;have a':=aU.df;clear aq;replace ae:=ae.to ao;have aq:=ae.aI;have qN:=bW.lt
 go_wp2_with fail
 refine (WG ag af sp ak c2 ws al c3 ad bj.out.h2 bj.out.h3 bj.out.n2 bj.out.n3 bj.out.cm val dw bX cc bD.out da.out _ (bL.out.r2.U (ai I aw)) (bL.out.gG.U (ai I aw))).mono ?_
 exact Ll
theorem akQ (an ar ak al aA:Option Addr) (c0 au c2 c3 c4:Nat) (rs:List aM) (qs:List aN) (ag af sp:Int) (ws:List Int) (ad:List aK) (os:List Out) (Z:ed an ar ak al aA c0 au c2 c3 c4 rs qs ws ad os) (mem val yes no bB:Int) (dw:Int) (bX:List Int) (cc:List aK) (az:mh ⟨ag,af,sp,ws,ad⟩ =true) (he:mR ⟨ag,af,sp,ws,ad⟩ =⟨ag,af,dw,bX,cc⟩) (aR:dF rs qs= true) (bS:hk rs qs= true) (w:World) (R:dL w an ar ak al aA rs qs ws ad os):
 Calls Tryz.prog 179 #[.agg #[.slice an rs c0,.slice ar qs au,ag,af,sp,.slice ak ws c2,.slice al ad c3,.slice aA os c4],.agg #[(6:Int),mem,val,yes,no,bB]] w fun e ah=>∃cI e0 cC e1 bk d2 bo d3 cL e4,e= .returned (.tuple #[.agg #[.slice cI rs e0,.slice cC qs e1,ag,af,dw,.slice bk bX d2,.slice bo cc d3,.slice cL os e4],true])∧gi w ah cI e0 cC e1 bk d2 bo d3 cL e4 rs qs bX cc os∧Below w w ah:=by
 have bL:=J R;have bj:=J Z;have ei:=J aR;have fD:=J bS;have bD:=J az;have da:=J he;clear R Z aR bS az he
 go_in
 go_upto_region 1 with fail
 refine fv fun aH av aj aU ae=>?_
 have I:=av;have aF:=aj.aI;have a':=aU.df;have aq:=ae.aI;have gv:=ae.lt
 go_upto_region 2 with fail
 refine cR fun kI ao bW=>?_
 replace I:=ai I ao;have br:=bW.aS;clear aF;replace aj:=aj.to ao;have aF:=aj.aI;clear a';replace aU:=aU.to ao;have a':=aU.df;clear aq;replace ae:=ae.to ao;have aq:=ae.aI;have qN:=bW.lt
 go_wp2_with fail
 refine (WH ag af sp ak c2 ws al c3 ad bj.out.h2 bj.out.h3 bj.out.n2 bj.out.n3 bj.out.cm dw bX cc bD.out da.out _ (bL.out.r2.U (ai I aw)) (bL.out.gG.U (ai I aw))).mono ?_
 exact Ll
theorem Ln {p:Prop} (h:p:=by
 rintro e bA ⟨rfl,bC⟩
 have aL:=be kI bC;replace I:=ai I aL;clear aF;clear a';replace ae:=ae.to aL;clear aq;have aq:=ae.aI;replace bW:=bW.to aL;clear br;have br:=bW.aS;have sn:=bW.jh
 go_upto_region 11 with fail
 clear aq br
 refine gT 0 fun nj eU=>?_
 replace I:=eU.aG I;replace ae:=eU.dJ ae;have aq:=ae.aI;clear sn;have ez:=ae.jb
 go_wp2
 clear aq
 refine iE 0 fun cQ aD=>?_
 replace I:=aD.aG I;replace ae:=aD.ja ae;have aq:=ae.aI
 exact hc ⟨rfl,I⟩ (by simp [results,Tryz.results179,go_sem,aq])):p:=h
theorem akG (an ar ak al aA:Option Addr) (c0 au c2 c3 c4:Nat) (rs:List aM) (qs:List aN) (ag af sp:Int) (ws:List Int) (ad:List aK) (os:List Out) (Z:ed an ar ak al aA c0 au c2 c3 c4 rs qs ws ad os) (mem val yes no bB:Int) (az:nP ⟨ag,af,sp,ws,ad⟩ mem= false) (aR:dF rs qs= true) (w:World) (R:dL w an ar ak al aA rs qs ws ad os):
 Calls Tryz.prog 179 #[.agg #[.slice an rs c0,.slice ar qs au,ag,af,sp,.slice ak ws c2,.slice al ad c3,.slice aA os c4],.agg #[(3:Int),mem,val,yes,no,bB]] w fun e ah=>e= .returned (.tuple #[.agg #[.slice none 0 0,.slice none 0 0,(0:Int),(0:Int),(0:Int),.slice none 0 0,.slice none 0 0,.slice none 0 0],false])∧Below w w ah:=by
 have bL:=J R;have bj:=J Z;clear R Z aR;have bD:=J az;clear az
 go_in
 go_upto_region 1 with fail
 refine fv fun aH av aj aU ae=>?_
 have I:=av;have aF:=aj.aI;have a':=aU.df;have aq:=ae.aI;have gv:=ae.lt
 go_upto_region 2 with fail
 refine cR fun kI ao bW=>?_
 replace I:=ai I ao;have br:=bW.aS;clear aF;replace aj:=aj.to ao;have aF:=aj.aI;clear a';replace aU:=aU.to ao;have a':=aU.df;clear aq;replace ae:=ae.to ao;have aq:=ae.aI
 go_wp2_with fail
 refine (akr ag af sp ak c2 ws al c3 ad bj.out.h2 bj.out.h3 bj.out.n2 bj.out.n3 bj.out.cm mem bD.out _ (bL.out.r2.U (ai I aw)) (bL.out.gG.U (ai I aw))).mono ?_
 exact Ln
theorem Ru {p:Prop} (h:p:=by
 have e1:=congrArg eD.ag he;have e2:=congrArg eD.af he
 simp only [qw,rM,mR] at e1 e2
 first | exact⟨e1,e2⟩ | (unfold jw at e1 e2;split at e1 <;> rename_i aG <;> (first | rw [if_pos aG] at e2 | rw [if_neg aG] at e2) <;> exact⟨e1,e2⟩)):p:=h
theorem Lk {p:Prop} (h:p:=by
 rintro e bA ⟨bk,d2,bo,d3,rfl,dr,bC⟩
 have aL:=be kI bC;replace I:=ai I aL;replace aj:=aj.to aL;clear aF;have aF:=aj.aI;clear a';replace ae:=ae.to aL;clear aq;have aq:=ae.aI;replace bW:=bW.to aL;clear br;have br:=bW.aS;clear dr;have sn:=bW.jh
 go_upto_region 11 with fail
 clear aF aq br
 refine gT 0 fun nj eU=>?_
 replace I:=eU.aG I;replace aj:=eU.dJ aj;replace ae:=eU.dJ ae;have aF:=aj.aI;have aq:=ae.aI;clear sn
 go_wp2_with fail
 refine (CQ rs qs ag af sp ws ad os an ar ak al aA c0 au c2 c3 c4 bj.out.h0 bj.out.h1 bj.out.h2 bj.out.h3 bj.out.h4 ei.out false fD.out _ (bL.out.ft.U (ai I aw)) (bL.out.dz.U (ai I aw)) (bL.out.r2.U (ai I aw)) (bL.out.gG.U (ai I aw)) (bL.out.lF.U (ai I aw))).mono ?_
 rintro e cf ⟨rfl,cZ⟩
 have bV:=be nj cZ;replace I:=ai I bV;clear aF;replace ae:=ae.to bV;clear aq;have aq:=ae.aI;have ez:=ae.jb
 go_wp2
 clear aq
 refine iE 0 fun cQ aD=>?_
 replace I:=aD.aG I;replace ae:=aD.ja ae;have aq:=ae.aI
 exact hc ⟨rfl,I⟩ (by simp [results,Tryz.results179,go_sem,aq])):p:=h
theorem akF (an ar ak al aA:Option Addr) (c0 au c2 c3 c4:Nat) (rs:List aM) (qs:List aN) (ag af sp:Int) (ws:List Int) (ad:List aK) (os:List Out) (Z:ed an ar ak al aA c0 au c2 c3 c4 rs qs ws ad os) (mem val yes no bB:Int) (az:nP ⟨ag,af,sp,ws,ad⟩ mem= true) (bS:hk rs qs= false) (aR:dF rs qs= true) (w:World) (R:dL w an ar ak al aA rs qs ws ad os):
 Calls Tryz.prog 179 #[.agg #[.slice an rs c0,.slice ar qs au,ag,af,sp,.slice ak ws c2,.slice al ad c3,.slice aA os c4],.agg #[(3:Int),mem,val,yes,no,bB]] w fun e ah=>e= .returned (.tuple #[.agg #[.slice none 0 0,.slice none 0 0,(0:Int),(0:Int),(0:Int),.slice none 0 0,.slice none 0 0,.slice none 0 0],false])∧Below w w ah:=by
 have bL:=J R;have bj:=J Z;have ei:=J aR;clear R Z aR;have bD:=J az;clear az;have fD:=J bS;clear bS
 obtain⟨⟨fo,cj,dw,bX,cc⟩,he⟩ :∃f,qw ⟨ag,af,sp,ws,ad⟩ mem= f:=⟨_,rfl⟩
 obtain⟨rfl,rfl⟩ :ag= fo∧af= cj:=by
  exact Ru
 have da:=J he;clear he
 go_in
 go_upto_region 1 with fail
 refine fv fun aH av aj aU ae=>?_
 have I:=av;have aF:=aj.aI;have a':=aU.df;have aq:=ae.aI;have gv:=ae.lt
 go_upto_region 2 with fail
 refine cR fun kI ao bW=>?_
 replace I:=ai I ao;have br:=bW.aS;clear aF;replace aj:=aj.to ao;have aF:=aj.aI;clear a';replace aU:=aU.to ao;have a':=aU.df;clear aq;replace ae:=ae.to ao;have aq:=ae.aI
 go_wp2_with fail
 refine (WD ag af sp ak c2 ws al c3 ad bj.out.h2 bj.out.h3 bj.out.n2 bj.out.n3 bj.out.cm mem dw bX cc bD.out da.out _ (bL.out.r2.U (ai I aw)) (bL.out.gG.U (ai I aw))).mono ?_
 exact Lk
theorem akJ (an ar ak al aA:Option Addr) (c0 au c2 c3 c4:Nat) (rs:List aM) (qs:List aN) (ag af sp:Int) (ws:List Int) (ad:List aK) (os:List Out) (Z:ed an ar ak al aA c0 au c2 c3 c4 rs qs ws ad os) (mem val yes no bB:Int) (az:mK ⟨ag,af,sp,ws,ad⟩ =false) (aR:dF rs qs= true) (w:World) (R:dL w an ar ak al aA rs qs ws ad os):
 Calls Tryz.prog 179 #[.agg #[.slice an rs c0,.slice ar qs au,ag,af,sp,.slice ak ws c2,.slice al ad c3,.slice aA os c4],.agg #[(4:Int),mem,val,yes,no,bB]] w fun e ah=>e= .returned (.tuple #[.agg #[.slice none 0 0,.slice none 0 0,(0:Int),(0:Int),(0:Int),.slice none 0 0,.slice none 0 0,.slice none 0 0],false])∧Below w w ah:=by
 have bL:=J R;have bj:=J Z;clear R Z aR;have bD:=J az;clear az
 go_in
 go_upto_region 1 with fail
 refine fv fun aH av aj aU ae=>?_
 have I:=av;have aF:=aj.aI;have a':=aU.df;have aq:=ae.aI;have gv:=ae.lt
 go_upto_region 2 with fail
 refine cR fun kI ao bW=>?_
 replace I:=ai I ao;have br:=bW.aS;clear aF;replace aj:=aj.to ao;have aF:=aj.aI;clear a';replace aU:=aU.to ao;have a':=aU.df;clear aq;replace ae:=ae.to ao;have aq:=ae.aI
 go_wp2_with fail
 refine (alo ag af sp ak c2 ws al c3 ad bj.out.h2 bj.out.h3 bj.out.n2 bj.out.n3 bj.out.cm bD.out _ (bL.out.r2.U (ai I aw)) (bL.out.gG.U (ai I aw))).mono ?_
 exact Ln
theorem akI (an ar ak al aA:Option Addr) (c0 au c2 c3 c4:Nat) (rs:List aM) (qs:List aN) (ag af sp:Int) (ws:List Int) (ad:List aK) (os:List Out) (Z:ed an ar ak al aA c0 au c2 c3 c4 rs qs ws ad os) (mem val yes no bB:Int) (az:mK ⟨ag,af,sp,ws,ad⟩ =true) (bS:hk rs qs= false) (aR:dF rs qs= true) (w:World) (R:dL w an ar ak al aA rs qs ws ad os):
 Calls Tryz.prog 179 #[.agg #[.slice an rs c0,.slice ar qs au,ag,af,sp,.slice ak ws c2,.slice al ad c3,.slice aA os c4],.agg #[(4:Int),mem,val,yes,no,bB]] w fun e ah=>e= .returned (.tuple #[.agg #[.slice none 0 0,.slice none 0 0,(0:Int),(0:Int),(0:Int),.slice none 0 0,.slice none 0 0,.slice none 0 0],false])∧Below w w ah:=by
 have bL:=J R;have bj:=J Z;have ei:=J aR;clear R Z aR;have bD:=J az;clear az;have fD:=J bS;clear bS
 obtain⟨q,bf,_⟩:=PH (f:=⟨ag,af,sp,ws,ad⟩) (by have:=bD.out;simp only [mK,Bool.and_eq_true,decide_eq_true_eq] at this;exact this.2.2)
 have dc:=J bf;clear bf
 obtain⟨bX,he⟩ :∃bX,(rM ⟨ag,af,sp,ws,ad⟩ q)=⟨ag,af,q,bX,ad⟩:=⟨_,rfl⟩
 have da:=J he;clear he
 go_in
 go_upto_region 1 with fail
 refine fv fun aH av aj aU ae=>?_
 have I:=av;have aF:=aj.aI;have a':=aU.df;have aq:=ae.aI;have gv:=ae.lt
 go_upto_region 2 with fail
 refine cR fun kI ao bW=>?_
 replace I:=ai I ao;have br:=bW.aS;clear aF;replace aj:=aj.to ao;have aF:=aj.aI;clear a';replace aU:=aU.to ao;have a':=aU.df;clear aq;replace ae:=ae.to ao;have aq:=ae.aI
 go_wp2_with fail
 refine (WE ag af sp ak c2 ws al c3 ad bj.out.h2 bj.out.h3 bj.out.n2 bj.out.n3 bj.out.cm q dc.out q bX ad bD.out da.out _ (bL.out.r2.U (ai I aw)) (bL.out.gG.U (ai I aw))).mono ?_
 exact Lk
theorem akM (an ar ak al aA:Option Addr) (c0 au c2 c3 c4:Nat) (rs:List aM) (qs:List aN) (ag af sp:Int) (ws:List Int) (ad:List aK) (os:List Out) (Z:ed an ar ak al aA c0 au c2 c3 c4 rs qs ws ad os) (mem val yes no bB:Int) (az:oj ⟨ag,af,sp,ws,ad⟩ val= false) (aR:dF rs qs= true) (w:World) (R:dL w an ar ak al aA rs qs ws ad os):
 Calls Tryz.prog 179 #[.agg #[.slice an rs c0,.slice ar qs au,ag,af,sp,.slice ak ws c2,.slice al ad c3,.slice aA os c4],.agg #[(5:Int),mem,val,yes,no,bB]] w fun e ah=>e= .returned (.tuple #[.agg #[.slice none 0 0,.slice none 0 0,(0:Int),(0:Int),(0:Int),.slice none 0 0,.slice none 0 0,.slice none 0 0],false])∧Below w w ah:=by
 have bL:=J R;have bj:=J Z;clear R Z aR;have bD:=J az;clear az
 go_in
 go_upto_region 1 with fail
 refine fv fun aH av aj aU ae=>?_
 have I:=av;have aF:=aj.aI;have a':=aU.df;have aq:=ae.aI;have gv:=ae.lt
 go_upto_region 2 with fail
 refine cR fun kI ao bW=>?_
 replace I:=ai I ao;have br:=bW.aS;clear aF;replace aj:=aj.to ao;have aF:=aj.aI;clear a';replace aU:=aU.to ao;have a':=aU.df;clear aq;replace ae:=ae.to ao;have aq:=ae.aI
 go_wp2_with fail
 refine (alv ag af sp ak c2 ws al c3 ad bj.out.h2 bj.out.h3 bj.out.n2 bj.out.n3 bj.out.cm val bD.out _ (bL.out.r2.U (ai I aw)) (bL.out.gG.U (ai I aw))).mono ?_
 exact Ln
theorem akL (an ar ak al aA:Option Addr) (c0 au c2 c3 c4:Nat) (rs:List aM) (qs:List aN) (ag af sp:Int) (ws:List Int) (ad:List aK) (os:List Out) (Z:ed an ar ak al aA c0 au c2 c3 c4 rs qs ws ad os) (mem val yes no bB:Int) (az:oj ⟨ag,af,sp,ws,ad⟩ val= true) (bS:hk rs qs= false) (aR:dF rs qs= true) (w:World) (R:dL w an ar ak al aA rs qs ws ad os):
 Calls Tryz.prog 179 #[.agg #[.slice an rs c0,.slice ar qs au,ag,af,sp,.slice ak ws c2,.slice al ad c3,.slice aA os c4],.agg #[(5:Int),mem,val,yes,no,bB]] w fun e ah=>e= .returned (.tuple #[.agg #[.slice none 0 0,.slice none 0 0,(0:Int),(0:Int),(0:Int),.slice none 0 0,.slice none 0 0,.slice none 0 0],false])∧Below w w ah:=by
 have bL:=J R;have bj:=J Z;have ei:=J aR;clear R Z aR;have bD:=J az;clear az;have fD:=J bS;clear bS
 obtain⟨⟨fo,cj,dw,bX,cc⟩,he⟩ :∃f,jw ⟨ag,af,sp,ws,ad⟩ val= f:=⟨_,rfl⟩
 obtain⟨rfl,rfl⟩ :ag= fo∧af= cj:=by
  exact Ru
 have da:=J he;clear he
 go_in
 go_upto_region 1 with fail
 refine fv fun aH av aj aU ae=>?_
 have I:=av;have aF:=aj.aI;have a':=aU.df;have aq:=ae.aI;have gv:=ae.lt
 go_upto_region 2 with fail
 refine cR fun kI ao bW=>?_
 replace I:=ai I ao;have br:=bW.aS;clear aF;replace aj:=aj.to ao;have aF:=aj.aI;clear a';replace aU:=aU.to ao;have a':=aU.df;clear aq;replace ae:=ae.to ao;have aq:=ae.aI
 go_wp2_with fail
 refine (WG ag af sp ak c2 ws al c3 ad bj.out.h2 bj.out.h3 bj.out.n2 bj.out.n3 bj.out.cm val dw bX cc bD.out da.out _ (bL.out.r2.U (ai I aw)) (bL.out.gG.U (ai I aw))).mono ?_
 exact Lk
theorem akP (an ar ak al aA:Option Addr) (c0 au c2 c3 c4:Nat) (rs:List aM) (qs:List aN) (ag af sp:Int) (ws:List Int) (ad:List aK) (os:List Out) (Z:ed an ar ak al aA c0 au c2 c3 c4 rs qs ws ad os) (mem val yes no bB:Int) (az:mh ⟨ag,af,sp,ws,ad⟩ =false) (aR:dF rs qs= true) (w:World) (R:dL w an ar ak al aA rs qs ws ad os):
 Calls Tryz.prog 179 #[.agg #[.slice an rs c0,.slice ar qs au,ag,af,sp,.slice ak ws c2,.slice al ad c3,.slice aA os c4],.agg #[(6:Int),mem,val,yes,no,bB]] w fun e ah=>e= .returned (.tuple #[.agg #[.slice none 0 0,.slice none 0 0,(0:Int),(0:Int),(0:Int),.slice none 0 0,.slice none 0 0,.slice none 0 0],false])∧Below w w ah:=by
 have bL:=J R;have bj:=J Z;clear R Z aR;have bD:=J az;clear az
 go_in
 go_upto_region 1 with fail
 refine fv fun aH av aj aU ae=>?_
 have I:=av;have aF:=aj.aI;have a':=aU.df;have aq:=ae.aI;have gv:=ae.lt
 go_upto_region 2 with fail
 refine cR fun kI ao bW=>?_
 replace I:=ai I ao;have br:=bW.aS;clear aF;replace aj:=aj.to ao;have aF:=aj.aI;clear a';replace aU:=aU.to ao;have a':=aU.df;clear aq;replace ae:=ae.to ao;have aq:=ae.aI
 go_wp2_with fail
 refine (alC ag af sp ak c2 ws al c3 ad bj.out.h2 bj.out.h3 bj.out.n2 bj.out.n3 bj.out.cm bD.out _ (bL.out.r2.U (ai I aw)) (bL.out.gG.U (ai I aw))).mono ?_
 exact Ln
theorem akO (an ar ak al aA:Option Addr) (c0 au c2 c3 c4:Nat) (rs:List aM) (qs:List aN) (ag af sp:Int) (ws:List Int) (ad:List aK) (os:List Out) (Z:ed an ar ak al aA c0 au c2 c3 c4 rs qs ws ad os) (mem val yes no bB:Int) (az:mh ⟨ag,af,sp,ws,ad⟩ =true) (bS:hk rs qs= false) (aR:dF rs qs= true) (w:World) (R:dL w an ar ak al aA rs qs ws ad os):
 Calls Tryz.prog 179 #[.agg #[.slice an rs c0,.slice ar qs au,ag,af,sp,.slice ak ws c2,.slice al ad c3,.slice aA os c4],.agg #[(6:Int),mem,val,yes,no,bB]] w fun e ah=>e= .returned (.tuple #[.agg #[.slice none 0 0,.slice none 0 0,(0:Int),(0:Int),(0:Int),.slice none 0 0,.slice none 0 0,.slice none 0 0],false])∧Below w w ah:=by
 have bL:=J R;have bj:=J Z;have ei:=J aR;clear R Z aR;have bD:=J az;clear az;have fD:=J bS;clear bS
 obtain⟨⟨fo,cj,dw,bX,cc⟩,he⟩ :∃f,mR ⟨ag,af,sp,ws,ad⟩ =f:=⟨_,rfl⟩
 obtain⟨rfl,rfl⟩ :ag= fo∧af= cj:=by
  exact Ru
 have da:=J he;clear he
 go_in
 go_upto_region 1 with fail
 refine fv fun aH av aj aU ae=>?_
 have I:=av;have aF:=aj.aI;have a':=aU.df;have aq:=ae.aI;have gv:=ae.lt
 go_upto_region 2 with fail
 refine cR fun kI ao bW=>?_
 replace I:=ai I ao;have br:=bW.aS;clear aF;replace aj:=aj.to ao;have aF:=aj.aI;clear a';replace aU:=aU.to ao;have a':=aU.df;clear aq;replace ae:=ae.to ao;have aq:=ae.aI
 go_wp2_with fail
 refine (WH ag af sp ak c2 ws al c3 ad bj.out.h2 bj.out.h3 bj.out.n2 bj.out.n3 bj.out.cm dw bX cc bD.out da.out _ (bL.out.r2.U (ai I aw)) (bL.out.gG.U (ai I aw))).mono ?_
 exact Lk
open Go.RowKit Go.G9
theorem adp {p:Prop} (h:p:=by
 clear aR
 go_in
 go_wp2_with fail
 refine (oe an c0 rs h0 ar au qs h1 _ ei.out _ (aW.U aw) (aV.U aw)).mono ?_
 rintro e bg ⟨rfl,bE⟩
 have av:=be w bE;have I:Below w w bg:=av;replace aW:=aW.U av;replace aV:=aV.U av
 go_wp2
 go_ret2
 exact⟨some ⟨_,0,none⟩,0,rfl,aX.made _ (by have:=I.size;first | omega | (simp;omega)) _,(ai I aw)⟩):p:=h
theorem Zs (an:Option Addr) (c0:Nat) (rs:List aM) (h0:rs.length≤1048576) (ar:Option Addr) (au:Nat) (qs:List aN) (h1:qs.length≤1048576) (hU:qs.length≤au) (mem:Int) (w:World) (aW:aJ 7 aM.cells w an rs) (aV:aJ 3 aN.cells w ar qs):Calls Tryz.prog 233 #[.slice an rs c0,.slice ar qs au,mem] w fun e ah=>∃A c,e= .returned (.tuple #[.slice A (iV (ks rs qs mem)).length c,.bool (ks rs qs mem).isSome])∧aX w 115 3 aN.cells ah (.slice A (iV (ks rs qs mem)).length c) (iV (ks rs qs mem))∧Below w w ah:=by
 obtain⟨i0,hi,dk,dx,dC⟩:=info_parts sE
 cases aR:dF rs qs
 ·have ei:=J aR
  rw [aav aR]
  exact adp
 have ei:=J aR
 rw [aaw aR]
 clear aR
 go_in
 go_wp2_with fail
 refine (oe an c0 rs h0 ar au qs h1 _ ei.out _ (aW.U aw) (aV.U aw)).mono ?_
 rintro e bg ⟨rfl,bE⟩
 have av:=be w bE;have I:Below w w bg:=av;replace aW:=aW.U av;replace aV:=aV.U av;have tF:=I.size;have gh:=J aV;clear aW aV
 go_wp2
 go_loopw [8] (fun i wr=>∃k:Nat,k≤qs.length∧i= .int .i64 ((k:Int) - 1)∧oo qs mem qs.length= oo qs mem k∧Below bg bg wr) (fun i _=>(intOf i + 1).toNat)
 case atStart=>exact⟨qs.length,Nat.le_refl _,rfl,rfl,Below.refl _ _⟩
 case round=>
  obtain⟨k,ax,rfl,hw,aE⟩:=hrel
  have nB:=J hw;clear hw;have aad:=aE.size
  by_cases h0:0 < k
  ·exact ado
  ·obtain rfl:k= 0:=by omega
   have gp:Hid (oo qs mem qs.length= none):=J nB.out
   go_wp2
   go_ret2
   rw [gp.out]
   exact⟨some ⟨_,0,none⟩,0,rfl,aX.made _ (by omega) _,ai I (ai aE (ca _ _))⟩
theorem acv {p:Prop} (h:p:=by
 have xr:=fz.base (by omega:w.heap.size≤_)
 simp only [iV,Option.getD_some]
 exact xr):p:=h
theorem apC (an:Option Addr) (c0:Nat) (rs:List aM) (h0:rs.length≤1048576) (ar:Option Addr) (au:Nat) (qs:List aN) (h1:qs.length≤1048576) (aU:ar= none→qs= []∧au= 0) (hU:qs.length≤au) (w:World) (aW:aJ 7 aM.cells w an rs) (aV:aJ 3 aN.cells w ar qs):Calls Tryz.prog 234 #[.slice an rs c0,.slice ar qs au] w fun e ah=>∃A c,e= .returned (.tuple #[.slice A (iV (lB rs qs)).length c,.bool (lB rs qs).isSome])∧aX w 115 3 aN.cells ah (.slice A (iV (lB rs qs)).length c) (iV (lB rs qs))∧Below w w ah:=by
 obtain⟨i0,hi,dk,dx,dC⟩:=info_parts sE
 have tV:=J aU;clear aU
 cases aR:dF rs qs
 ·have ei:=J aR
  rw [TS aR]
  exact adp
 by_cases iz:qs.length= 0
 ·obtain rfl:=List.length_eq_zero_iff.1 iz
  rw [MJ aR (JX rfl)]
  have ei:=J aR;clear aR iz hU
  cases ar with
  | none=>
   obtain⟨_,rfl⟩:=tV.out rfl
   go_in
   go_wp2_with fail
   refine (oe an c0 rs h0 none 0 [] h1 _ ei.out _ (aW.U aw) (aV.U aw)).mono ?_
   rintro e bg ⟨rfl,bE⟩
   have av:=be w bE;have I:Below w w bg:=av;replace aW:=aW.U av;replace aV:=aV.U av
   go_wp2
   go_ret2
   exact⟨some ⟨_,0,none⟩,0,rfl,aX.made _ (by have:=I.size;omega) _,(ai I aw)⟩
  | some iZ=>
   obtain⟨ab,Mx,My⟩:=iZ
   go_in
   go_wp2_with fail
   refine (oe an c0 rs h0 (some ⟨ab,Mx,My⟩) au [] h1 _ ei.out _ (aW.U aw) (aV.U aw)).mono ?_
   rintro e bg ⟨rfl,bE⟩
   have av:=be w bE;have I:Below w w bg:=av;replace aW:=aW.U av;replace aV:=aV.U av;have tF:=I.size;have qt:=J (fun e u=>(aV.U (ca bg (.cells #[] e))):∀(e:TypeId) (u:Unit),aJ 3 aN.cells (bg.alloc (.cells #[] e)) (some ⟨ab,Mx,My⟩) ([]:List aN))
   go_wp2_with ((at_builtin;refine vu rfl _ _ 37 rfl bg.heap.size 115 i0 _ 3 24 Tryz.underlying37 hi dk dx dC rfl (by decide) aN.cells jE tz bg.heap.size rfl (aC.new _ _ _) (Nat.le_refl _) (some ⟨ab,Mx,My⟩) au ([]:List aN) 0 rfl rfl (qt.out _ ()) (fun h=>by cases h) (by simp [maxLen]) (by simp) ?_;intro br cO ng fz eZ))
   go_wp2
   go_ret2
   exact⟨some ⟨br,0,none⟩,cO,rfl,fz.base (by omega),ai I (ai (ca _ _) eZ)⟩
 obtain⟨j,bI⟩ :∃j,qs.length= j + 1:=⟨qs.length - 1,by omega⟩
 obtain⟨ey,gN,⟨qr,cp,dy⟩,uv,_,bf,_⟩:=aV.at_ (Below.refl _ _) (k:=j) (by omega)
 obtain⟨t,cA⟩:=oi aR bf
 have eI:=J bI;have dc:=J bf;have bP:=J cA;have ei:=J aR
 have ie:j≤1048576:=by omega
 have Oi:j + 1≤au:=by omega
 have Ic:=J uv;have da:=J (fun W h dv=>oe an c0 rs h0 ar au qs h1 _ aR W h dv)
 cases ax:kn t ⟨qr,cp,dy⟩
 case false=>
  have fT:=J ax
  rw [MJ aR ((xR bI bf cA).trans ax)]
  skip
  rw [bI] at da
  rw [show qs.length= j + 1 from bI]
  have ajh:j≤au:=by omega
  clear aR ax bf cA bI iz h1 uv hU
  go_in
  go_wp2_with fail
  refine (da.out _ (aW.U aw) (aV.U aw)).mono ?_
  rintro e bg ⟨rfl,bE⟩
  have av:=be w bE;have I:Below w w bg:=av;replace aW:=aW.U av;replace aV:=aV.U av
  obtain⟨_,_,y,e9,fR,hy,dh⟩:=aV.at_ (Below.refl _ _) (k:=j) (by have:=eI.out;omega)
  obtain rfl:(⟨qr,cp,dy⟩ :aN)= y:=Option.some.inj (dc.out.symm.trans hy)
  have e8:=Ic.out
  rw [e8] at e9
  cases e9
  subst e8
  clear hy;have cy:=dh 0 _ rfl;have dD:=dh 1 _ rfl;have di:=dh 2 _ rfl
  simp only [Nat.add_zero] at cy
  have g0:=cy (aB.self _);have g1:=dD (aB.self _);have g2:=di (aB.self _)
  simp only [aB.self] at g0
  simp only [aB.self] at g1
  simp only [aB.self] at g2
  clear dh cy dD di
  go_wp2_with fail
  refine (pK an c0 rs h0 ⟨qr,cp,dy⟩ t bP.out false fT.out _ (aW.U aw)).mono ?_
  rintro e aQ ⟨rfl,aP⟩
  have ao:=be bg aP;replace I:=ai I ao;replace aW:=aW.U ao;replace aV:=aV.U ao;have aU:=tV.out;have tF:=I.size;clear g0 g1 g2;have qt:=J (fun e u=>(aV.U (ca aQ (.cells #[] e))):∀(e:TypeId) (u:Unit),aJ 3 aN.cells (aQ.alloc (.cells #[] e)) (some ⟨ey,gN,none⟩) qs)
  go_wp2_with ((at_builtin;refine vu rfl _ _ 37 rfl aQ.heap.size 115 i0 _ 3 24 Tryz.underlying37 hi dk dx dC rfl (by decide) aN.cells jE tz aQ.heap.size rfl (aC.new _ _ _) (Nat.le_refl _) (some ⟨ey,gN,none⟩) au qs (j + 1) eI.out.symm rfl (qt.out _ ()) aU (by have:=eI.out.symm;unfold maxLen;omega) (by have:=eI.out.symm;omega) ?_;intro br cO ng fz eZ;clear aU))
  go_wp2
  go_ret2
  refine⟨some ⟨br,0,none⟩,cO,by simp only [iV,Option.getD_some,eI.out];rfl,?_,ai I (ai (ca _ _) eZ)⟩
  exact acv
 case true=>
  have fT:=J ax
  rw [TR aR ((xR bI bf cA).trans ax),show qs.length - 1= j by omega]
  have mT:=J (show (qs.take j).length= j by rw [List.length_take];omega)
  rw [bI] at da
  rw [show qs.length= j + 1 from bI]
  have ajh:j≤au:=by omega
  clear aR ax bf cA bI iz h1 uv hU
  go_in
  go_wp2_with fail
  refine (da.out _ (aW.U aw) (aV.U aw)).mono ?_
  rintro e bg ⟨rfl,bE⟩
  have av:=be w bE;have I:Below w w bg:=av;replace aW:=aW.U av;replace aV:=aV.U av
  obtain⟨_,_,y,e9,fR,hy,dh⟩:=aV.at_ (Below.refl _ _) (k:=j) (by have:=eI.out;omega)
  obtain rfl:(⟨qr,cp,dy⟩ :aN)= y:=Option.some.inj (dc.out.symm.trans hy)
  have e8:=Ic.out
  rw [e8] at e9
  cases e9
  subst e8
  clear hy;have cy:=dh 0 _ rfl;have dD:=dh 1 _ rfl;have di:=dh 2 _ rfl
  simp only [Nat.add_zero] at cy
  have g0:=cy (aB.self _);have g1:=dD (aB.self _);have g2:=di (aB.self _)
  simp only [aB.self] at g0
  simp only [aB.self] at g1
  simp only [aB.self] at g2
  clear dh cy dD di
  go_wp2_with fail
  refine (pK an c0 rs h0 ⟨qr,cp,dy⟩ t bP.out true fT.out _ (aW.U aw)).mono ?_
  rintro e aQ ⟨rfl,aP⟩
  have ao:=be bg aP;replace I:=ai I ao;replace aW:=aW.U ao;replace aV:=aV.U ao;have aU:=tV.out;have tF:=I.size;clear g0 g1 g2;have qt:=J (fun e u=>((Dr aV j).U (ca aQ (.cells #[] e))):∀(e:TypeId) (u:Unit),aJ 3 aN.cells (aQ.alloc (.cells #[] e)) (some ⟨ey,gN,none⟩) (qs.take j))
  go_wp2_with ((at_builtin;refine vu rfl _ _ 37 rfl aQ.heap.size 115 i0 _ 3 24 Tryz.underlying37 hi dk dx dC rfl (by decide) aN.cells jE tz aQ.heap.size rfl (aC.new _ _ _) (Nat.le_refl _) (some ⟨ey,gN,none⟩) au (qs.take j) j mT.out.symm rfl (qt.out _ ()) (fun h=>by cases h) (by have:=mT.out.symm;unfold maxLen;omega) (by have:=mT.out.symm;omega) ?_;intro br cO ng fz eZ;clear aU))
  go_wp2
  go_ret2
  refine⟨some ⟨br,0,none⟩,cO,by simp only [iV,Option.getD_some,mT.out];rfl,?_,ai I (ai (ca _ _) eZ)⟩
  exact acv
open Go.RowKit Go.G9
theorem adU {p:Prop} (h:p:=by
 have ze:Below w w cf:=(hl.alloc hl.size _).grown fs (by have:=hl.size;simp;omega) (fun q bf=>(yQ.lt q bf).1)
 go_roundw
 case rel=>exact⟨k + 1,by omega,by go_num,by rw [lV.out];exact eX,ze⟩
 case measure=>simp [intOf];omega):p:=h
theorem abw {p:Prop} (h:p:=by
 skip
 obtain rfl:k= rs.length:=by omega
 obtain⟨Y,gV,rfl,_,_,_⟩:=bR.form fZ
 go_wp2
 go_ret
 rw [cJ.out]
 exact⟨Y,gV,rfl,bR,aE⟩):p:=h
theorem abW {p:Prop} (h:p:=by
 go_wp2
 go_ret
 rw [cJ.out]
 obtain⟨Y,gV,az,_,_,_⟩:=bR.form fZ
 subst az
 exact⟨Y,gV,rfl,bR,aE⟩):p:=h
theorem Pt (an:Option Addr) (c0:Nat) (rs:List aM) (h0:rs.length≤1048576) (ar:Option Addr) (au:Nat) (qs:List aN) (h1:qs.length≤1048576) (aR:dF rs qs= true) (w:World) (aW:aJ 7 aM.cells w an rs) (aV:aJ 3 aN.cells w ar qs):
 Calls Tryz.prog 165 #[.slice an rs c0,.slice ar qs au] w fun e ah=>∃A c,e= .returned (.slice A (ht rs qs).length c)∧aX w 3 1 bU ah (.slice A (ht rs qs).length c) (ht rs qs)∧Below w w ah:=by
 obtain⟨i0,hi,dk,dx,dC⟩:=info_parts rI
 have eu:=J aW;have hL:aX w 3 1 bU (w.alloc (.cells #[] 3)) (.slice w.heap.size 0 0) ([]:List Int):=aX.made w (Nat.le_refl _) _;have nW:Below w w (w.alloc (.cells #[] 3)):=ca w _;have UW:=(nd aR).1
 by_cases iz:qs.length= 0
 ·have cJ:=J (XK aR iz)
  clear aW aV
  obtain rfl:=List.length_eq_zero_iff.1 iz
  clear iz
  go_in
  go_wp2
  go_loopw [5,7] (fun y i wr=>∃k:Nat,k≤rs.length∧i= .int .i64 k∧aX w 3 1 bU wr y (me (-1) rs k)∧Below w w wr) (fun _ i _=>rs.length - (intOf i).toNat)
  case atStart=>exact⟨0,Nat.zero_le _,rfl,hL,nW⟩
  case round=>
   clear hL nW
   obtain⟨k,ax,rfl,bR,aE⟩:=hrel
   by_cases bn:k < rs.length
   ·skip
    obtain⟨ey,gN,x,rfl,dU,ay,bq⟩:=eu.out.at_ aE bn
    have jl:=zu (zv UW ay)
    obtain⟨pW,vy,ha,xs,vw,jn,vx,QT⟩:=x
    have cy:=bq 0 _ rfl
    simp only [Nat.add_zero] at cy
    have cg:=J ay;clear ay bq
    have bz:(-1) < ha:=by dsimp only at jl;omega
    have cX:=Hg (rk:=(-1)) cg.out bz;have lV:=J cX;clear cX
    go_wp2
    refine eC (by kernel_rfl) (by kernel_rfl) ?_
    repeat (go_big_quiet_step (fail))
    refine wpQuiet_nil ?_
    intro K
    have g0:=cy K;have hl:=ai aE K.U;have yQ:=bR.bh K.U;clear cy bR
    generalize K.world= hF at *
    go_wp2_with ((at_builtin;refine kJ rfl _ _ 38 rfl w.heap.size 3 i0 _ 1 8 Tryz.underlying38 hi dk dx dC rfl (by decide) bU fZ pd _ (me (-1) rs k) rfl (yQ.alloc _) ⟨hF.heap.size,0,none⟩ 1 pW rfl (aJ.one _ _) (by have:=xS (-1) rs k;unfold maxLen;omega) (by have:=xS (-1) rs k;omega) (by have:=hl.size;simp;omega) ?_;intro v4 cf eX fs kC))
    exact adU
   ·exact abw
 ·obtain⟨j,bI⟩ :∃j,qs.length= j + 1:=⟨qs.length - 1,by omega⟩
  obtain⟨ds,hO,⟨qr,cp,dy⟩,rfl,bE,bf,nZ⟩:=aV.at_ (Below.refl _ _) (k:=j) (by omega)
  obtain⟨t,cA⟩:=oi aR bf
  have dc:=J bf;have bP:=J cA;have eI:=J bI;have ahR:=(nd aR).2.1;have Ir:Hid (aJ 3 aN.cells w (some ⟨ds,hO,none⟩) qs):=J aV;clear bf cA nZ aV
  rw [bI] at ahR ⊢
  clear bI iz h1
  by_cases h6:j + 1= 6
  ·obtain rfl:j= 5:=by omega
   have cJ:=J (Ka eI.out dc.out bP.out (Or.inr eI.out));clear aR
   go_in
   go_wp2
   go_loopw [5,7] (fun y i wr=>i= .int .i64 0∧aX w 3 1 bU wr y ([]:List Int)∧Below w w wr) (fun _ i _=>0)
   case atStart=>exact⟨rfl,hL,nW⟩
   case round=>
    clear hL nW
    obtain⟨rfl,bR,aE⟩:=hrel
    rcases Nat.eq_zero_or_pos rs.length with h9 | h9
    ·obtain rfl:=List.length_eq_zero_iff.1 h9
     clear h9
     exact abW
    ·exact abW
  ·have zb:((j:Int) + 1 == 0)= false:=beq_eq_false_iff_ne.2 (by omega)
   have We:decide ((j:Int) + 1 < 6)= true:=decide_eq_true (by omega)
   cases ax:kn t ⟨qr,cp,dy⟩
   case true=>
    have fT:=J ax;have cJ:=J (Ka eI.out dc.out bP.out (Or.inl ax));clear ax
    go_in
    go_wp2
    go_loopw [5,7] (fun y i wr=>∃k:Nat,k≤rs.length∧i= .int .i64 k∧aX w 3 1 bU wr y ([])∧Below w w wr) (fun _ i _=>rs.length - (intOf i).toNat)
    case atStart=>exact⟨0,Nat.zero_le _,rfl,hL,nW⟩
    case round=>
     clear hL nW
     obtain⟨k,ax,rfl,bR,aE⟩:=hrel
     by_cases bn:k < rs.length
     ·obtain⟨_,_,QW,e9,fR,GN,dh⟩:=Ir.out.at_ aE (k:=j) (by have:=eI.out;omega)
      cases e9
      obtain rfl:(⟨qr,cp,dy⟩ :aN)= QW:=Option.some.inj (dc.out.symm.trans GN)
      clear GN;have iB:=dh 0 _ rfl;have q1:=dh 1 _ rfl;have gn:=dh 2 _ rfl
      simp only [Nat.add_zero] at iB
      clear dh
      go_wp2
      refine eC (by kernel_rfl) (by kernel_rfl) ?_
      repeat (go_big_quiet_step (fail))
      go_big_quiet_step ((go_at_call 163;exact aB.call _ (by first | exact Nat.le_refl _ | omega) (pK an c0 rs h0 ⟨qr,cp,dy⟩ t bP.out true fT.out _ (eu.out.U (ai aE (aB.U _))))))
      repeat (go_big_quiet_step (fail))
      refine wpQuiet_nil ?_
      intro K
      have hl:=ai aE K.U;have yQ:=bR.bh K.U;clear iB q1 gn bR
      generalize K.world= hF at *
      go_wp2
      go_roundw
      case rel=>exact⟨k + 1,by omega,by go_num,yQ,hl⟩
      case measure=>simp [intOf];omega
     ·skip
      obtain⟨Y,gV,rfl,_,_,_⟩:=bR.form fZ
      go_wp2
      go_ret
      rw [cJ.out]
      exact⟨Y,gV,rfl,bR,aE⟩
   case false=>
    have fT:=J ax;have cJ:=J (XN eI.out dc.out bP.out ax (by have:=eI.out;omega));clear ax
    obtain⟨zz,ir,fj,gU,iq,il,zy,KT⟩:=t
    go_in
    go_wp2
    go_loopw [5,7] (fun y i wr=>∃k:Nat,k≤rs.length∧i= .int .i64 k∧aX w 3 1 bU wr y (me fj rs k)∧Below w w wr) (fun _ i _=>rs.length - (intOf i).toNat)
    case atStart=>exact⟨0,Nat.zero_le _,rfl,hL,nW⟩
    case round=>
     clear hL nW
     obtain⟨k,ax,rfl,bR,aE⟩:=hrel
     by_cases bn:k < rs.length
     ·skip
      obtain⟨ey,gN,x,hA0,dU,ay,bq⟩:=eu.out.at_ aE bn
      have jl:=zu (zv UW ay)
      obtain⟨pW,vy,ha,xs,vw,jn,vx,QT⟩:=x
      have cy:=bq 0 _ rfl;have di:=bq 2 _ rfl
      simp only [Nat.add_zero] at cy
      have cg:=J ay;clear ay bq
      subst hA0
      obtain⟨_,_,QW,e9,fR,GN,dh⟩:=Ir.out.at_ aE (k:=j) (by have:=eI.out;omega)
      cases e9
      obtain rfl:(⟨qr,cp,dy⟩ :aN)= QW:=Option.some.inj (dc.out.symm.trans GN)
      clear GN;have iB:=dh 0 _ rfl;have q1:=dh 1 _ rfl;have gn:=dh 2 _ rfl
      simp only [Nat.add_zero] at iB
      clear dh
      by_cases bz:fj < ha
      ·have cX:=Hg (rk:=fj) cg.out bz;have lV:=J cX;clear cX
       go_wp2
       refine eC (by kernel_rfl) (by kernel_rfl) ?_
       repeat (go_big_quiet_step (fail))
       go_big_quiet_step ((go_at_call 163;exact aB.call _ (by first | exact Nat.le_refl _ | omega) (pK (some ⟨ey,gN,none⟩) c0 rs h0 ⟨qr,cp,dy⟩ ⟨zz,ir,fj,gU,iq,il,zy,KT⟩ bP.out false fT.out _ (eu.out.U (ai aE (aB.U _))))))
       repeat (go_big_quiet_step (fail))
       go_big_quiet_step ((go_at_call 164;exact aB.call _ (by first | exact Nat.le_refl _ | omega) (CZ (some ⟨ey,gN,none⟩) c0 rs h0 ⟨qr,cp,dy⟩ ⟨zz,ir,fj,gU,iq,il,zy,KT⟩ bP.out _ (eu.out.U (ai aE (aB.U _))))))
       repeat (go_big_quiet_step (fail))
       refine wpQuiet_nil ?_
       intro K
       have g0:=cy K;have hl:=ai aE K.U;have yQ:=bR.bh K.U;clear cy di bR
       generalize K.world= hF at *
       clear iB q1 gn
       go_wp2_with ((at_builtin;refine kJ rfl _ _ 38 rfl w.heap.size 3 i0 _ 1 8 Tryz.underlying38 hi dk dx dC rfl (by decide) bU fZ pd _ (me (fj) rs k) rfl (yQ.alloc _) ⟨hF.heap.size,0,none⟩ 1 pW rfl (aJ.one _ _) (by have:=xS (fj) rs k;unfold maxLen;omega) (by have:=xS (fj) rs k;omega) (by have:=hl.size;simp;omega) ?_;intro v4 cf eX fs kC))
       exact adU
      ·have pb:decide (fj < ha)= false:=decide_eq_false bz
       have cX:=JZ (rk:=fj) cg.out bz;have lV:=J cX;clear cX
       go_wp2
       refine eC (by kernel_rfl) (by kernel_rfl) ?_
       repeat (go_big_quiet_step (fail))
       go_big_quiet_step ((go_at_call 163;exact aB.call _ (by first | exact Nat.le_refl _ | omega) (pK (some ⟨ey,gN,none⟩) c0 rs h0 ⟨qr,cp,dy⟩ ⟨zz,ir,fj,gU,iq,il,zy,KT⟩ bP.out false fT.out _ (eu.out.U (ai aE (aB.U _))))))
       repeat (go_big_quiet_step (fail))
       go_big_quiet_step ((go_at_call 164;exact aB.call _ (by first | exact Nat.le_refl _ | omega) (CZ (some ⟨ey,gN,none⟩) c0 rs h0 ⟨qr,cp,dy⟩ ⟨zz,ir,fj,gU,iq,il,zy,KT⟩ bP.out _ (eu.out.U (ai aE (aB.U _))))))
       repeat (go_big_quiet_step (fail))
       refine wpQuiet_nil ?_
       intro K
       have hl:=ai aE K.U;have yQ:=bR.bh K.U;clear cy di bR
       generalize K.world= hF at *
       clear iB q1 gn
       go_wp2
       go_roundw
       case rel=>exact⟨k + 1,by omega,by go_num,by rw [lV.out];exact yQ,hl⟩
       case measure=>simp [intOf];omega
     ·exact abw
end Go.Proofs.YtlaaemmmbodaaaaGreatDoor
