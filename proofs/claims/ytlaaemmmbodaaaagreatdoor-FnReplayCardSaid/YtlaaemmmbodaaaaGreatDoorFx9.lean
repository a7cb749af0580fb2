/- Parts. -/
import Derived.Deep.DeepCutAuto
import Derived.Test.YtlaaemmmbodaaaaGreatDoorFx8
set_option maxHeartbeats 16000000
set_option maxRecDepth 100000
set_option linter.all false
open Go Go.RowKit Go.Proofs.YtlaaemmmbodaaaaGreatDoor
variable {ws:List ByteArray} {k n b i B sz:Nat} {y z:Value} {rs:List aM} {id:Int} {ps:List UInt8} {l s:VU} {a:Addr} {m:di} {x:dE} {ah:World} {xs:List Int} {qs:List aZ} {e:TypeId} {u:Prop}
namespace Go.Proofs.YtlaaemmmbodaaaaGreatDoor
theorem Yl (h:u:=by simp [results,Tryz.results101,go_sem,af]):u:=h
theorem Ym (h:u:=by have:=aQ.size;simp;omega):u:=h
theorem Yy (h:u:=by have:=nJ.out;unfold maxLen;omega):u:=h
theorem Yz (h:u:=by have:=nJ.out;omega):u:=h
theorem UT (a b:VU):(a ++ b).data.toList= a.data.toList ++ b.data.toList:=Wn
def qV (ws:List ByteArray):Nat->ByteArray
 | 0=>(ws[0]?).getD ⟨#[]⟩
 | k + 1=>match ws[k + 1]? with | some y=>qV ws k ++ (⟨#[32]⟩ :ByteArray) ++ y | none=>qV ws k
def ny (ws:List ByteArray):ByteArray:=if ws.length= 0 then (⟨#[110,111,110,101]⟩ :ByteArray) else qV ws (ws.length - 1)
theorem agj {y:VU} (h:ws[k + 1]? =some y):qV ws (k + 1)= qV ws k ++ (⟨#[32]⟩ :VU) ++ y:=by rw [qV,h]
theorem agi (x:VU) (r:List ByteArray):∀k,k<=r.length->(qV (x ::r) k).data.toList= x.data.toList ++ Lib.joinTail ((⟨#[32]⟩ :VU):VU).data.toList ((r.map (·.data.toList)).take k)
 | 0,_=>by simp [qV,Lib.joinTail]
 | k + 1,ax=>by
  have eR:=agi x r k KK;have hy:r[k]? =some r[k]:=Xj KK
  rw [agj (y:=r[k]) (by simpa using hy),UT,UT,eR,Lib.joinTail_take_succ _ _ k (r[k]).data.toList (by simp [hy])]
  simp only [YX]
theorem awj (h:ws.length≠0):(⟨(Lib.join (ws.map (·.data.toList)) ((⟨#[32]⟩ :VU):VU).data.toList).toArray⟩ :VU)= ny ws:=by
 cases ws with
 | nil=>simp at h
 | cons x r=>
  have e:=agi x r r.length (XZ _)
  rw [ny,XU h,YK,Nat.add_sub_cancel,List.map_cons,Lib.join_cons]
  have e2:((r.map (·.data.toList)).take r.length)= r.map (·.data.toList):=YO Wn
  rw [e2] at e
  rw [<- e]
theorem XJ (h:∀x ∈ ws,x.size<=n):∀k,(qV ws k).size<=(k + 1) * (n + 1)
 | 0=>by
  cases ws with
  | nil=>exact Xd _
  | cons x r=>have:=h x Wn;simp [qV];omega
 | k + 1=>by
  have eR:=XJ h k
  have e:(k + 1 + 1) * (n + 1)= (k + 1) * (n + 1) + (n + 1):=by rw [Nat.succ_mul]
  unfold qV
  split
  .rename_i y hy
   have:=h y (YE hy);have e1:((⟨#[32]⟩ :VU):VU).size= 1:=rfl
   simp only [YU];omega
  .omega
def mm (rs:List aM) (id:Int):ByteArray:=match jb rs id with | some r=>r.name | none=>⟨#[]⟩
def nE (rs:List aM) (q:aZ):ByteArray:=mm rs q.rule
theorem ahr {r:aM} (h:jb rs id= some r):mm rs id= r.name:=by rw [mm,h]
def sb (xs:List Int):ByteArray:=ny (xs.map eW)
def Oo (nm:ByteArray) (z:aM):Bool:=z.name.toList == nm.toList
def yS (rs:List aM) (nm:ByteArray):Option aM:=rs.find? (Oo nm)
def vR (rs:List aM) (p:UInt8) (w:ByteArray):Option Int:=if p= 110 then (if gf w then some (jh w.data.toList) else none) else (yS rs w).map (λr=>r.id)
def qp (rs:List aM) (ps:List UInt8) (ws:List ByteArray):Nat->Option (List Int)
 | 0=>some []
 | k + 1=>match qp rs ps ws k,ps[k]?,ws[k]? with | some l,some p,some w=>(vR rs p w).map (λn=>l ++ [n]) | _,_,_=>none
def nF (rs:List aM) (pt:ByteArray) (ws:List ByteArray):Option (List Int):=if ws.length= pt.size then qp rs pt.data.toList ws ws.length else none
theorem Bt {l:List Int} {p:UInt8} {w:VU} (h:qp rs ps ws k= some l) (aS:ps[k]? =some p) (hw:ws[k]? =some w):qp rs ps ws (k + 1)= (vR rs p w).map (λn=>l ++ [n]):=by rw [qp,h,aS,hw]
theorem OE (h:qp rs ps ws k= none):∀j,qp rs ps ws (k + j)= none
 | 0=>h
 | j + 1=>by rw [<- Nat.add_assoc,qp,OE h j]
theorem aFz:∀{k:Nat} {l:List Int},qp rs ps ws k= some l->l.length= k
 | 0,l,h=>by cases h;rfl
 | k + 1,l,h=>by
  rw [qp] at h
  split at h
  .rename_i gC p w h0 _ _
   cases bu:vR rs p w with
   | none=>rw [bu] at h;cases h
   | some n=>rw [bu] at h;cases h;simp [aFz h0]
  .cases h
def fA (w:ByteArray):Nat:=if w= (⟨#[110,101,120,116]⟩ :ByteArray) then 0 else if w= (⟨#[121,105,101,108,100]⟩ :ByteArray) then 1 else if w= (⟨#[100,114,111,112]⟩ :ByteArray) then 2 else if w= (⟨#[112,101,110,100,105,110,103]⟩ :ByteArray) then 3 else if w= (⟨#[109,97,121]⟩ :ByteArray) then 4 else if w= (⟨#[111,114,100,101,114]⟩ :ByteArray) then 5 else if w= (⟨#[97,100,111,112,116,101,100]⟩ :ByteArray) then 6 else if w= (⟨#[115,101,99,111,110,100]⟩ :ByteArray) then 7 else if w= (⟨#[97,115,107]⟩ :ByteArray) then 8 else if w= (⟨#[115,112,101,97,107]⟩ :ByteArray) then 9 else if w= (⟨#[119,105,116,104,100,114,97,119]⟩ :ByteArray) then 10 else if w= (⟨#[108,101,102,116]⟩ :ByteArray) then 11 else if w= (⟨#[109,111,118,101,100]⟩ :ByteArray) then 12 else if w= (⟨#[109,111,118,101]⟩ :ByteArray) then 13 else if w= (⟨#[118,111,116,101]⟩ :ByteArray) then 14 else 15
structure Fy (w:ByteArray) (i:Nat):Prop where
 f0:(w.toList == [110,101,120,116])= (i == 0)
 f1:(w.toList == [121,105,101,108,100])= (i == 1)
 f2:(w.toList == [100,114,111,112])= (i == 2)
 f3:(w.toList == [112,101,110,100,105,110,103])= (i == 3)
 f4:(w.toList == [109,97,121])= (i == 4)
 f5:(w.toList == [111,114,100,101,114])= (i == 5)
 f6:(w.toList == [97,100,111,112,116,101,100])= (i == 6)
 f7:(w.toList == [115,101,99,111,110,100])= (i == 7)
 f8:(w.toList == [97,115,107])= (i == 8)
 f9:(w.toList == [115,112,101,97,107])= (i == 9)
 f10:(w.toList == [119,105,116,104,100,114,97,119])= (i == 10)
 f11:(w.toList == [108,101,102,116])= (i == 11)
 f12:(w.toList == [109,111,118,101,100])= (i == 12)
 f13:(w.toList == [109,111,118,101])= (i == 13)
 f14:(w.toList == [118,111,116,101])= (i == 14)
theorem agd {p:Prop} [Decidable p] {a:Nat} (de:a<=n) (aB:b<=n):(if p then a else b)<=n:=by split <;> assumption
theorem Mm (w:VU):fA w<=15:=by
 unfold fA
 repeat (first | exact agd WG WG | refine agd WG ?_)
theorem tS (w:VU) (l:List UInt8):(w.toList == l)= decide (w=⟨l.toArray⟩):=by
 rw [ByteArray.toList_eq]
 by_cases h:w=⟨l.toArray⟩
 .subst h;simp
 .rw [Xe h,Xb]
  intro e
  exact h (Ee (by rw [e]))
theorem vd (h:u:=by
 refine⟨?_,?_,?_,?_,?_,?_,?_,?_,?_,?_,?_,?_,?_,?_,?_⟩ <;> rw [tS] <;> decide +kernel):u:=h
theorem IZ (w:VU):Fy w (fA w):=by
 unfold fA
 by_cases h0:w= (⟨#[110,101,120,116]⟩ :VU)
 .subst h0
  exact vd
 rw [XU h0]
 by_cases h1:w= (⟨#[121,105,101,108,100]⟩ :VU)
 .subst h1
  exact vd
 rw [XU h1]
 by_cases h2:w= (⟨#[100,114,111,112]⟩ :VU)
 .subst h2
  exact vd
 rw [XU h2]
 by_cases h3:w= (⟨#[112,101,110,100,105,110,103]⟩ :VU)
 .subst h3
  exact vd
 rw [XU h3]
 by_cases h4:w= (⟨#[109,97,121]⟩ :VU)
 .subst h4
  exact vd
 rw [XU h4]
 by_cases h5:w= (⟨#[111,114,100,101,114]⟩ :VU)
 .subst h5
  exact vd
 rw [XU h5]
 by_cases h6:w= (⟨#[97,100,111,112,116,101,100]⟩ :VU)
 .subst h6
  exact vd
 rw [XU h6]
 by_cases h7:w= (⟨#[115,101,99,111,110,100]⟩ :VU)
 .subst h7
  exact vd
 rw [XU h7]
 by_cases h8:w= (⟨#[97,115,107]⟩ :VU)
 .subst h8
  exact vd
 rw [XU h8]
 by_cases h9:w= (⟨#[115,112,101,97,107]⟩ :VU)
 .subst h9
  exact vd
 rw [XU h9]
 by_cases h10:w= (⟨#[119,105,116,104,100,114,97,119]⟩ :VU)
 .subst h10
  exact vd
 rw [XU h10]
 by_cases h11:w= (⟨#[108,101,102,116]⟩ :VU)
 .subst h11
  exact vd
 rw [XU h11]
 by_cases h12:w= (⟨#[109,111,118,101,100]⟩ :VU)
 .subst h12
  exact vd
 rw [XU h12]
 by_cases h13:w= (⟨#[109,111,118,101]⟩ :VU)
 .subst h13
  exact vd
 rw [XU h13]
 by_cases h14:w= (⟨#[118,111,116,101]⟩ :VU)
 .subst h14
  exact vd
 rw [XU h14]
 exact⟨by rw [tS,Xe h0];rfl,by rw [tS,Xe h1];rfl,by rw [tS,Xe h2];rfl,by rw [tS,Xe h3];rfl,by rw [tS,Xe h4];rfl,by rw [tS,Xe h5];rfl,by rw [tS,Xe h6];rfl,by rw [tS,Xe h7];rfl,by rw [tS,Xe h8];rfl,by rw [tS,Xe h9];rfl,by rw [tS,Xe h10];rfl,by rw [tS,Xe h11];rfl,by rw [tS,Xe h12];rfl,by rw [tS,Xe h13];rfl,by rw [tS,Xe h14];rfl⟩
theorem RW (h:i<=15):i= 0\/i= 1\/i= 2\/i= 3\/i= 4\/i= 5\/i= 6\/i= 7\/i= 8\/i= 9\/i= 10\/i= 11\/i= 12\/i= 13\/i= 14\/i= 15:=KK
def oR:Nat->Option ByteArray
 | 0 | 1 | 2 | 3 | 4 | 5 | 6=>some ⟨#[]⟩
 | 7 | 8 | 9 | 10 | 11 | 12=>some (⟨#[110]⟩ :ByteArray)
 | 13=>some (⟨#[114,110]⟩ :ByteArray)
 | 14=>some (⟨#[110,110,110]⟩ :ByteArray)
 | _=>none
def wv:Nat->List Int->Option pJ
 | 0,_=>some ⟨4,0,0,0,0,0⟩
 | 1,_=>some ⟨6,0,0,0,0,0⟩
 | 2,_=>some ⟨9,0,0,0,0,0⟩
 | 7,[n]=>some ⟨2,n,0,0,0,0⟩
 | 8,[n]=>some ⟨3,n,0,0,0,0⟩
 | 9,[n]=>some ⟨5,0,n,0,0,0⟩
 | 10,[n]=>some ⟨8,n,0,0,0,0⟩
 | 13,[v,n]=>some ⟨1,n,v,0,0,0⟩
 | 14,[a,b,c]=>some ⟨7,0,0,a,b,c⟩
 | _,_=>none
def axa (m:di) (n:Int):Int:=m.dp - (fr m.cC n).dp
def mh (m:di):Nat->List Int->Option ByteArray
 | 3,_=>some (ny (m.ch.map (nE m.bT)))
 | 4,_=>some (ny ((gD m.bT m.ch).map (mm m.bT)))
 | 5,_=>some (sb (mU m.hF))
 | 6,_=>some (sb (mr m.bQ m.bQ.length))
 | 11,[n]=>if fy n then some (eW (axa m n)) else none
 | 12,[n]=>if fy n then some (sb [(jy m.bQ n m.bQ.length).1,(jy m.bQ n m.bQ.length).2]) else none
 | _,_=>none
def Ob (m:di):Bool:=match m.bQ[m.bQ.length - 1]? with | some o=>o.jv | none=>false
def tb (n:di) (kind:Int):ByteArray:=if kind= 4 then eW n.dF else if kind= 7 then (if Ob n then (⟨#[97,100,111,112,116,101,100]⟩ :ByteArray) else (⟨#[108,111,115,116]⟩ :ByteArray)) else (⟨#[111,107]⟩ :ByteArray)
def qj (m:di):List ByteArray->Option (di×ByteArray)
 | []=>none
 | w ::r=>match oR (fA w) with
  | none=>none
  | some p=>match nF m.bT p r with
   | none=>none
   | some l=>match wv (fA w) l with
    | some a=>(hY m a).map (λn=>(n,tb n a.kind))
    | none=>(mh m (fA w) l).map (λs=>(m,s))
def lI (m:di) (ws:List ByteArray):di×ByteArray:=(qj m ws).getD (m,(⟨#[63]⟩ :ByteArray))
def qX (m:di) (a:pJ) (s:ByteArray):di×ByteArray:=match hY m a with | some n=>(n,s) | none=>(m,(⟨#[63]⟩ :ByteArray))
def wx (m:di) (a:pJ):di×ByteArray:=match hY m a with | some n=>(n,tb n a.kind) | none=>(m,(⟨#[63]⟩ :ByteArray))
theorem aqL {n:di} (h:hL m) (he:qj m ws= some (n,s)):hL n:=by
 cases ws with
 | nil=>cases he
 | cons w r=>
  rw [qj] at he
  cases h1:oR (fA w) with
  | none=>rw [h1] at he;cases he
  | some p=>
   rw [h1] at he
   dsimp only at he
   cases h2:nF m.bT p r with
   | none=>rw [h2] at he;cases he
   | some l=>
    rw [h2] at he
    dsimp only at he
    cases h3:wv (fA w) l with
    | some a=>
     rw [h3] at he
     dsimp only at he
     cases hm:hY m a with
     | none=>rw [hm] at he;cases he
     | some k=>rw [hm] at he;cases he;exact Oh h hm
    | none=>
     rw [h3] at he
     dsimp only at he
     cases bt:mh m (fA w) l with
     | none=>rw [bt] at he;cases he
     | some k=>rw [bt] at he;cases he;exact h
theorem ado (h:hL m):hL (lI m ws).1:=by
 unfold lI
 cases he:qj m ws with
 | none=>exact h
 | some q=>obtain⟨n,s⟩:=q;exact aqL h he
theorem aqJ {w:VU} {r:List ByteArray} (h:oR (fA w)= none):lI m (w ::r)= (m,(⟨#[63]⟩ :VU)):=by simp [lI,qj,h]
theorem aqH {w p:VU} {r:List ByteArray} (h:oR (fA w)= some p) (aT:r.length≠p.size):lI m (w ::r)= (m,(⟨#[63]⟩ :VU)):=by simp [lI,qj,h,nF,aT]
theorem QC {w p:VU} {r:List ByteArray} (h:oR (fA w)= some p) (aT:nF m.bT p r= none):lI m (w ::r)= (m,(⟨#[63]⟩ :VU)):=by simp [lI,qj,h,aT]
theorem Jb {w p:VU} {r:List ByteArray} {l:List Int} {a:pJ} (h:oR (fA w)= some p) (aT:nF m.bT p r= some l) (de:wv (fA w) l= some a):lI m (w ::r)= wx m a:=by
 simp only [lI,qj,h,aT,de,wx]
 cases hY m a <;> rfl
theorem adn {w p:VU} {r:List ByteArray} {l:List Int} {s:Option ByteArray} (h:oR (fA w)= some p) (aT:nF m.bT p r= some l) (de:wv (fA w) l= none) (aP:mh m (fA w) l= s):lI m (w ::r)= (m,s.getD (⟨#[63]⟩ :VU)):=by
 simp only [lI,qj,h,aT,de,aP]
 cases s <;> rfl
theorem SC (rs:List aM):nF rs ⟨#[]⟩ []= some []:=rfl
theorem OH (rs:List aM) (x:VU):vR rs 110 x= if gf x then some (jh x.data.toList) else none:=by rw [vR,XX rfl]
theorem ayv (rs:List aM) (x:VU):vR rs 114 x= (yS rs x).map (λr=>r.id):=by rw [vR,XU WG]
theorem ayp (rs:List aM) (x:VU):nF rs (⟨#[110]⟩ :VU) [x]= if gf x then some [jh x.data.toList] else none:=by
 rw [nF,XX (show [x].length= ((⟨#[110]⟩ :VU):VU).size from rfl)]
 show qp rs [110] [x] 1= _
 rw [Bt (l:=[]) (p:=110) (w:=x) rfl rfl rfl,OH]
 cases gf x <;> rfl
theorem ayr (rs:List aM) (x y:VU):nF rs (⟨#[114,110]⟩ :VU) [x,y]= match yS rs x with | some r=>(if gf y then some [r.id,jh y.data.toList] else none) | none=>none:=by
 rw [nF,XX (show [x,y].length= ((⟨#[114,110]⟩ :VU):VU).size from rfl)]
 show qp rs [114,110] [x,y] 2= _
 have e1:qp rs [114,110] [x,y] 1= (vR rs 114 x).map (λn=>[] ++ [n]):=Bt rfl rfl rfl
 rw [ayv] at e1
 cases hf:yS rs x with
 | none=>rw [hf] at e1;exact OE e1 1
 | some r=>
  rw [hf] at e1
  rw [Bt (k:=1) (l:=[r.id]) (p:=110) (w:=y) e1 rfl rfl,OH]
  cases gf y <;> rfl
theorem ayq (rs:List aM) (x y z:VU):nF rs (⟨#[110,110,110]⟩ :VU) [x,y,z]= if gf x && (gf y && gf z) then some [jh x.data.toList,jh y.data.toList,jh z.data.toList] else none:=by
 rw [nF,XX (show [x,y,z].length= ((⟨#[110,110,110]⟩ :VU):VU).size from rfl)]
 show qp rs [110,110,110] [x,y,z] 3= _
 have e1:qp rs [110,110,110] [x,y,z] 1= (vR rs 110 x).map (λn=>[] ++ [n]):=Bt rfl rfl rfl
 rw [OH] at e1
 cases av:gf x
 .rw [av] at e1;exact OE e1 2
 rw [av] at e1
 have e2:qp rs [110,110,110] [x,y,z] 2= (vR rs 110 y).map (λn=>[jh x.data.toList] ++ [n]):=Bt e1 rfl rfl
 rw [OH] at e2
 cases hy:gf y
 .rw [hy] at e2;exact OE e2 1
 rw [hy] at e2
 rw [Bt (k:=2) (l:=[jh x.data.toList,jh y.data.toList]) (p:=110) (w:=z) e2 rfl rfl,OH]
 cases gf z <;> rfl
def qb (s:ByteArray):ByteArray:=if 200 < s.size then (⟨#[108,111,110,103]⟩ :ByteArray) else s
def rE (m:di) (l:ByteArray):di×ByteArray:=lI m (hj 32 l)
def wF (x:dE) (l:ByteArray):dE:=(rE x.nA l).1.Qq (eK x.log ⟨l,qb (rE x.nA l).2⟩).bY (eK x.log ⟨l,qb (rE x.nA l).2⟩).bW (eK x.log ⟨l,qb (rE x.nA l).2⟩).bM
def lX (x:dE) (l:ByteArray):dE:=if gJ x && (mF l ⟨#[]⟩ && !(x.bM == 60)) then wF x l else x
def qD (x:dE) (l:ByteArray):ByteArray:=if gJ x then (if mF l ⟨#[]⟩ then (if x.bM == 60 then (⟨#[102,117,108,108]⟩ :ByteArray) else qb (rE x.nA l).2) else (⟨#[98,97,100]⟩ :ByteArray)) else (⟨#[110,111]⟩ :ByteArray)
theorem Qr (x:dE) (l:VU):(wF x l).log= eK x.log ⟨l,qb (rE x.nA l).2⟩:=rfl
theorem Gl (h:gJ x= true):hL x.nA:=by
 unfold gJ at h;rw [Xa] at h;exact JW.1 h.1
theorem Co (h:gJ x= true):x.log.ok= true:=by
 unfold gJ at h;rw [Xa] at h;exact h.2
theorem JU {x:ft} (h:x.ok= true):x.bY.size + x.bW.size<=30000/\0<=x.bM/\x.bM<=60:=by
 obtain⟨h0,h1,h2⟩:=Oa h
 unfold ft.d ft.p at h2
 rw [YV,YV] at h2
 exact⟨h2,h0,h1⟩
theorem ahF (a b:VU):lk (a ++ b)= (lk a && lk b):=by unfold lk;rw [UT,List.all_append]
theorem amh (h:u:=by
 simp only [qY,h2,Xa,Xf,Bool.not_false,and_true]
 omega):u:=h
theorem aHN (n:Int):lk (eW n)= true:=by
 unfold lk eW
 show (Lib.itoa n).all qY= true
 have cr:∀u,(Lib.decDigits u).all qY= true:=λu=>by
  rw [YN]
  intro c aN
  have h1:=(Gn u).2.1 c aN
  simp only [pf,Xa,Xf] at h1
  have h2:(c == 35)= false:=by
   rw [Xb]
   rintro rfl
   have:=h1.1
   revert this;decide
  exact amh
 unfold Lib.itoa
 split
 .rw [List.all_cons,cr];rfl
 .exact cr _
theorem axY (h:vZ s= true):lk s= true:=by
 unfold vZ at h
 rw [Xa] at h
 have h1:=h.1
 unfold xZ at h1
 rw [YN] at h1
 unfold lk
 rw [YN]
 intro c aN
 have h3:=h1 c aN
 simp only [Xa,Xf] at h3
 have h2:(c == 35)= false:=by
  rw [Xb]
  rintro rfl
  have:=h3.1
  revert this;decide
 exact amh
theorem ahG (h:∀x ∈ ws,lk x= true):∀k,lk (qV ws k)= true
 | 0=>by
  unfold qV
  cases hw:ws[0]? with
  | none=>rfl
  | some x=>exact h x (YE hw)
 | k + 1=>by
  have eR:=ahG h k
  unfold qV
  split
  .rename_i y hy
   rw [ahF,ahF,eR,h y (YE hy)];rfl
  .exact eR
theorem aHL (h:∀x ∈ ws,lk x= true):lk (ny ws)= true:=by
 unfold ny
 split
 .rfl
 .exact ahG h _
theorem aHM (xs:List Int):lk (sb xs)= true:=aHL λx av=>by
 obtain⟨n,_,rfl⟩:=YP.1 av
 exact aHN n
theorem ahq (h:jR rs= true) (id:Int):lk (mm rs id)= true:=by
 unfold mm
 cases hf:jb rs id with
 | none=>rfl
 | some r=>
  obtain⟨k,ax⟩:=YY.1 (List.mem_of_find?_eq_some hf)
  exact axY (yd (ye h ax)).2.2.2.2.2.2
theorem apy (h:hL m) {l:List Int} (aP:mh m i l= some s):lk s= true:=by
 have bu:=(mS h.jn).1
 unfold mh at aP
 split at aP
 .cases aP;exact aHL λx av=>by obtain⟨q,_,rfl⟩:=YP.1 av;exact ahq bu _
 .cases aP;exact aHL λx av=>by obtain⟨q,_,rfl⟩:=YP.1 av;exact ahq bu _
 .cases aP;exact aHM _
 .cases aP;exact aHM _
 .split at aP
  .cases aP;exact aHN _
  .cases aP
 .split at aP
  .cases aP;exact aHM _
  .cases aP
 .cases aP
theorem ayK (n:di) (k:Int):lk (tb n k)= true:=by
 unfold tb
 split
 .exact aHN _
 split
 .split <;> rfl
 .rfl
theorem aqI (h:hL m) (ws:List ByteArray):lk (lI m ws).2= true:=by
 unfold lI
 cases he:qj m ws with
 | none=>rfl
 | some q=>
  obtain⟨n,s⟩:=q
  show lk s= true
  cases ws with
  | nil=>cases he
  | cons w r=>
   rw [qj] at he
   cases h1:oR (fA w) with
   | none=>rw [h1] at he;cases he
   | some p=>
    rw [h1] at he
    dsimp only at he
    cases h2:nF m.bT p r with
    | none=>rw [h2] at he;cases he
    | some l=>
     rw [h2] at he
     dsimp only at he
     cases h3:wv (fA w) l with
     | some a=>
      rw [h3] at he
      dsimp only at he
      cases hm:hY m a with
      | none=>rw [hm] at he;cases he
      | some k=>rw [hm] at he;cases he;exact ayK _ _
     | none=>
      rw [h3] at he
      dsimp only at he
      cases bt:mh m (fA w) l with
      | none=>rw [bt] at he;cases he
      | some k=>rw [bt] at he;cases he;exact apy h bt
theorem azb (h:lk s= true):lk (qb s)= true/\(qb s).size<=200:=by
 unfold qb
 split
 .exact⟨rfl,by decide⟩
 .exact⟨h,by omega⟩
theorem ayJ {r:VU} (h:mF l ⟨#[]⟩ =true) (aS:lk r= true) (aP:r.size<=200):mF l r= true:=by
 unfold mF at h ⊢
 simp only [Xa,Xf] at h ⊢
 exact⟨h.1,aP,h.2.2.1,aS,h.2.2.2.2⟩
theorem aih {r:VU} (h:mF l r= true):1<=l.size/\l.size<=160:=by
 unfold mF at h
 simp only [Xa,Xf,qT] at h
 omega
theorem UY (h:gJ x= true) (bu:mF l ⟨#[]⟩ =true) (aN:(x.bM == 60)= false):Cl x.log ⟨l,qb (rE x.nA l).2⟩ =0:=by
 obtain⟨dJ,dt⟩:=azb (aqI (Gl h) (hj 32 l))
 have h1:mc (fi.c ⟨l,qb (rE x.nA l).2⟩) (fi.r ⟨l,qb (rE x.nA l).2⟩)= true:=by
  unfold mc
  rw [Ql,Qm]
  exact ayJ bu dJ dt
 have h2:jJ x.log.d x.log.p x.log.bM= true:=Co h;have h3:(x.log.bM == 60)= false:=aN
 unfold Cl wz rS
 rw [h2,h1,h3];rfl
theorem UZ (h:gJ x= true) (bu:mF l ⟨#[]⟩ =true) (aN:(x.bM == 60)= false):gJ (wF x l)= true:=by
 have h1:=(Qh (UY h bu aN)).2.1;have h2:hL (wF x l).nA:=ado (Gl h)
 unfold gJ
 rw [JW.2 h2,Qr,h1];rfl
theorem Gk (h:gJ x= true):gJ (lX x l)= true:=by
 unfold lX
 split
 .rename_i aN
  simp only [Xa,YJ] at aN
  exact UZ h aN.2.1 aN.2.2
 .exact h
structure anV (x:dE):Prop where
 gC:x.bT.length<=1048576
 gp:x.ch.length<=1048576
 gK:x.cz.length<=1048576
 xX:x.cC.length<=1048576
 Dg:x.bQ.length<=1048576
 JR:x.bY.size + x.bW.size<=1048576
theorem tt (h:gJ x= true):anV x:=by
 obtain⟨a0,a1,a2,a3,a4⟩:=uO (Gl h)
 have h5:=(JU (Co h)).1
 unfold dE.nA at a0 a1 a2 a3 a4
 unfold dE.log at h5
 simp only at a0 a1 a2 a3 a4 h5
 exact⟨by omega,by omega,by omega,by omega,by omega,by omega⟩
theorem Qu (h:gJ x= false):lX x l= x/\qD x l= (⟨#[110,111]⟩ :VU):=by
 unfold lX qD;rw [h];exact⟨rfl,rfl⟩
theorem Qs (h:gJ x= true) (bu:mF l ⟨#[]⟩ =false):lX x l= x/\qD x l= (⟨#[98,97,100]⟩ :VU):=by
 unfold lX qD;rw [h,bu];exact⟨rfl,rfl⟩
theorem Qt (h:gJ x= true) (bu:mF l ⟨#[]⟩ =true) (aN:(x.bM == 60)= true):lX x l= x/\qD x l= (⟨#[102,117,108,108]⟩ :VU):=by
 unfold lX qD;rw [h,bu,aN];exact⟨rfl,rfl⟩
theorem Qv (h:gJ x= true) (bu:mF l ⟨#[]⟩ =true) (aN:(x.bM == 60)= false):lX x l= wF x l/\qD x l= qb (rE x.nA l).2:=by
 unfold lX qD;rw [h,bu,aN];exact⟨rfl,rfl⟩
def xo (x:dE) (es:List fi):Nat->dE
 | 0=>x
 | k + 1=>match es[k]? with | some y=>lX (xo x es k) y.cmd | none=>xo x es k
def si (x:dE) (es:List fi) (k:Nat):Bool:=match es[k]? with | some y=>(qD (xo x es k) y.cmd).toList == y.rep.toList | none=>true
structure ob (w:World):Prop where
 t:jV w
 e:Ib w
 m:Cf w
theorem ob.ad {w:World} (h:ob w) (aB:Below w w ah):ob ah:=⟨h.t.ad aB,h.e.ad aB,h.m.ad aB⟩
theorem apD:Builder.Extra Tryz.prog Tryz.agA:={sizeBuilder:=by kernel_rfl,liesBuilder:=by kernel_rfl,t5:=Tryz.underlying5,a5:=Tryz.isAgg5,z5:=Tryz.sizeOf5,v5:=Tryz.zeroValue5,infoByte:=by kernel_rfl,cellsByte:=by kernel_rfl,sizeByte:=by kernel_rfl,neB5:=by decide}
theorem awk (h0:ws.length≠0) (h:∀x ∈ ws,x.size<=n):(ny ws).size<=ws.length * (n + 1):=by
 have h2:=XJ h (ws.length - 1)
 rw [ny,XU h0]
 rwa [show ws.length - 1 + 1= ws.length by omega] at h2
theorem awl (A:QR) (c:Nat) (ws:List ByteArray) (h0:ws.length≠0) (bq:ws.length<=1000) (cF:∀x ∈ ws,x.size<=1000) (w:World) (bB:aX 1 hh w A ws) (gn:ws.length<=c):
 Rd 249 #[A ws c,.string (⟨#[32]⟩ :VU)] w λe ah=>e= .returned (.string (ny ws))/\Below w w ah:=by
 obtain⟨b,off,rfl,aB,aN⟩:=bB KK
 have e:=awj h0;have aT:=awk h0 cF;have e2:(Lib.join (ws.map (·.data.toList)) ((⟨#[32]⟩ :VU):VU).data.toList).toArray.size= (ny ws).size:=Xc ByteArray.size e
 rw [List.size_toArray] at e2
 have h:=Any.strings_Join Tryz.awU apD b off c ws (⟨#[32]⟩ :VU) w (λj x av=>by have:=aN j x av 0 _ rfl;simpa using this) aB KK gn KK
 rw [e] at h
 exact h
theorem aHI (A:QR) (c:Nat) (ws:List ByteArray) (bq:ws.length<=1000) (cF:∀x ∈ ws,x.size<=1000) (w:World) (bB:aX 1 hh w A ws) (gn:ws.length<=c):
 Rd 171 #[A ws c] w λe ah=>e= .returned (.string (ny ws))/\Below w w ah:=by
 by_cases h0:ws.length= 0
 .have e:ny ws= (⟨#[110,111,110,101]⟩ :VU):=by rw [ny,XX h0]
  rw [e,h0]
  clear bB gn cF
  go_in
  go_wp2
  go_ret
  exact⟨rfl,Wt _ _⟩
 .have fT:=I (awl A c ws h0 bq cF w bB gn)
  have h1:((ws.length:Int) == 0)= false:=by rw [Xb];omega
  clear bB gn cF
  go_in
  go_wp2_with fail
  refine (fT.o).mono ?_
  exact aHx
theorem anD (h:u:=by
 have fm:Below w w bH:=(aQ.alloc aQ.size _).grown ed Ym (λq bt=>(iR.lt q bt).1)
 go_roundw
 case rel=>exact⟨k + 1,by omega,by go_num,by rw [qO.o];exact fb,fm⟩
 case measure=>simp [intOf];omega):u:=h
theorem als (h:u:=by
 clear lr
 go_wp2_with fail
 refine fT.o.mono ?_
 rintro e bm ⟨rfl,bD⟩
 go_wp2
 go_ret
 exact⟨by rw [sb,xc.o];rfl,ai aB bD⟩):u:=h
theorem XR {A:QR} {c:Nat} (bq:xs.length<=100) (cF:∀x ∈ xs,-999999<=x/\x<=999999) {w:World} (bB:aX 1 cE w A xs) (bX:jV w):
 Rd 173 #[A xs c] w λe ah=>e= .returned (.string (sb xs))/\Below w w ah:=by
 obtain⟨i0,bo,dP,dZ,dV⟩:=Xo Da
 replace cF:=I cF;have iM:=bn.made (f:=hh) (sz:=1) w (B:=w) (XZ _) 9
 obtain⟨ys,xc⟩ :∃ys,xs.map eW= ys:=⟨_,rfl⟩
 have Us:=I (show ys.length<=1000 by rw [<- xc,YZ];omega);have Ut:=I (show∀s ∈ ys,s.size<=1000 from λs aP=>by rw [<- xc] at aP;obtain⟨x,av,rfl⟩:=YP.1 aP;have:=cF.o x av;have:=mQ x KK;omega);replace xc:=I xc
 go_in
 go_wp2
 go_loopw [3,9] (λy i wr=>∃k:Nat,k<=xs.length/\i= .int .i64 k/\bn w 9 1 hh wr y ((xs.take k).map eW)/\Below w w wr) (λ_ i _=>xs.length - (intOf i).toNat)
 case atStart=>exact⟨0,Xd _,rfl,iM,bP _ _⟩
 case round=>
  obtain⟨k,ax,rfl,aV,aB⟩:=hrel
  have qL:((xs.take k).map eW).length= k:=by rw [YZ,YA];omega
  replace aV:=I aV;replace qL:=I qL
  by_cases bC:k < xs.length
  .obtain⟨eV,iA,x,rfl,eN,av,bO⟩:=bB.at_ aB bC
   have afB:=cF.o x (YE av);have cG:=bO 0 _ rfl
   simp only [XW] at cG
   have g0:=cG (aD.self _)
   simp only [aD.self] at g0
   simp only [Xw] at g0
   have qO:(xs.take (k + 1)).map eW= (xs.take k).map eW ++ [eW x]:=by rw [List.take_add_one,av];simp
   replace qO:=I qO;clear av bO cG
   go_wp2_with fail
   refine (Bl x KK KK _ (bX.ad aB)).mono ?_
   rintro e bm ⟨rfl,bD⟩
   have aQ:=ai aB bD;have iR:=aV.o.aK bD;have nJ:=qL;clear g0
   go_wp2_with (at_builtin;refine ke rfl _ _ 57 rfl w 9 i0 _ 1 16 Tryz.underlying57 bo dP dZ dV rfl WG hh jP Gi _ ((xs.take k).map eW) rfl (iR.alloc _) ⟨bm,0,none⟩ 1 (eW x) rfl (aX.one _ _) Yy Yz Ym ?_;intro v4 bH fb ed mx)
   exact anD
  .obtain rfl:k= xs.length:=KK
   have lr:=aV.o
   rw [Yh,xc.o] at lr
   obtain⟨Y,iC,rfl,_,_,_⟩:=lr.form jP
   have fT:=I (aHI Y iC ys Us.o Ut.o wr (lr.ej (hf:=jP)) (nW lr jP))
   exact als
theorem XQ (A:QR) (c:Nat) (ws:List ByteArray) (bq:ws.length<=1000) (cF:∀x ∈ ws,x.size<=1000) (w:World) (bB:aX 1 hh w A ws):
 Rd 189 #[A ws c] w λe ah=>e= .returned (.string (ny ws))/\Below w w ah:=by
 by_cases h0:ws.length= 0
 .have e:ny ws= (⟨#[110,111,110,101]⟩ :VU):=by rw [ny,XX h0]
  rw [e,h0]
  clear bB cF
  go_in
  go_wp2
  go_ret
  exact⟨rfl,Wt _ _⟩
 .have e:ny ws= qV ws (ws.length - 1):=by rw [ny,XU h0]
  rw [e]
  have jN:=I (λk=>XJ cF k);have aoP:=I cF
  have h1:((ws.length:Int) == 0)= false:=by rw [Xb];omega
  obtain⟨b,off,cA,rfl,eN,lN,bO⟩:=bB.at_ (Wt _ _) (k:=0) KK
  have g0:=bO 0 _ rfl (aD.self _)
  simp only [Xy,XW,aD.self] at g0
  have jI:qV ws 0= cA:=by rw [qV,lN];rfl
  replace jI:=I jI;replace bB:=I bB;clear lN bO cF e
  go_in
  go_wp2
  clear g0
  go_loopw [3,4] (λs i wr=>∃k:Nat,k < ws.length/\i= .int .i64 (k + 1:Nat)/\s= .string (qV ws k)/\wr= w) (λ_ i _=>ws.length - (intOf i).toNat)
  case atStart=>exact⟨0,by omega,rfl,by rw [jI.o],rfl⟩
  case round=>
   obtain⟨k,ax,rfl,rfl,rfl⟩:=hrel
   have aEf:(qV ws k).size<=1001000:=by
    have h1:=jN.o k;have h2:(k + 1) * (1000 + 1)<=1000 * 1001:=ZA _ KK
    omega
   by_cases bC:k + 1 < ws.length
   .obtain⟨dr,Sm,x,e2,zl,av,bO⟩:=bB.o.at_ (Wt _ _) bC
    cases e2
    have f0:=bO 0 _ rfl (aD.self _)
    simp only [Xw,XW,aD.self] at f0
    have Bi:=aoP.o x (YE av);have fV:=I (agj av);clear av bO
    generalize qV ws k= s at *
    go_wp2
    go_roundw
    case rel=>exact⟨k + 1,by omega,by go_num,by rw [fV.o],by first | rfl | trivial⟩
    case measure=>simp [intOf];omega
   .obtain rfl:k= ws.length - 1:=KK
    have oO:¬((ws.length - 1 + 1:Nat):Int) < (ws.length:Int):=KK
    go_wp2
    go_ret
    exact⟨rfl,Wt _ _⟩
theorem agr (A:QR) (c:Nat) (xs:List Int) (bq:xs.length<=100) (cF:∀x ∈ xs,-999999<=x/\x<=999999) (w:World) (bB:aX 1 cE w A xs):
 Rd 191 #[A xs c] w λe ah=>e= .returned (.string (sb xs))/\Below w w ah:=by
 obtain⟨i0,bo,dP,dZ,dV⟩:=Xo Da
 replace cF:=I cF;have iM:=bn.made (f:=hh) (sz:=1) w (B:=w) (XZ _) 9
 obtain⟨ys,xc⟩ :∃ys,xs.map eW= ys:=⟨_,rfl⟩
 have Us:=I (show ys.length<=1000 by rw [<- xc,YZ];omega);have Ut:=I (show∀s ∈ ys,s.size<=1000 from λs aP=>by rw [<- xc] at aP;obtain⟨x,av,rfl⟩:=YP.1 aP;have:=cF.o x av;have:=mQ x KK;omega);replace xc:=I xc
 go_in
 go_wp2
 go_loopw [3,4] (λy i wr=>∃k:Nat,k<=xs.length/\i= .int .i64 k/\bn w 9 1 hh wr y ((xs.take k).map eW)/\Below w w wr) (λ_ i _=>xs.length - (intOf i).toNat)
 case atStart=>exact⟨0,Xd _,rfl,iM,bP _ _⟩
 case round=>
  obtain⟨k,ax,rfl,aV,aB⟩:=hrel
  have qL:((xs.take k).map eW).length= k:=by rw [YZ,YA];omega
  replace aV:=I aV;replace qL:=I qL
  by_cases bC:k < xs.length
  .obtain⟨eV,iA,x,rfl,eN,av,bO⟩:=bB.at_ aB bC
   have afB:=cF.o x (YE av);have cG:=bO 0 _ rfl
   simp only [XW] at cG
   have g0:=cG (aD.self _)
   simp only [aD.self] at g0
   simp only [Xw] at g0
   have qO:(xs.take (k + 1)).map eW= (xs.take k).map eW ++ [eW x]:=by rw [List.take_add_one,av];simp
   replace qO:=I qO;clear av bO cG
   go_wp2_with fail
   refine (py x KK KK _).mono ?_
   rintro e bm ⟨rfl,bD⟩
   have aQ:=ai aB bD;have iR:=aV.o.aK bD;clear g0
   go_wp2_with (at_builtin;refine ke rfl _ _ 57 rfl w 9 i0 _ 1 16 Tryz.underlying57 bo dP dZ dV rfl WG hh jP Gi _ ((xs.take k).map eW) rfl (iR.alloc _) ⟨bm,0,none⟩ 1 (eW x) rfl (aX.one _ _) (by have:=qL.o;unfold maxLen;omega) (by have:=qL.o;omega) Ym ?_;intro v4 bH fb ed mx)
   exact anD
  .obtain rfl:k= xs.length:=KK
   have lr:=aV.o
   rw [Yh,xc.o] at lr
   obtain⟨Y,iC,rfl,_,_,_⟩:=lr.form jP
   have fT:=I (XQ Y iC ys Us.o Ut.o wr (lr.ej (hf:=jP)))
   exact als
theorem SS {tu se sp:Int} {ws:List Int} {ae:List aW} (h:hG tu se sp ws ae= true) {m:Int} (hm:fy m= true):0<=(fr ae m).dp/\(fr ae m).dp<=se/\se<=3600:=by
 have H:=QG.1 h;have h1:=H.t;have h2:=H.s;have h3:=zZ.1 (ajo H.ok KK KK hm)
 omega
theorem amk (h:u:=by
 rintro e w0 ⟨rfl,h0⟩
 rw [h0]
 clear h0 w0
 go_wp2
 go_ret2
 exact⟨rfl,(ai U ao)⟩):u:=h
theorem akX (h:u:=by
 refine VF ?_
 intro K
 clear aJ;have aY:Below aI aI K.world:=ai ao K.ad;replace U:=ai U aY
 go_wp2
 go_ret2
 exact⟨rfl,(ai U ao)⟩):u:=h
theorem ave (tu se sp:Int) (ak:QR) (c2:Nat) (ws:List Int) (al:QR) (c3:Nat) (ae:List aW) (h2:ws) (h3:ae) (cL:ws.length<=c2) (az:hG tu se sp ws ae= true) (m:Int) (w:World) (bp:aX 1 cE w ak ws) (bj:aX 3 aW.cells w al ae):
 Rd 175 #[.agg #[tu,se,sp,ak ws c2,al ae c3],m] w λe ah=>e= .returned (.tuple #[.int .i64 (if fy m then se - (fr ae m).dp else 0),.bool (fy m)])/\Below w w ah:=by
 have cI:=I az
 cases hm:fy m
 .have gi:=I hm
  rw [XU Wn]
  clear hm az
  go_in
  go_wp2_with fail
  refine (oy c2 h2 h3 cL _ cI.o (bp.ad ao) (bj.ad ao)).mono ?_
  rintro e bm ⟨rfl,bD⟩
  have ar:=be w bD;have U:Below w w bm:=ar
  go_wp2_with fail
  refine (kx _ gi.o _).mono ?_
  exact amk
 .have gi:=I hm
  rw [XX rfl]
  obtain⟨s1,s2,gT⟩:=SS az hm
  obtain⟨s,aP⟩ :∃s,fr ae m= s:=⟨_,rfl⟩
  have fL:=I aP
  rw [aP] at s1 s2 ⊢
  clear hm az aP
  obtain⟨sm,st,cR⟩:=s
  simp only at s1 s2 ⊢
  have wT:∀W:World,(Instr.field 214 (.agg #[sm,st,cR]) 2).run Tryz.prog W= .ok (.int .i64 cR) W:=λ_=>by kernel_rfl
  go_in
  go_upto_region 1 with fail
  refine dh λaO ar ag=>?_
  replace bp:=bp.ad ar;replace bj:=bj.ad ar;have U:=ar;have aJ:=ag.aL
  go_wp2_with fail
  refine (oy c2 h2 h3 cL _ cI.o (bp.ad ao) (bj.ad ao)).mono ?_
  rintro e aI ⟨rfl,aQ⟩
  have aj:=be aO aQ;replace U:=ai U aj;replace bj:=bj.ad aj;replace ag:=ag.to aj;replace aJ:=ag.aL
  go_wp2_with fail
  refine (kx _ gi.o _).mono ?_
  rintro e w0 ⟨rfl,h0⟩
  rw [h0]
  clear h0 w0
  go_upto_region 3 with fail
  replace bj:=I bj;clear bp;have rN:=I (λk:aD aI aI=>Dw tu se sp ak ws.length c2 al c3 ae h3 m ⟨sm,st,cR⟩ fL.o k.world (bj.o.ad k.ad));replace aJ:=ay.kG (λK:aD aI aI=>(ag.ad K.ad ag.lt))
  refine eQ PV PV ?_
  repeat (go_big_quiet_step ((first | (go_at_call 201;exact aD.call _ Xm (rN.o _)))))
  exact akX
theorem azW (tu se sp:Int) (ak:QR) (c2:Nat) (ws:List Int) (al:QR) (c3:Nat) (ae:List aW) (h2:ws) (h3:ae) (cL:ws.length<=c2) (az:hG tu se sp ws ae= true) (m:Int) (w:World) (bp:aX 1 cE w ak ws) (bj:aX 3 aW.cells w al ae):
 Rd 195 #[.agg #[tu,se,sp,ak ws c2,al ae c3],m] w λe ah=>e= .returned (.tuple #[.int .i64 (if fy m then se - (fr ae m).dp else 0),.bool (fy m)])/\Below w w ah:=by
 have cI:=I az
 cases hm:fy m
 .have gi:=I hm
  rw [XU Wn]
  clear hm az
  go_in
  go_wp2_with fail
  refine (oz c2 h2 h3 cL _ cI.o (bp.ad ao) (bj.ad ao)).mono ?_
  rintro e bm ⟨rfl,bD⟩
  have ar:=be w bD;have U:Below w w bm:=ar
  go_wp2_with fail
  refine (km _ gi.o _).mono ?_
  exact amk
 .have gi:=I hm
  rw [XX rfl]
  obtain⟨s1,s2,gT⟩:=SS az hm
  obtain⟨s,aP⟩ :∃s,fr ae m= s:=⟨_,rfl⟩
  have fL:=I aP
  rw [aP] at s1 s2 ⊢
  clear hm az aP
  obtain⟨sm,st,cR⟩:=s
  simp only at s1 s2 ⊢
  have wT:∀W:World,(Instr.field 214 (.agg #[sm,st,cR]) 2).run Tryz.prog W= .ok (.int .i64 cR) W:=λ_=>by kernel_rfl
  go_in
  go_upto_region 1 with fail
  refine dh λaO ar ag=>?_
  replace bp:=bp.ad ar;replace bj:=bj.ad ar;have U:=ar;have aJ:=ag.aL
  go_wp2_with fail
  refine (oz c2 h2 h3 cL _ cI.o (bp.ad ao) (bj.ad ao)).mono ?_
  rintro e aI ⟨rfl,aQ⟩
  have aj:=be aO aQ;replace U:=ai U aj;replace bj:=bj.ad aj;replace ag:=ag.to aj;replace aJ:=ag.aL
  go_wp2_with fail
  refine (km _ gi.o _).mono ?_
  rintro e w0 ⟨rfl,h0⟩
  rw [h0]
  clear h0 w0
  go_upto_region 3 with fail
  replace bj:=I bj;clear bp;have rN:=I (λk:aD aI aI=>zP tu se sp ak ws.length c2 al c3 ae h3 m ⟨sm,st,cR⟩ fL.o k.world (bj.o.ad k.ad));replace aJ:=ay.kG (λK:aD aI aI=>(ag.ad K.ad ag.lt))
  refine eQ PV PV ?_
  repeat (go_big_quiet_step ((first | (go_at_call 267;exact aD.call _ Xm (rN.o _)))))
  exact akX
def Du:Option aM->Value
 | some r=> .agg #[.int .i64 r.id,.string r.name,.int .i64 r.hS,.bool r.second,.bool r.nc,.bool r.nM,.int .i64 r.need]
 | none=> .agg #[.int .i64 0,.string ⟨#[]⟩,.int .i64 0,.bool false,.bool false,.bool false,.int .i64 0]
theorem acv (nm:VU) (g:Nat) (x:aM) (W:World) (cy:W.cell? ⟨g,0,none⟩ =some (.string nm)) (aT:g < W.heap.size):
 Rd 248 (#[.agg #[x.id,x.name,x.hS,x.second,x.nc,x.nM,x.need]] ++ #[.pointer (some ⟨g,0,none⟩)]) W λe ah=>e= .returned (.bool (x.name.toList == nm.toList))/\Below W W ah:=by
 cases aB:x.name.toList == nm.toList
 all_goals
  go_in
  go_wp2
  go_ret
  exact⟨rfl,bP _ _⟩
theorem afJ (A:QR) (c:Nat) (rs:List aM) (bq:rs) (aN:rs.length<=c) (az:jR rs= true) (nm:VU) (o:Option aM) (dn:yS rs nm= o) (w:World) (bB:aX 7 aM.cells w A rs):
 Rd 169 #[A rs c,nm] w λe ah=>e= .returned (.tuple #[Du o,o.isSome])/\Below w w ah:=by
 have cI:=I az
 cases o with
 | none=>
  have kA:=I (JJ dn);clear dn az
  simp only [Du,ZB]
  go_in
  go_upto_region 1 with fail
  refine fU λaO ar bU J=>?_
  replace bB:=bB.ad ar;have U:=ar;obtain⟨z0,bF,z2,z3,z4,z5,ek⟩:=J.ij
  have eS:Hid (∀x,x ∈ rs->∀V,Below aO aO V->Rd 248 (#[.agg #[.int .i64 x.id,.string x.name,.int .i64 x.hS,.bool x.second,.bool x.nc,.bool x.nM,.int .i64 x.need]] ++ #[.pointer (some ⟨w,0,none⟩)]) V λe ah=>e= .returned (.bool (x.name.toList == nm.toList))/\Below V V ah):=I λx _ V iq=>acv nm w x V ((bU.to iq).cell 0) (bU.to iq).lt
  go_wp2_with fail
  refine (RG A c rs bq 248 #[.pointer (some ⟨w,0,none⟩)] (HS Tryz.func248 PV PV) (Oo nm) _ kA.o _ (bB.ad ao) eS.o).mono ?_
  rintro e aI ⟨rfl,aQ⟩
  have aj:=be aO aQ;replace U:=ai U aj;replace bB:=bB.ad aj;replace J:=J.to aj;clear z0 bF z2 z3 z4 z5 ek;obtain⟨z0,bF,z2,z3,z4,z5,ek⟩:=J.ij
  go_wp2_with fail
  refine (Hn bq aN _ cI.o (bB.ad ao)).mono ?_
  rintro e bw ⟨rfl,bG⟩
  have aY:=be aI bG;replace U:=ai U aY;replace J:=J.to aY;clear z0 bF z2 z3 z4 z5 ek;obtain⟨z0,bF,z2,z3,z4,z5,ek⟩:=J.ij;have eg:=J.Jh
  go_wp2
  clear z0 bF z2 z3 z4 z5 ek
  refine OU 0 λcP aE=>?_
  replace U:=aE.aN U;replace J:=aE.Mf J;obtain⟨z0,bF,z2,z3,z4,z5,ek⟩:=J.ij
  refine XY (v:= .tuple #[.agg #[(0:Int),.string ⟨#[]⟩,(0:Int),false,false,false,(0:Int)],false]) (by simp [results,Tryz.results169,go_sem,z0,bF,z2,z3,z4,z5,ek]) rfl ?_
  exact⟨rfl,U⟩
 | some r=>
  obtain⟨k,bo,ax⟩:=uM dn
  have bC:k < rs.length:=(Xg.1 ax).1;replace ax:=I ax;have kA:=I bo;clear dn az bo
  simp only [Du,Yw]
  go_in
  go_upto_region 1 with fail
  refine fU λaO ar bU J=>?_
  replace bB:=bB.ad ar;have U:=ar;obtain⟨z0,bF,z2,z3,z4,z5,ek⟩:=J.ij
  have eS:Hid (∀x,x ∈ rs->∀V,Below aO aO V->Rd 248 (#[.agg #[.int .i64 x.id,.string x.name,.int .i64 x.hS,.bool x.second,.bool x.nc,.bool x.nM,.int .i64 x.need]] ++ #[.pointer (some ⟨w,0,none⟩)]) V λe ah=>e= .returned (.bool (x.name.toList == nm.toList))/\Below V V ah):=I λx _ V iq=>acv nm w x V ((bU.to iq).cell 0) (bU.to iq).lt
  go_wp2_with fail
  refine (RG A c rs bq 248 #[.pointer (some ⟨w,0,none⟩)] (HS Tryz.func248 PV PV) (Oo nm) _ kA.o _ (bB.ad ao) eS.o).mono ?_
  rintro e aI ⟨rfl,aQ⟩
  have aj:=be aO aQ;replace U:=ai U aj;replace bB:=bB.ad aj;replace J:=J.to aj;clear z0 bF z2 z3 z4 z5 ek;obtain⟨z0,bF,z2,z3,z4,z5,ek⟩:=J.ij
  go_wp2_with fail
  refine (Hn bq aN _ cI.o (bB.ad ao)).mono ?_
  rintro e bw ⟨rfl,bG⟩
  have aY:=be aI bG;replace U:=ai U aY;replace bB:=bB.ad aY;replace J:=J.to aY;clear z0 bF z2 z3 z4 z5 ek;obtain⟨z0,bF,z2,z3,z4,z5,ek⟩:=J.ij
  obtain⟨b,off,hr,rfl,eN,av,bO⟩:=bB.at_ (Wt _ _) bC
  obtain rfl:r= hr:=Wx (ax.o.symm.trans av)
  have f0:=bO 0 _ rfl;have f1:=bO 1 _ rfl;have f2:=bO 2 _ rfl;have f3:=bO 3 _ rfl;have f4:=bO 4 _ rfl;have f5:=bO 5 _ rfl;have f6:=bO 6 _ rfl
  simp only [XW] at f0
  have g0:=f0 (aD.self _);have g1:=f1 (aD.self _);have g2:=f2 (aD.self _);have g3:=f3 (aD.self _);have g4:=f4 (aD.self _);have g5:=f5 (aD.self _);have g6:=f6 (aD.self _)
  simp only [aD.self] at g0
  simp only [aD.self] at g1
  simp only [aD.self] at g2
  simp only [aD.self] at g3
  simp only [aD.self] at g4
  simp only [aD.self] at g5
  simp only [aD.self] at g6
  clear av bO
  have Rl:¬(k:Int) < 0:=KK
  have eg:=J.Jh
  go_wp2
  clear z0 bF z2 z3 z4 z5 ek
  refine OU 0 λcP aE=>?_
  replace U:=aE.aN U;replace J:=aE.Mf J
  have z0:=J.ij
  refine XY (v:= .tuple #[.agg #[r.id,r.name,r.hS,r.second,r.nc,r.nM,r.need],true]) (by simp [results,Tryz.results169,go_sem,z0]) rfl ?_
  exact⟨rfl,U⟩
theorem azC (A:QR) (c:Nat) (rs:List aM) (bq:rs) (az:jR rs= true) (nm:VU) (o:Option aM) (dn:yS rs nm= o) (w:World) (bB:aX 7 aM.cells w A rs):
 Rd 193 #[A rs c,nm] w λe ah=>e= .returned (.tuple #[Du o,o.isSome])/\Below w w ah:=by
 replace az:=I az;replace dn:=I dn
 go_in
 go_upto_region 1 with fail
 refine dh λaO ar J=>?_
 replace bB:=bB.ad ar;have U:=ar;obtain⟨z0,bF,z2,z3,z4,z5,ek⟩:=J.ij
 go_wp2_with fail
 refine (zO bq _ az.o (bB.ad ao)).mono ?_
 rintro e aI ⟨rfl,aQ⟩
 have aj:=be aO aQ;replace U:=ai U aj;replace bB:=bB.ad aj;replace J:=J.to aj;clear z0 bF z2 z3 z4 z5 ek;obtain⟨z0,bF,z2,z3,z4,z5,ek⟩:=J.ij
 go_wp2
 go_loop [6] (λi=>∃k:Nat,k<=rs.length/\i= .int .i64 k/\iv (λi=>!la (Oo nm) rs i) k= true) (λi=>rs.length - (intOf i).toNat)
 case atStart=>exact⟨0,Xd _,rfl,rfl⟩
 case round=>
  obtain⟨k,ax,rfl,aT⟩:=hrel
  replace aT:=I aT
  by_cases bC:k < rs.length
  .obtain⟨b,off,r,rfl,eN,av,bO⟩:=bB.at_ (Wt _ _) bC
   have f0:=bO 0 _ rfl;have f1:=bO 1 _ rfl;have f2:=bO 2 _ rfl;have f3:=bO 3 _ rfl;have f4:=bO 4 _ rfl;have f5:=bO 5 _ rfl;have f6:=bO 6 _ rfl
   simp only [XW] at f0
   have g0:=f0 (aD.self _);have g1:=f1 (aD.self _);have g2:=f2 (aD.self _);have g3:=f3 (aD.self _);have g4:=f4 (aD.self _);have g5:=f5 (aD.self _);have g6:=f6 (aD.self _)
   simp only [aD.self] at g0
   simp only [aD.self] at g1
   simp only [aD.self] at g2
   simp only [aD.self] at g3
   simp only [aD.self] at g4
   simp only [aD.self] at g5
   simp only [aD.self] at g6
   replace av:=I av;clear bO f0 f1 f2 f3 f4 f5 f6
   cases he:(r.name.toList == nm.toList)
   .have fl:=I he
    go_wp2
    go_round
    case rel=>exact⟨k + 1,by omega,by go_num,qg aT.o (by simp only [la,av.o,Oo,fl.o];rfl)⟩
    case measure=>simp [intOf];omega
   .obtain rfl:o= some r:=dn.o.symm.trans (Vs aT.o av.o he)
    have eg:=J.Jh
    go_wp2
    clear z0 bF z2 z3 z4 z5 ek
    refine OU 0 λcP aE=>?_
    replace U:=aE.aN U;replace J:=aE.Mf J
    have z0:=J.ij
    refine XY (v:= .tuple #[.agg #[r.id,r.name,r.hS,r.second,r.nc,r.nM,r.need],true]) (by simp [results,Tryz.results193,go_sem,z0]) rfl ?_
    exact⟨rfl,U⟩
  .obtain rfl:k= rs.length:=KK
   obtain rfl:o= none:=dn.o.symm.trans (adv aT.o)
   have eg:=J.Jh
   go_wp2
   clear z0 bF z2 z3 z4 z5 ek
   refine OU 0 λcP aE=>?_
   replace U:=aE.aN U;replace J:=aE.Mf J;obtain⟨z0,bF,z2,z3,z4,z5,ek⟩:=J.ij
   refine XY (v:= .tuple #[.agg #[(0:Int),.string ⟨#[]⟩,(0:Int),false,false,false,(0:Int)],false]) (by simp [results,Tryz.results193,go_sem,z0,bF,z2,z3,z4,z5,ek]) rfl ?_
   exact⟨rfl,U⟩
theorem axV (s:VU) (w:World):Rd 99 #[s] w λe ah=>e= .returned (.tuple #[.string ((oR (fA s)).getD ⟨#[]⟩),.bool (oR (fA s)).isSome])/\ah= w:=by
 have fP:=IZ s
 rcases RW (Mm s) with h | h | h | h | h | h | h | h | h | h | h | h | h | h | h | h
 all_goals
  rw [h] at fP ⊢
  obtain⟨f0,f1,f2,f3,f4,f5,f6,f7,f8,f9,f10,f11,f12,f13,f14⟩:=fP
  simp only [Nat.reduceBEq] at f0 f1 f2 f3 f4 f5 f6 f7 f8 f9 f10 f11 f12 f13 f14
  clear h
  go_in
  go_wp2
  go_ret2
  exact⟨rfl,rfl⟩
def UO:Option pJ->Value
 | some a=> .agg #[.int .i64 a.kind,.int .i64 a.mem,.int .i64 a.val,.int .i64 a.yes,.int .i64 a.no,.int .i64 a.bR]
 | none=> .agg #[.int .i64 0,.int .i64 0,.int .i64 0,.int .i64 0,.int .i64 0,.int .i64 0]
theorem Tq (h:u:=by
 have bq:l.length= 0:=aT _ rfl;clear aT
 show Calls _ _ _ _ (λe ah=>e= .returned (.tuple #[.agg #[(0:Int),(0:Int),(0:Int),(0:Int),(0:Int),(0:Int)],false])/\Below w w ah)
 go_in
 go_upto_region 1 with fail
 refine dh λaO ar J=>?_
 have U:=ar;have af:=J.cX;have eg:=J.wL
 go_wp2
 clear af
 refine xr 0 λcP aE=>?_
 replace U:=aE.aN U;replace J:=aE.wy J;have af:=J.cX
 refine XY (v:= .tuple #[.agg #[(0:Int),(0:Int),(0:Int),(0:Int),(0:Int),(0:Int)],false]) Yl rfl ?_
 exact⟨rfl,U⟩):u:=h
theorem amu (h:u:=by
 have bq:l.length= 1:=aT _ rfl;clear aT
 obtain⟨a,rfl⟩ :∃a,l= [a]:=by
   match l,bq with
   | [rh],_=>exact⟨rh,rfl⟩
 clear bq
 show Calls _ _ _ _ (λe ah=>e= .returned (.tuple #[.agg #[(0:Int),(0:Int),(0:Int),(0:Int),(0:Int),(0:Int)],false])/\Below w w ah)
 obtain⟨nb,off,rfl,eN,aN⟩:=bB Wn
 have g0:=aN 0 _ rfl 0 _ rfl
 simp only [Xw,Xy,XW] at g0
 clear aN
 go_in
 go_upto_region 1 with fail
 refine dh λaO ar J=>?_
 have U:=ar;have af:=J.cX;have eg:=J.wL
 go_wp2
 clear af
 refine xr 0 λcP aE=>?_
 replace U:=aE.aN U;replace J:=aE.wy J;have af:=J.cX
 refine XY (v:= .tuple #[.agg #[(0:Int),(0:Int),(0:Int),(0:Int),(0:Int),(0:Int)],false]) Yl rfl ?_
 exact⟨rfl,U⟩):u:=h
theorem apb (s:VU) (A:QR) (c:Nat) (l:List Int) (aT:∀p,oR (fA s)= some p->l.length= p.size) (w:World) (bB:aX 1 cE w A l):
 Rd 101 #[s,A l c] w λe ah=>e= .returned (.tuple #[UO (wv (fA s) l),.bool (wv (fA s) l).isSome])/\Below w w ah:=by
 have fP:=IZ s
 rcases RW (Mm s) with h | h | h | h | h | h | h | h | h | h | h | h | h | h | h | h
 all_goals rw [h] at fP aT ⊢
 all_goals obtain⟨f0,f1,f2,f3,f4,f5,f6,f7,f8,f9,f10,f11,f12,f13,f14⟩:=fP
 all_goals simp only [Nat.reduceBEq] at f0 f1 f2 f3 f4 f5 f6 f7 f8 f9 f10 f11 f12 f13 f14
 all_goals clear h
 .clear aT
  show Calls _ _ _ _ (λe ah=>e= .returned (.tuple #[.agg #[(4:Int),(0:Int),(0:Int),(0:Int),(0:Int),(0:Int)],true])/\Below w w ah)
  go_in
  go_upto_region 1 with fail
  refine dh λaO ar J=>?_
  have U:=ar;have af:=J.cX;have eg:=J.wL
  go_wp2
  clear af
  refine xr 0 λcP aE=>?_
  replace U:=aE.aN U;replace J:=aE.wy J;have af:=J.cX
  refine XY (v:= .tuple #[.agg #[(4:Int),(0:Int),(0:Int),(0:Int),(0:Int),(0:Int)],true]) Yl rfl ?_
  exact⟨rfl,U⟩
 .clear aT
  show Calls _ _ _ _ (λe ah=>e= .returned (.tuple #[.agg #[(6:Int),(0:Int),(0:Int),(0:Int),(0:Int),(0:Int)],true])/\Below w w ah)
  go_in
  go_upto_region 1 with fail
  refine dh λaO ar J=>?_
  have U:=ar;have af:=J.cX;have eg:=J.wL
  go_wp2
  clear af
  refine xr 0 λcP aE=>?_
  replace U:=aE.aN U;replace J:=aE.wy J;have af:=J.cX
  refine XY (v:= .tuple #[.agg #[(6:Int),(0:Int),(0:Int),(0:Int),(0:Int),(0:Int)],true]) Yl rfl ?_
  exact⟨rfl,U⟩
 .clear aT
  show Calls _ _ _ _ (λe ah=>e= .returned (.tuple #[.agg #[(9:Int),(0:Int),(0:Int),(0:Int),(0:Int),(0:Int)],true])/\Below w w ah)
  go_in
  go_upto_region 1 with fail
  refine dh λaO ar J=>?_
  have U:=ar;have af:=J.cX;have eg:=J.wL
  go_wp2
  clear af
  refine xr 0 λcP aE=>?_
  replace U:=aE.aN U;replace J:=aE.wy J;have af:=J.cX
  refine XY (v:= .tuple #[.agg #[(9:Int),(0:Int),(0:Int),(0:Int),(0:Int),(0:Int)],true]) Yl rfl ?_
  exact⟨rfl,U⟩
 .exact Tq
 .exact Tq
 .exact Tq
 .exact Tq
 .have bq:l.length= 1:=aT _ rfl
  clear aT
  obtain⟨a,rfl⟩ :∃a,l= [a]:=by
    match l,bq with
    | [rh],_=>exact⟨rh,rfl⟩
  clear bq
  show Calls _ _ _ _ (λe ah=>e= .returned (.tuple #[.agg #[(2:Int),.int .i64 a,(0:Int),(0:Int),(0:Int),(0:Int)],true])/\Below w w ah)
  obtain⟨nb,off,rfl,eN,aN⟩:=bB Wn
  have g0:=aN 0 _ rfl 0 _ rfl
  simp only [Xw,Xy,XW] at g0
  clear aN
  go_in
  go_upto_region 1 with fail
  refine dh λaO ar J=>?_
  have U:=ar;have af:=J.cX;replace g0:=(U.cell (p:=⟨nb,_,none⟩) eN).trans g0;have eg:=J.wL
  go_wp2
  clear af
  refine xr 0 λcP aE=>?_
  replace U:=aE.aN U;replace J:=aE.wy J;have af:=J.cX
  refine XY (v:= .tuple #[.agg #[(2:Int),.int .i64 a,(0:Int),(0:Int),(0:Int),(0:Int)],true]) Yl rfl ?_
  exact⟨rfl,U⟩
 .have bq:l.length= 1:=aT _ rfl
  clear aT
  obtain⟨a,rfl⟩ :∃a,l= [a]:=by
    match l,bq with
    | [rh],_=>exact⟨rh,rfl⟩
  clear bq
  show Calls _ _ _ _ (λe ah=>e= .returned (.tuple #[.agg #[(3:Int),.int .i64 a,(0:Int),(0:Int),(0:Int),(0:Int)],true])/\Below w w ah)
  obtain⟨nb,off,rfl,eN,aN⟩:=bB Wn
  have g0:=aN 0 _ rfl 0 _ rfl
  simp only [Xw,Xy,XW] at g0
  clear aN
  go_in
  go_upto_region 1 with fail
  refine dh λaO ar J=>?_
  have U:=ar;have af:=J.cX;replace g0:=(U.cell (p:=⟨nb,_,none⟩) eN).trans g0;have eg:=J.wL
  go_wp2
  clear af
  refine xr 0 λcP aE=>?_
  replace U:=aE.aN U;replace J:=aE.wy J;have af:=J.cX
  refine XY (v:= .tuple #[.agg #[(3:Int),.int .i64 a,(0:Int),(0:Int),(0:Int),(0:Int)],true]) Yl rfl ?_
  exact⟨rfl,U⟩
 .have bq:l.length= 1:=aT _ rfl
  clear aT
  obtain⟨a,rfl⟩ :∃a,l= [a]:=by
    match l,bq with
    | [rh],_=>exact⟨rh,rfl⟩
  clear bq
  show Calls _ _ _ _ (λe ah=>e= .returned (.tuple #[.agg #[(5:Int),(0:Int),.int .i64 a,(0:Int),(0:Int),(0:Int)],true])/\Below w w ah)
  obtain⟨nb,off,rfl,eN,aN⟩:=bB Wn
  have g0:=aN 0 _ rfl 0 _ rfl
  simp only [Xw,Xy,XW] at g0
  clear aN
  go_in
  go_upto_region 1 with fail
  refine dh λaO ar J=>?_
  have U:=ar;have af:=J.cX;replace g0:=(U.cell (p:=⟨nb,_,none⟩) eN).trans g0;have eg:=J.wL
  go_wp2
  clear af
  refine xr 0 λcP aE=>?_
  replace U:=aE.aN U;replace J:=aE.wy J;have af:=J.cX
  refine XY (v:= .tuple #[.agg #[(5:Int),(0:Int),.int .i64 a,(0:Int),(0:Int),(0:Int)],true]) Yl rfl ?_
  exact⟨rfl,U⟩
 .have bq:l.length= 1:=aT _ rfl
  clear aT
  obtain⟨a,rfl⟩ :∃a,l= [a]:=by
    match l,bq with
    | [rh],_=>exact⟨rh,rfl⟩
  clear bq
  show Calls _ _ _ _ (λe ah=>e= .returned (.tuple #[.agg #[(8:Int),.int .i64 a,(0:Int),(0:Int),(0:Int),(0:Int)],true])/\Below w w ah)
  obtain⟨nb,off,rfl,eN,aN⟩:=bB Wn
  have g0:=aN 0 _ rfl 0 _ rfl
  simp only [Xw,Xy,XW] at g0
  clear aN
  go_in
  go_upto_region 1 with fail
  refine dh λaO ar J=>?_
  have U:=ar;have af:=J.cX;replace g0:=(U.cell (p:=⟨nb,_,none⟩) eN).trans g0;have eg:=J.wL
  go_wp2
  clear af
  refine xr 0 λcP aE=>?_
  replace U:=aE.aN U;replace J:=aE.wy J;have af:=J.cX
  refine XY (v:= .tuple #[.agg #[(8:Int),.int .i64 a,(0:Int),(0:Int),(0:Int),(0:Int)],true]) Yl rfl ?_
  exact⟨rfl,U⟩
 .exact amu
 .exact amu
 .have bq:l.length= 2:=aT _ rfl
  clear aT
  obtain⟨a,b,rfl⟩ :∃a b,l= [a,b]:=by
    match l,bq with
    | [rh,xu],_=>exact⟨rh,xu,rfl⟩
  clear bq
  show Calls _ _ _ _ (λe ah=>e= .returned (.tuple #[.agg #[(1:Int),.int .i64 b,.int .i64 a,(0:Int),(0:Int),(0:Int)],true])/\Below w w ah)
  obtain⟨nb,off,rfl,eN,aN⟩:=bB Wn
  have g0:=aN 0 _ rfl 0 _ rfl;have g1:=aN 1 _ rfl 0 _ rfl
  simp only [Xw,Xy,XW] at g0 g1
  clear aN
  go_in
  go_upto_region 1 with fail
  refine dh λaO ar J=>?_
  have U:=ar;have af:=J.cX;replace g0:=(U.cell (p:=⟨nb,_,none⟩) eN).trans g0;replace g1:=(U.cell (p:=⟨nb,_,none⟩) eN).trans g1;have zl:nb < aO.heap.size:=YW eN U.size
  go_upto_region 3 with fail
  have u0:=λK:aD aO aO=>(K.cell (p:=⟨nb,_,none⟩) zl).trans g0
  have u1:=λK:aD aO aO=>(K.cell (p:=⟨nb,_,none⟩) zl).trans g1
  clear g0 g1;replace af:=ay.Vb (λK:aD aO aO=>(J.ad K.ad J.lt))
  refine Pf 7 PV PV ?_
  refine Zf ?_
  repeat (go_big_quiet_step ((fail)))
  refine VF ?_
  intro K
  refine aHs ?_
  have aj:Below aO aO K.world:=ai ao K.ad;replace U:=ai U aj;replace J:=J.to aj;replace af:=J.cX;have eg:=J.wL
  go_wp2
  clear af
  refine xr 0 λcP aE=>?_
  replace U:=aE.aN U;replace J:=aE.wy J;have af:=J.cX
  refine XY (v:= .tuple #[.agg #[(1:Int),.int .i64 b,.int .i64 a,(0:Int),(0:Int),(0:Int)],true]) Yl rfl ?_
  exact⟨rfl,U⟩
 .have bq:l.length= 3:=aT _ rfl
  clear aT
  obtain⟨a,b,d,rfl⟩ :∃a b d,l= [a,b,d]:=by
    match l,bq with
    | [rh,xu,Ft],_=>exact⟨rh,xu,Ft,rfl⟩
  clear bq
  show Calls _ _ _ _ (λe ah=>e= .returned (.tuple #[.agg #[(7:Int),(0:Int),(0:Int),.int .i64 a,.int .i64 b,.int .i64 d],true])/\Below w w ah)
  obtain⟨nb,off,rfl,eN,aN⟩:=bB Wn
  have g0:=aN 0 _ rfl 0 _ rfl;have g1:=aN 1 _ rfl 0 _ rfl;have g2:=aN 2 _ rfl 0 _ rfl
  simp only [Xw,Xy,XW] at g0 g1 g2
  clear aN
  go_in
  go_upto_region 1 with fail
  refine dh λaO ar J=>?_
  have U:=ar;have af:=J.cX;replace g0:=(U.cell (p:=⟨nb,_,none⟩) eN).trans g0;replace g1:=(U.cell (p:=⟨nb,_,none⟩) eN).trans g1;replace g2:=(U.cell (p:=⟨nb,_,none⟩) eN).trans g2;have zl:nb < aO.heap.size:=YW eN U.size
  go_upto_region 15 with fail
  have u0:=λK:aD aO aO=>(K.cell (p:=⟨nb,_,none⟩) zl).trans g0
  have u1:=λK:aD aO aO=>(K.cell (p:=⟨nb,_,none⟩) zl).trans g1
  have u2:=λK:aD aO aO=>(K.cell (p:=⟨nb,_,none⟩) zl).trans g2
  clear g0 g1 g2;replace af:=ay.Vb (λK:aD aO aO=>(J.ad K.ad J.lt))
  refine Pf 11 PV PV ?_
  change wpQuiet _ _ _ _ (_ ::_ ::_ ::_ ::_ ::_ ::_ ::_ ::_ ::_ ::_ ::[]) _
  repeat (go_big_quiet_step ((fail)))
  refine VF ?_
  intro K
  refine aHs ?_
  have aj:Below aO aO K.world:=ai ao K.ad;replace U:=ai U aj;replace J:=J.to aj;replace af:=J.cX;have eg:=J.wL
  go_wp2
  clear af
  refine xr 0 λcP aE=>?_
  replace U:=aE.aN U;replace J:=aE.wy J;have af:=J.cX
  refine XY (v:= .tuple #[.agg #[(7:Int),(0:Int),(0:Int),.int .i64 a,.int .i64 b,.int .i64 d],true]) Yl rfl ?_
  exact⟨rfl,U⟩
 .clear aT
  show Calls _ _ _ _ (λe ah=>e= .returned (.tuple #[.agg #[(0:Int),(0:Int),(0:Int),(0:Int),(0:Int),(0:Int)],false])/\Below w w ah)
  clear bB
  go_in
  go_upto_region 1 with fail
  refine dh λaO ar J=>?_
  have U:=ar;have af:=J.cX;have eg:=J.wL
  go_wp2
  clear af
  refine xr 0 λcP aE=>?_
  replace U:=aE.aN U;replace J:=aE.wy J;have af:=J.cX
  refine XY (v:= .tuple #[.agg #[(0:Int),(0:Int),(0:Int),(0:Int),(0:Int),(0:Int)],false]) Yl rfl ?_
  exact⟨rfl,U⟩
theorem axU {b:Bool} {t:VU} (w:World):Rd 181 #[b,s,t] w λe ah=>e= .returned (.string (if b then s else t))/\ah= w:=by
 cases b
 all_goals
  go_in
  go_wp2
  go_ret
  exact⟨rfl,rfl⟩
theorem ape (rs:List aM) (qs:List aZ) (tu se sp:Int) (ws:List Int) (ae:List aW) (os:List Out) (bN:QR) (d0:Nat) (bZ:QR) (d1:Nat) (aU:QR) (d2:Nat) (bd:QR) (d3:Nat) (bI:QR) (d4:Nat) (a:pJ) (aP:-999999<=sp/\sp<=999999) (dn:a.kind= 7->0 < os.length) (bq:os) (w:World) (cD:aX 3 Out.cells w bI os) (bX:jV w):
 Rd 104 #[.agg #[bN rs d0,bZ qs d1,tu,se,sp,aU ws d2,bd ae d3,bI os d4],.agg #[a.kind,a.mem,a.val,a.yes,a.no,a.bR]] w λe ah=>e= .returned (.string (tb ⟨rs,qs,tu,se,sp,ws,ae,os⟩ a.kind))/\Below w w ah:=by
 obtain⟨Cj,am,aCE,aCF,an,aa⟩:=a
 simp only at dn ⊢
 by_cases h4:Cj= 4
 .have e:tb ⟨rs,qs,tu,se,sp,ws,ae,os⟩ Cj= eW sp:=by rw [tb,XX h4]
  rw [e]
  have Cv:(Cj == 4)= true:=Xx.2 h4;clear e h4 dn cD
  go_in
  go_upto_region 1 with fail
  refine fU λaO ar aC bl=>?_
  replace bX:=bX.ad ar;have U:=ar;have dI:=aC.aH;have bE:=bl.cX
  go_wp2_with fail
  refine (Bl sp KK KK _ (bX.ad ao)).mono ?_
  rintro e aI ⟨rfl,aQ⟩
  have aj:=be aO aQ;replace U:=ai U aj;clear dI;clear bE
  go_wp2
  go_ret
  exact⟨rfl,(ai U ao)⟩
 .have Cv:(Cj == 4)= false:=Xb.2 h4
  by_cases h7:Cj= 7
  .have zx:=dn h7
   obtain⟨j,cc⟩ :∃j,j + 1= os.length:=⟨os.length - 1,by omega⟩
   obtain⟨o,av⟩ :∃o,os[j]? =some o:=⟨_,Xj KK⟩
   have e:tb ⟨rs,qs,tu,se,sp,ws,ae,os⟩ Cj= if o.jv then (⟨#[97,100,111,112,116,101,100]⟩ :VU) else (⟨#[108,111,115,116]⟩ :VU):=by rw [tb,XU h4,XX h7];simp only [Ob,<- cc,Nat.add_sub_cancel,av]
   rw [e]
   have arL:(Cj == 7)= true:=Xx.2 h7
   obtain⟨nb,off,oC,rfl,eN,nx,bO⟩:=cD.at_ (Wt _ _) (k:=j) KK
   obtain rfl:o= oC:=Wx (av.symm.trans nx)
   have g2:=bO 2 _ rfl (aD.self _)
   simp only [aD.self] at g2
   obtain⟨yb,ni⟩ :∃b,o.jv= b:=⟨_,rfl⟩
   rw [ni] at g2 ⊢
   replace eN:=I eN;have aG:=I g2;clear e h4 h7 dn cD bX bO av nx g2 ni
   cases yb
   all_goals
    go_in
    go_upto_region 1 with fail
    refine fU λaO ar aC bl=>?_
    have U:=ar;have dI:=aC.aH;have bE:=bl.cX;have g2:=(U.cell (p:=⟨nb,_,none⟩) eN.o).trans aG.o
    have GM:((os.length:Int) - 1)= (j:Int):=KK
    have iy:j < os.length:=KK
    clear cc;have jt:=aC.lt;have aIy:=bl.lt
    go_wp2_with fail
    refine (axU _).mono ?_
    rintro e bm ⟨rfl,rfl⟩
    go_wp2
    go_ret
    exact⟨rfl,(ai U ao)⟩
  .have e:tb ⟨rs,qs,tu,se,sp,ws,ae,os⟩ Cj= (⟨#[111,107]⟩ :VU):=by rw [tb,XU h4,XU h7]
   rw [e]
   have arL:(Cj == 7)= false:=Xb.2 h7;clear e h4 h7 dn cD bX
   go_in
   go_upto_region 1 with fail
   refine fU λaO ar aC bl=>?_
   have U:=ar;have bE:=bl.cX
   go_wp2
   go_ret
   exact⟨rfl,(ai U ao)⟩
theorem aia (h:gf s= true):Go.Proofs.YtlaaemmmbodaaaaGreatDoor.qZ s= .tuple #[.int .i64 (jh s.data.toList),true]:=by rw [Go.Proofs.YtlaaemmmbodaaaaGreatDoor.qZ,XX h]
theorem ahZ (h:gf s= false):Go.Proofs.YtlaaemmmbodaaaaGreatDoor.qZ s= .tuple #[(0:Int),false]:=by rw [Go.Proofs.YtlaaemmmbodaaaaGreatDoor.qZ,XU (by simp [h])]
theorem anx (h:u:=by
 have ha:nF rs pt ws= none:=by
  rw [nF,XX hlen.o]
  have e:=OE qO (ws.length - (k + 1))
  rwa [show k + 1 + (ws.length - (k + 1))= ws.length by omega] at e
 have gj:=I ha;clear qO ha
 go_wp2
 go_ret2
 exact⟨[],false,none,0,rfl,I (by rw [gj.o];rfl),bn.nil,aay⟩):u:=h
theorem aif (aq:QR) (c0:Nat) (rs:List aM) (h0:rs) (ev:rs.length<=c0) (az:jR rs= true) (pt:VU) (A:QR) (c:Nat) (ws:List ByteArray) (bq:ws.length<=1000) (cF:∀x ∈ ws,x.size<=1000) (w:World) (bk:aX 7 aM.cells w aq rs) (Mc:aX 1 hh w A ws) (bX:ob w):
 Rd 100 #[aq rs c0,pt,A ws c] w λe ah=>∃(l:List Int) (b:Bool) (D:QR) (d:Nat),e= .returned (.tuple #[D l d,b])/\Hid (nF rs pt ws= if b= true then some l else none)/\bn w 3 1 cE ah (D l d) l/\Below w w ah:=by
 obtain⟨i0,bo,dP,dZ,dV⟩:=Xo vK
 by_cases hlen:ws.length= pt.size
 .have ew:((ws.length:Int) != (pt.size:Int))= false:=by rw [hlen];simp
  refine Dd ?_ hlen az cF bX bk;clear hlen az cF bX bk;intro hlen az cF bX bk;have iM:=bn.made (f:=cE) (sz:=1) w (B:=w) (XZ _) 3
  go_in
  go_wp2
  go_loopw [8,23] (λy i wr=>∃(k:Nat) (l:List Int),k<=ws.length/\i= .int .i64 k/\qp rs pt.data.toList ws k= some l/\bn w 3 1 cE wr y l/\Below w w wr) (λ_ i _=>ws.length - (intOf i).toNat)
  case atStart=>exact⟨0,[],Xd _,rfl,rfl,iM,bP _ _⟩
  case round=>
   obtain⟨k,l,ax,rfl,bu,aV,aB⟩:=hrel
   have nJ:Hid (l.length= k):=I (aFz bu);replace bu:=I bu;replace aV:=I aV
   by_cases bC:k < ws.length
   .obtain⟨eV,iA,x,rfl,eN,av,bO⟩:=Mc.at_ aB bC
    have afB:=cF.o x (YE av);have cG:=bO 0 _ rfl
    simp only [XW] at cG
    have g0:=cG (aD.self _)
    simp only [aD.self] at g0
    simp only [Xw] at g0
    have ats:k < pt.size:=by have:=hlen.o;omega
    have fh:=I (acm pt ats);replace av:=I av;clear bO cG
    by_cases aS:pt[k]= 110
    .have atO:((pt[k].toNat:Int) == 110)= true:=by rw [aS];rfl
     have LB:=I aS;clear aS
     cases EN:gf x
     .have kA:=I (afQ x Xz wr (bX.o.t.ad aB) (bX.o.e.ad aB))
      rw [ahZ EN] at kA
      have Ue:=I EN;clear EN
      go_wp2_with fail
      refine kA.o.mono ?_
      rintro e bm ⟨rfl,bD⟩
      have aay:=ai aB bD
      have qO:qp rs pt.data.toList ws (k + 1)= none:=by rw [Bt bu.o fh.o av.o,vR];rw [XX LB.o,Ue.o];rfl
      exact anx
     .have kA:=I (afQ x Xz wr (bX.o.t.ad aB) (bX.o.e.ad aB))
      rw [aia EN] at kA
      have Ue:=I EN;clear EN
      go_wp2_with fail
      refine kA.o.mono ?_
      rintro e bm ⟨rfl,bD⟩
      have aQ:=ai aB bD;have Ws:=bD;clear g0;have iR:=aV.o.aK Ws
      have qO:qp rs pt.data.toList ws (k + 1)= some (l ++ [jh x.data.toList]):=by rw [Bt bu.o fh.o av.o,vR];rw [XX LB.o,Ue.o];rfl
      have gj:=I qO;clear qO
      go_wp2_with (at_builtin;refine ke rfl _ _ 38 rfl w 3 i0 _ 1 8 Tryz.underlying38 bo dP dZ dV rfl WG cE fR qU _ (l) rfl (iR.alloc _) ⟨bm,0,none⟩ 1 (jh x.data.toList) rfl (aX.one _ _) Yy Yz Ym ?_;intro v4 bH fb ed mx)
      have fm:Below w w bH:=(aQ.alloc aQ.size _).grown ed Ym (λq bt=>(iR.lt q bt).1)
      go_roundw
      case rel=>exact⟨k + 1,l ++ [jh x.data.toList],by omega,by go_num,gj.o,fb,fm⟩
      case measure=>simp [intOf];omega
    .have atO:((pt[k].toNat:Int) == 110)= false:=by
      rw [Xb]
      intro e
      exact aS (UInt8.toNat_inj.1 (by have:(110:UInt8).toNat= 110:=rfl;omega))
     have LB:=I aS;clear aS
     cases hf:yS rs x with
     | none=>
      have kA:=I (afJ aq c0 rs h0 ev az.o x none hf wr (bk.o.ad aB));have fP:=I hf;clear hf
      simp only [Du,ZB] at kA
      go_wp2_with fail
      refine kA.o.mono ?_
      rintro e bm ⟨rfl,bD⟩
      have aay:Below w w (bm.alloc (.cells #[(0:Int),.string ⟨#[]⟩,(0:Int),false,false,false,(0:Int)] 89)):=(ai aB bD).alloc (ai aB bD).size _
      have qO:qp rs pt.data.toList ws (k + 1)= none:=by rw [Bt bu.o fh.o av.o,vR];rw [XU LB.o,fP.o];rfl
      exact anx
     | some r=>
      obtain⟨id,nm,rk,se,gQ,am,dz,aP⟩:=r
      have kA:=I (afJ aq c0 rs h0 ev az.o x _ hf wr (bk.o.ad aB));have fP:=I hf;clear hf
      simp only [Du,Yw] at kA
      go_wp2_with fail
      refine kA.o.mono ?_
      rintro e bm ⟨rfl,bD⟩
      go_upto_region 11 with fail
      refine Xi λgH YH bz=>?_;have aeq:=ai bD YH
      have cA:=(bz.cell 0).trans (show _= some (.int .i64 id) from rfl);have aQ:=ai aB aeq;have Ws:=aeq;clear g0;have iR:=aV.o.aK Ws
      have qO:qp rs pt.data.toList ws (k + 1)= some (l ++ [id]):=by rw [Bt bu.o fh.o av.o,vR];rw [XU LB.o,fP.o];rfl
      have gj:=I qO;clear qO
      go_wp2_with (at_builtin;refine ke rfl _ _ 38 rfl w 3 i0 _ 1 8 Tryz.underlying38 bo dP dZ dV rfl WG cE fR qU _ (l) rfl (iR.alloc _) ⟨gH,0,none⟩ 1 (id) rfl (aX.one _ _) Yy Yz Ym ?_;intro v4 bH fb ed mx)
      have fm:Below w w bH:=(aQ.alloc aQ.size _).grown ed Ym (λq bt=>(iR.lt q bt).1)
      go_roundw
      case rel=>exact⟨k + 1,l ++ [id],by omega,by go_num,gj.o,fb,fm⟩
      case measure=>simp [intOf];omega
   .obtain rfl:k= ws.length:=KK
    have lr:=aV.o
    obtain⟨Y,iC,rfl,_,_,_⟩:=lr.form fR
    replace lr:=I lr
    go_wp2
    go_ret2
    exact⟨l,true,Y,iC,rfl,I (by rw [nF,XX hlen.o,bu.o];rfl),lr.o,aB⟩
 .have ew:((ws.length:Int) != (pt.size:Int))= true:=by rw [bne_iff_ne];omega
  replace hlen:=I hlen;clear az cF bX bk Mc
  go_in
  go_wp2
  go_ret2
  exact⟨[],false,none,0,rfl,I (by rw [nF,XU hlen.o];rfl),bn.nil,Wt _ _⟩
theorem ahL {q:aZ} {r:aM} (bt:qs[k]? =some q) (bu:jb rs q.rule= some r):(qs.take (k + 1)).map (nE rs)= (qs.take k).map (nE rs) ++ [r.name]:=by rw [List.take_add_one,bt];simp [nE,ahr bu]
theorem take_len {T uf:Type} {xs:List T} {f:T->uf} (h:k<=xs.length):((xs.take k).map f).length= k:=by rw [YZ,YA];omega
theorem anG (h:u:=by
 have fm:Below w w bH:=(aQ.alloc aQ.size _).grown ed Ym (λq bt=>(iR.lt q bt).1)
 go_roundw
 case rel=>exact⟨k + 1,by omega,by go_num,by rw [gj.o];exact fb,fm⟩
 case measure=>simp [intOf];omega):u:=h
theorem akA (h:u:=by
 obtain rfl:k= qs.length:=KK
 have lr:=aV.o
 rw [Yh] at lr
 obtain⟨Y,iC,rfl,_,_,_⟩:=lr.form jP
 replace lr:=I lr
 go_wp2
 go_ret2
 exact⟨Y,iC,rfl,lr.o,aB⟩):u:=h
theorem avB (aq:QR) (c0:Nat) (rs:List aM) (h0:rs) (ev:rs.length<=c0) (au:QR) (aw:Nat) (qs:List aZ) (h1:qs) (aS:ee rs qs= true) (w:World) (bk:aX 7 aM.cells w aq rs) (bg:aX 3 aZ.cells w au qs):
 Rd 170 #[aq rs c0,au qs aw] w λe ah=>∃D d,e= .returned (.tuple #[.slice D (qs.map (nE rs)).length d,true])/\bn w 9 1 hh ah (.slice D (qs.map (nE rs)).length d) (qs.map (nE rs))/\Below w w ah:=by
 obtain⟨i0,bo,dP,dZ,dV⟩:=Xo Da
 replace aS:=I aS;replace bk:=I bk;replace bg:=I bg
 go_in
 go_wp2_with fail
 refine (qh aq c0 rs h0 ev au aw qs h1 _ aS.o _ bk.o bg.o).mono ?_
 rintro e wp ⟨rfl,GG⟩
 have iM:=bn.made (f:=hh) (sz:=1) wp (B:=w) GG.size 9
 go_wp2
 go_loopw [6,16] (λy i wr=>∃k:Nat,k<=qs.length/\i= .int .i64 k/\bn w 9 1 hh wr y ((qs.take k).map (nE rs))/\Below w w wr) (λ_ i _=>qs.length - (intOf i).toNat)
 case atStart=>exact⟨0,Xd _,rfl,iM,GG.alloc GG.size _⟩
 case round=>
  obtain⟨k,ax,rfl,aV,aB⟩:=hrel
  have nJ:Hid (((qs.take k).map (nE rs)).length= k):=I (take_len ax);replace aV:=I aV;clear iM;have WR:=(mS aS.o).2.1
  by_cases bC:k < qs.length
  .obtain⟨eV,iA,⟨qr,cQ,ei⟩,rfl,eN,bt,hO⟩:=bg.o.at_ aB bC
   obtain⟨r,bu⟩:=pB aS.o bt
   have gj:=I (ahL bt bu)
   obtain⟨id,nm,rk,se,gQ,am,dz,aP⟩:=r
   have rM:=I bu;have cG:=hO 0 _ rfl;have dJ:=hO 1 _ rfl;have dt:=hO 2 _ rfl
   simp only [XW] at cG
   have g0:=cG (aD.self _);have g1:=dJ (aD.self _);have g2:=dt (aD.self _)
   simp only [aD.self] at g0
   simp only [aD.self] at g1
   simp only [aD.self] at g2
   clear hO cG dJ dt bt bu
   go_upto_region 7 with fail
   have eA:=ay.new wr 115 #[qr,cQ,ei];have hW:=aB.alloc aB.size (.cells #[qr,cQ,ei] 115);have uA:=aV.o.alloc (.cells #[qr,cQ,ei] 115)
   generalize wr.alloc (.cells #[qr,cQ,ei] 115)= gH at *
   clear g0 g1 g2;have fJ:=eA.cb
   have wT:∀W:World,(Instr.field 89 (.agg #[id,nm,rk,se,gQ,am,dz]) 1).run Tryz.prog W= .ok (.string nm) W:=λ_=>by kernel_rfl
   replace uA:=I uA
   go_wp2_with fail
   refine (tQ h0 ⟨qr,cQ,ei⟩ ⟨id,nm,rk,se,gQ,am,dz,aP⟩ rM.o (bk.o.ad hW)).mono ?_
   rintro e bm ⟨rfl,bD⟩
   have aQ:=ai hW bD;have iR:=uA.o.aK bD;clear fJ eA
   go_wp2_with (at_builtin;refine ke rfl _ _ 57 rfl w 9 i0 _ 1 16 Tryz.underlying57 bo dP dZ dV rfl WG hh jP Gi _ ((qs.take k).map (nE rs)) rfl (iR.alloc _) ⟨bm,0,none⟩ 1 (nm) rfl (aX.one _ _) Yy Yz Ym ?_;intro v4 bH fb ed mx)
   exact anG
  .exact akA
theorem aAm (aq:QR) (c0:Nat) (rs:List aM) (h0:rs) (au:QR) (aw:Nat) (qs:List aZ) (h1:qs) (aS:ee rs qs= true) (w:World) (bk:aX 7 aM.cells w aq rs) (bg:aX 3 aZ.cells w au qs):
 Rd 188 #[aq rs c0,au qs aw] w λe ah=>∃D d,e= .returned (.tuple #[.slice D (qs.map (nE rs)).length d,true])/\bn w 9 1 hh ah (.slice D (qs.map (nE rs)).length d) (qs.map (nE rs))/\Below w w ah:=by
 obtain⟨i0,bo,dP,dZ,dV⟩:=Xo Da
 replace aS:=I aS;replace bk:=I bk;replace bg:=I bg;have iM:=bn.made (f:=hh) (sz:=1) w (B:=w) (XZ _) 9;have po:Below w w (w.alloc (.cells #[] 9)):=bP _ _
 go_in
 go_upto_region 2 with fail
 generalize w.alloc (.cells #[] 9)= aIs at *
 replace iM:=I iM
 go_wp2_with fail
 refine (nz aq c0 rs h0 au aw qs h1 _ aS.o _ (bk.o.ad po) (bg.o.ad po)).mono ?_
 rintro e wp ⟨rfl,GG⟩
 have AW:=ai po GG;have iR:=iM.o.aK GG
 go_wp2
 go_loopw [6,7] (λy i wr=>∃k:Nat,k<=qs.length/\i= .int .i64 k/\bn w 9 1 hh wr y ((qs.take k).map (nE rs))/\Below w w wr) (λ_ i _=>qs.length - (intOf i).toNat)
 case atStart=>exact⟨0,Xd _,rfl,iR,AW⟩
 case round=>
  obtain⟨k,ax,rfl,aV,aB⟩:=hrel
  have nJ:Hid (((qs.take k).map (nE rs)).length= k):=I (take_len ax);replace aV:=I aV;clear iR;have WR:=(mS aS.o).2.1
  by_cases bC:k < qs.length
  .obtain⟨eV,iA,⟨qr,cQ,ei⟩,rfl,eN,bt,hO⟩:=bg.o.at_ aB bC
   obtain⟨r,bu⟩:=pB aS.o bt
   have gj:=I (ahL bt bu)
   obtain⟨j,cc,zy⟩:=uM bu
   have iy:j < rs.length:=(Xg.1 zy).1
   obtain⟨gB,vM,hr,rfl,aes,sQ,nv⟩:=bk.o.at_ aB iy
   obtain rfl:r= hr:=Wx (zy.symm.trans sQ)
   obtain⟨id,nm,rk,se,gQ,am,dz,aP⟩:=r
   have fT:=I cc;have cG:=hO 0 _ rfl (aD.self _);have f1:=nv 1 _ rfl (aD.self _)
   simp only [XW,aD.self] at cG f1
   clear hO bt bu nv sQ zy cc
   go_wp2_with fail
   refine (xW h0 _ fT.o (bk.o.ad aB)).mono ?_
   rintro e w0 ⟨rfl,adH⟩
   rw [adH]
   clear adH w0;have aQ:=aB;have iR:=aV.o
   go_wp2_with (at_builtin;refine ke rfl _ _ 57 rfl w 9 i0 _ 1 16 Tryz.underlying57 bo dP dZ dV rfl WG hh jP Gi _ ((qs.take k).map (nE rs)) rfl (iR.alloc _) ⟨wr,0,none⟩ 1 (nm) rfl (aX.one _ _) Yy Yz Ym ?_;intro v4 bH fb ed mx)
   exact anG
  .exact akA
theorem sf {T:Type} {f:T->List Value} {w:World} {v:Value} {xs:List T} (h:bn B e sz f w v xs) (bq:0 < xs.length):∃g c,v= .slice (some ⟨g,0,none⟩) xs c:=by
 obtain⟨_,h⟩:=h
 rcases h with ⟨_,h0⟩ | ⟨g,cap,_,h,_⟩
 .omega
 .exact⟨g,cap,h⟩
theorem ji (x:aM):(aM.cells x).length= 7:=rfl
theorem OJ (x:aM):∀u ∈ aM.cells x,u.oneCell'= true:=by
 exact alo
theorem apf (lx lo:Nat) (lc:Nat) (xs:List aM) (av:xs.length<=1000) (ax:xs.length<=lc) (id:Int) (nm:VU) (rk:Int) (dT hq am:Bool) (dz:Int) (fo:nm.size<=maxLen) (w:World) (R:aX 7 aM.cells w (some ⟨lx,lo,none⟩) xs):
 Rd 210 #[.slice (some ⟨lx,lo,none⟩) xs lc,.agg #[id,nm,rk,dT,hq,am,dz]] w λe ah=>∃(ys:List aM) (g y:Nat) (v:Bool),e= .returned (.tuple #[.slice (some ⟨g,0,none⟩) ys y,v])/\ys.length<=xs.length + 1/\(∀t ∈ ys,t.name= nm\/t ∈ xs)/\bn w 89 7 aM.cells ah (.slice (some ⟨g,0,none⟩) ys y) ys/\Below w w ah:=by
 obtain⟨i0,bo,dP,dZ,dV⟩:=Xo JK
 replace R:=I R
 cases cy:jR xs
 .replace cy:=I cy
  go_in
  go_upto_region 1 with fail
  refine dh λaO ar bz=>?_
  have U:=ar
  have kz:=bz.ij
  go_wp2_with fail
  refine (zO KK _ cy.o (R.o.ad (ai U ao))).mono ?_
  rintro e aI ⟨rfl,aQ⟩
  have aj:=be aO aQ;replace U:=ai U aj;replace bz:=bz.to aj
  replace kz:=bz.ij
  have vX:=U.size
  go_wp2
  go_ret2
  exact⟨[],_,0,false,rfl,by simp,by simp,(bn.made aI (XZ _) _).base vX,ai U (bP _ _)⟩
 .replace cy:=I cy
  go_in
  go_upto_region 1 with fail
  refine dh λaO ar bz=>?_
  have U:=ar
  have kz:=bz.ij
  go_wp2_with fail
  refine (zO KK _ cy.o (R.o.ad (ai U ao))).mono ?_
  rintro e aI ⟨rfl,aQ⟩
  have aj:=be aO aQ;replace U:=ai U aj;replace bz:=bz.to aj
  replace kz:=bz.ij
  have vX:=U.size;have ve:=I bz;have qv:=I U;clear bz kz
  go_wp2
  go_loopw [6] (λi wr=>∃k:Nat,k<=xs.length/\i= .int .i64 k/\Below aI aI wr) (λi _=>xs.length - (intOf i).toNat)
  case atStart=>exact⟨0,Xd _,rfl,Wt _ _⟩
  case round=>
   obtain⟨k,nw,rfl,aB⟩:=hrel
   have En:=ve.o.ad aB ve.o.lt
   have c0:=λK:aD wr wr=>((En.ad K.ad En.lt).cell 0).trans (show _= some (.int .i64 id) from rfl)
   have eN:Below w w wr:=ai qv.o aB
   rcases (show (∃x,xs[k]? =some x/\x.id < id)\/(∃x,xs[k]? =some x/\¬x.id < id)\/k= xs.length by
    by_cases bC:k < xs.length
    .by_cases h:(xs[k]).id < id
     .exact .inl ⟨_,Xj bC,h⟩
     .exact .inr (.inl ⟨_,Xj bC,h⟩)
    .exact .inr (.inr KK)) with ⟨x,xV,hm⟩ | ⟨x,xV,hm⟩ | Rk
   case' inl=>
    have bC:k < xs.length:=(Xg.1 xV).1;have uI:decide ((k:Int) < (xs.length:Int))= true:=Xh KK
    have cA:=λK:aD wr wr=>xl (R.o.ad (ai eN K.ad)) xV (i:=0) (u:= .int .i64 x.id) rfl
    simp only [XW] at cA
    have Ba:decide (x.id < id)= true:=Xh hm;clear xV
    go_wp2
    refine eQ PV PV ?_
    repeat (go_big_quiet_step ((fail)))
    refine VF ?_
    intro K
    clear c0 cA En
    go_wp2
    go_roundw
    case rel=>exact⟨k + 1,by omega,by go_num,ai aB K.ad⟩
    case measure=>simp [intOf];omega
   case' inr.inl=>
    have bC:k < xs.length:=(Xg.1 xV).1;have uI:decide ((k:Int) < (xs.length:Int))= true:=Xh KK
    have cA:=λK:aD wr wr=>xl (R.o.ad (ai eN K.ad)) xV (i:=0) (u:= .int .i64 x.id) rfl
    simp only [XW] at cA
    have Ba:decide (x.id < id)= false:=Xe hm;clear xV
    go_wp2
    refine eQ PV PV ?_
    repeat (go_big_quiet_step ((fail)))
    refine VF ?_
    intro K
    clear c0 cA En Ba uI bC hm
    go_upto_region 6 with fail
   case' inr.inr=>
    have uI:decide ((k:Int) < (xs.length:Int))= false:=Xe KK
    have oO:¬k < xs.length:=KK
    clear Rk
    go_wp2
    refine eQ PV PV ?_
    repeat (go_big_quiet_step ((fail)))
    refine VF ?_
    intro K
    clear c0 En uI oO
    go_upto_region 6 with fail
   all_goals
    have U:=ai eN K.ad;have bz:=ve.o.ad (ai aB K.ad) ve.o.lt;clear eN aB ve qv
    generalize K.world= gH at *
    have aIc:=U.size
    have EG:k<=lc:=KK
    have lF:Hid ((xs.take k).length= k):=I ZH;have oe:Hid ((xs.drop k).length= xs.length - k):=I (by rw [YQ]);have sw:Hid (aX 7 aM.cells w (some ⟨lx,lo,none⟩) (xs.take k)):=I (HM R.o k)
    have rM:Hid (aX 7 aM.cells w (if lc= k then (some ⟨lx,lo,none⟩ :QR) else some ⟨lx,lo + k * 7,none⟩) (xs.drop k)):=I (by
     split
     .rw [List.drop_of_length_le KK];exact aX.nil
     .exact Ki R.o k)
    have kz:=bz.ij
    obtain⟨Fw,ux⟩ :∃X:World->Prop,∀V,X V↔(Below w w V/\ay V w 89 #[id,nm,rk,dT,hq,am,dz]):=⟨_,λ_=>Xt⟩
    replace ux:=I ux
    haveI:Nonempty (cM Fw):=⟨⟨gH,((ux.o _).2 ⟨U,bz⟩)⟩⟩
    replace kz:=ay.aqf (λK:cM Fw=>((ux.o _).1 K.holds).2)
    refine Ia (oU 89 7 aM.cells 4 6 xs k #[id,nm,rk,dT,hq,am,dz]) Fw [([],0),([1,2,3],4),([5],6)] [8,9,10] [([],[],7,false),([],[],11,true)] [] [12] PV PV ((ux.o _).2 ⟨U.drew,bz⟩) (λW fz h k=>((ux.o _).2 ⟨((ux.o _).1 h).1.trans (k.mono ((ux.o _).1 h).1.size),((ux.o _).1 h).2.ad k ((ux.o _).1 h).2.lt⟩)) ?_
    intro bA
    refine iP (some 28) rfl (.slice (bA 0).1 0 0) rfl λhE eu=>?_
    refine Xn ?_
    refine VF ?_
    refine⟨λhi fQ=>?_,eu _ ?_⟩
    .refine XV ?_
     go_wp2
     first | exact hz ⟨(some ⟨hi.world,0,none⟩,0),rfl,bP _ _,by simp [oU];exact ay.new _ _ _⟩ | exact hz ⟨some ⟨hi.world,0,none⟩,0,rfl,bP _ _,by simp [oU];exact ay.new _ _ _⟩
    simp only [Act.put]
    go_simp
    refine iP (some 32) rfl (.slice (bA 4).1 k (bA 4).2) rfl λhE eu=>?_
    refine YI ?_
    repeat go_big_quiet_step (fail)
    refine VF ?_
    refine⟨λhi fQ=>?_,eu _ ?_⟩
    .refine XV ?_
     obtain⟨gZ,uf,pn,Ey,ld⟩:=fQ 0 (by simp [oU])
     obtain⟨lJ,lb⟩:=Ey.1 rfl
     have jG:=lb.to ld;have iN:(bA 0).1= some ⟨gZ,0,none⟩:=lJ;have pa:=I (sw.o.ad ((ux.o _).1 hi.holds).1);replace jG:=I jG;clear lb lJ pn ld Ey fQ
     rw [iN]
     replace iN:=I iN
     go_wp2_with ((at_builtin;refine va rfl _ _ 29 rfl gZ 89 i0 _ 7 48 Tryz.underlying29 bo dP dZ dV rfl WG aM.cells ji OJ gZ rfl jG.o (XZ _) (some ⟨lx,lo,none⟩) lc (xs.take k) k lF.o.symm rfl pa.o (λh=>by cases h) ZU ZV ?_;intro bS dq ah fW fM))
     first | exact hz ⟨(some ⟨bS,0,none⟩,dq),rfl,fM,by simp [oU],λ_=>⟨gZ,bS,iN.o,rfl,fW⟩,by simp [oU]⟩ | exact hz ⟨some ⟨bS,0,none⟩,dq,rfl,fM,by simp [oU],λ_=>⟨gZ,bS,iN.o,rfl,fW⟩,by simp [oU]⟩
    simp only [Act.put]
    go_simp
    refine iP (some 34) rfl (.slice (bA 6).1 1 1) rfl λhE eu=>?_
    refine Xp ?_
    repeat go_big_quiet_step (fail)
    refine VF ?_
    refine⟨λhi fQ=>?_,eu _ ?_⟩
    .refine XV ?_
     go_wp2
     first | exact hz ⟨(some ⟨hi.world,0,none⟩,0),rfl,bP _ _,by simp [oU],by simp [oU],λ_=>⟨hi.world,rfl,rfl,ay.new _ _ _⟩⟩ | exact hz ⟨some ⟨hi.world,0,none⟩,0,rfl,bP _ _,by simp [oU],by simp [oU],λ_=>⟨hi.world,rfl,rfl,ay.new _ _ _⟩⟩
    simp only [Act.put]
    go_simp
    refine tU ?_
    refine YI ?_
    repeat go_big_quiet_step (fail)
    refine VF ?_
    intro dy V W aC cv
    have ub:Hid ((if lc= k then (some ⟨lx,lo,none⟩ :QR) else some ⟨lx,lo + k * 7,none⟩)= none->xs.drop k= []/\lc - k= 0):=I (λh=>by split at h <;> cases h)
    generalize (if lc= k then (some ⟨lx,lo,none⟩ :QR) else some ⟨lx,lo + k * 7,none⟩)= Ec at *
    obtain⟨g0,g5,e0,e5,sg⟩ :∃g bS,(bA 0).1= some ⟨g,0,none⟩/\(bA 4).1= some ⟨bS,0,none⟩/\bn g 89 7 aM.cells (V 4) (.slice (bA 4).1 (xs.take k).length (bA 4).2) (xs.take k):=(aC.post 4 Wn).2.1 rfl
    obtain⟨a0,_⟩ :(bA 0).1= some ⟨(dy 0),0,none⟩/\ay (V 0) (dy 0) 89 #[]:=(aC.post 0 Wn).1 rfl
    obtain⟨g7,e7,u7,sX⟩ :∃g,(bA 6).1= some ⟨g,0,none⟩/\(dy 6).heap.size= g/\ay (V 6) g 89 #[id,nm,rk,dT,hq,am,dz]:=(aC.post 6 Wn).2.2 rfl
    have t0:(dy 0).heap.size= g0:=by rw [a0] at e0;exact Xc Addr.block (Wx e0)
    have hd:=(sg.aK (aC.aK 4 Wn)).base (B':=gH) Zk;have ur:=sX.ad (aC.aK 6 Wn) sX.lt;have wZ:Below gH gH W:=(aC.whole 4 Wn).rI;have fg:=ai U wZ;have aob:=I (bz.to wZ);have adN:=bz.lt;clear aC sg sX a0 e0 t0 u7 cv
    generalize bA 4= nD at *
    generalize bA 6= HF at *
    obtain⟨Pl,d5⟩:=nD
    obtain⟨Pm,d7⟩:=HF
    simp only at hd e5 e7
    subst e5
    subst e7
    rw [lF.o] at hd
    have tp:Hid (aX 7 aM.cells W (some ⟨g7,0,none⟩) [(⟨id,nm,rk,dT,hq,am,dz,fo⟩ :aM)]):=I (λ_=>⟨g7,0,rfl,ur.lt,λi y hy j u hu=>by
     have h0:i= 0:=by have:=(Xg.1 hy).1;simp at this;omega
     subst h0;simp at hy;subst hy
     rw [Xy,YF]
     exact (ur.cell _).trans (by simpa [aM.cells] using hu)⟩)
    have OX:=fg.size;have Dz:=wZ.size;have TX:Hid (bn gH 89 7 aM.cells W (g5 k d5) (xs.take k)):=I hd;have WB:=hd.lt g5 rfl;have BW:=I (rM.o.ad fg);replace wZ:=I wZ;have FG:=I fg;clear ur bz hd U fg kz
    haveI:Nonempty (cM (λ_=>True)):=⟨⟨w,trivial⟩⟩
    refine jj λff da=>?_
    refine VF ?_
    refine VF ?_
    refine XV ?_
    go_wp2_with ((at_builtin;refine ke rfl _ _ 29 rfl gH 89 i0 _ 7 48 Tryz.underlying29 bo dP dZ dV rfl WG aM.cells ji OJ _ (xs.take k) rfl TX.o ⟨g7,0,none⟩ 1 (⟨id,nm,rk,dT,hq,am,dz,fo⟩ :aM) rfl tp.o ZU ZV KK ?_;intro KE du nT gy Wo;clear Wo;obtain⟨aoZ,aCi,rfl,q1,gM,nn⟩:=nT.form ji;clear q1 gM nn;have lZ:(xs.take k ++ [(⟨id,nm,rk,dT,hq,am,dz,fo⟩ :aM)]).length= k + 1:=(by rw [Xu,lF.o];rfl);rw [lZ] at nT;clear lZ))
    have xz:Below w w du:=FG.o.grown gy OX (λq bt=>by have h9:g5= q:=Wx bt;omega);have yk:=xz.size;have Et:=ux.o du |>.2 ⟨xz,aob.o.jE gy (λe=>by have h9:w.heap.size= g5:=Wx e;omega)⟩;have aIO:=Xr Dz gy.size;have CG:=nT.lt;replace nT:=I nT;replace CG:=I CG;have fg:=I xz
    clear xz gy
    refine nK Et (da _ _ ?_)
    clear Et
    refine jj λxE oq=>?_
    refine VF ?_
    refine VF ?_
    refine XV ?_
    try simp only [Act.put]
    try go_simp
    have aoH:=I (rM.o.ad fg.o)
    go_wp2_with ((at_builtin;refine Pe rfl _ _ 29 rfl gH 89 i0 _ 7 48 Tryz.underlying29 bo dP dZ dV rfl WG aM.cells ji OJ _ (xs.take k ++ [(⟨id,nm,rk,dT,hq,am,dz,fo⟩ :aM)]) rfl nT.o Ec (lc - k) (xs.drop k) (by rw [oe.o];rfl) aoH.o ub.o aGS aGT aIO ?_;intro v10 fH tA ds))
    have U:=fg.o.grown ds yk (λq bt=>by have:=(CG.o q bt).1;omega)
    have xR:(xs.take k ++ [(⟨id,nm,rk,dT,hq,am,dz,fo⟩ :aM)] ++ xs.drop k).length= xs.length + 1:=by have h1:=oe.o;have h2:=lF.o;rw [Xu,Xu,h1,h2];simp only [YK,ZS];omega
    obtain⟨g,iC,rfl⟩:=sf tA (by rw [xR];omega)
    have aol:Hid (∀t ∈ xs.take k ++ [(⟨id,nm,rk,dT,hq,am,dz,fo⟩ :aM)] ++ xs.drop k,t.name= nm\/t ∈ xs):=I (λt cJ=>by
     rcases YC.1 cJ with h | h
     .rcases YC.1 h with h | h
      .exact .inr (List.mem_of_mem_take h)
      .simp at h;subst h;exact .inl rfl
     .exact .inr (List.mem_of_mem_drop h))
    generalize xs.take k ++ [(⟨id,nm,rk,dT,hq,am,dz,fo⟩ :aM)] ++ xs.drop k= ys at *
    replace tA:=I tA;replace xR:=I xR;clear ds
    refine rP (oq _ _ ?_)
    refine qu ?_
    refine VF ?_
    refine Xp ?_
    try simp only [Act.put]
    try go_simp
    repeat go_big_quiet_step (fail)
    refine VF ?_
    have iS:ys:=by have:=xR.o;omega
    have pr:ys.length<=xs.length + 1:=by have:=xR.o;omega
    cases bu:jR ys
    all_goals
     replace bu:=I bu
     go_wp2_with fail
     refine (zO iS _ bu.o (tA.o.ej ji)).mono ?_
     rintro e ib ⟨rfl,lv⟩
     have jM:=ai U lv;have aoq:=tA.o.aK lv;have vW:=jM.size;clear tA lv U
     go_wp2
     go_ret2
    .exact⟨[],_,0,false,rfl,by simp,by simp,(bn.made ib (XZ _) _).base vW,ai jM (bP _ _)⟩
    .exact⟨ys,g,iC,true,rfl,pr,aol.o,aoq.base aIc,jM⟩
def ajr:Value->Nat
 | .slice _ n _=>n
 | _=>0
theorem aAr (tu se sp:Int) (ak:QR) (c2:Nat) (ws:List Int) (al:QR) (c3:Nat) (ae:List aW) (h2:ws) (h3:ae) (n2:ak= none->ws= []/\c2= 0) (n3:al= none->ae= []/\c3= 0) (cL:ws.length<=c2) (az:hG tu se sp ws ae= true) (w:World) (bp:aX 1 cE w ak ws) (bj:aX 3 aW.cells w al ae):
 Rd 190 #[.agg #[tu,se,sp,ak ws c2,al ae c3]] w λe ah=>∃D d,e= .returned (.tuple #[.slice D (mU ⟨tu,se,sp,ws,ae⟩).length d,true])/\bn w 3 1 cE ah (.slice D (mU ⟨tu,se,sp,ws,ae⟩).length d) (mU ⟨tu,se,sp,ws,ae⟩)/\Below w w ah:=by
 obtain⟨i0,bo,dP,dZ,dV⟩:=Xo vK
 have cI:=I az;have tn:=I n2;have vi:=I n3;have aEg:=(QG.1 az).l;clear az n2 n3
 go_in
 go_upto_region 1 with fail
 refine dh λaO ar ag=>?_
 replace bp:=bp.ad ar;replace bj:=bj.ad ar;have U:=ar;have aJ:=ag.aL
 go_upto_region 2 with fail
 have iM:=bn.made (f:=cE) (sz:=1) aO (B:=w) U.size 3;have ec:Below aO aO (aO.alloc (.cells #[] 3)):=bP _ _
 obtain⟨xu,Bj⟩ :∃b,b= aO.heap.size:=⟨_,rfl⟩
 have Bk:xu < (aO.alloc (.cells #[] 3)).heap.size:=by rw [Bj];simp
 rw [<- Bj] at iM
 generalize MU:aO.alloc (.cells #[] 3)= ic at *
 rw [<- Bj]
 clear Bj MU;replace iM:=I iM;have aj:=be aO ec;replace U:=ai U aj;replace bp:=bp.ad aj;replace bj:=bj.ad aj;replace ag:=ag.to aj;replace aJ:=ag.aL
 go_wp2_with fail
 refine (oz c2 h2 h3 cL _ cI.o (bp.ad ao) (bj.ad ao)).mono ?_
 rintro e bw ⟨rfl,bG⟩
 have aY:=be ic bG;replace U:=ai U aY;replace bp:=bp.ad aY;replace bj:=bj.ad aY;replace ag:=ag.to aY;replace aJ:=ag.aL;have nI:=I (iM.o.aK aY);have rD:xu < bw.heap.size:=YW Bk aY.size;have aEu:=U.size
 go_wp2_with fail
 refine (NZ h2 h3 tn.o vi.o (bp.ad ao) (bj.ad ao)).mono ?_
 rintro e bH ⟨aU,d2,bd,d3,rfl,OF,db⟩
 have cj:=be bw db;replace U:=ai U cj;replace ag:=ag.to cj;clear aJ;have jC:=I (nI.o.aK cj);have bh:=OF.fc;have bf:=OF.fE
 have ew:qA (xu ([]:List Int).length 0) (aU ws d2):=λk h1 h2=>by
  have e:xu= k:=Wx h1;have:=(bh.lt k h2).1
  omega
 replace ew:=I ew;clear OF rD Bk iM nI bp bj
 go_upto_region 5 with fail
 obtain⟨nO,ql⟩ :∃b,b= bH.heap.size:=⟨_,rfl⟩
 refine dh λpG dK bz=>?_
 replace bh:=bh.aK dK;replace bf:=bf.aK dK;replace U:=ai U dK;have df:=bz.aL
 rw [<- ql] at bz
 rw [<- ql]
 have jD:=I (jC.o.aK dK)
 have AW:w.heap.size<=nO:=by have:=ag.lt;omega
 have yK:=I (bh.base (B':=w) KK);have yL:=I (bf.base (B':=w) KK);have ve:=I bz;have BN:=I U;clear ql jC bh bf ag bz df
 go_wp2
 go_loopw [4] (λy wr=>∃(eZ fs:List Int) (W:QR) (yQ:Nat) (Y:QR) (wG:Nat),y= .slice Y fs wG/\eZ.length + fs.length= ws.length/\Hid (mU ⟨tu,se,sp,ws,ae⟩ =fs ++ mU ⟨tu,se,sp,eZ,ae⟩)/\bn w 3 1 cE wr (Y fs wG) fs/\bn w 3 1 cE wr (W eZ yQ) eZ/\bn w 214 3 aW.cells wr (bd ae d3) ae/\ay wr nO 41 #[tu,se,sp,W eZ yQ,bd ae d3]/\Hid (qA (Y fs wG) (W eZ yQ))/\Below w w wr) (λy _=>ws.length - ajr y)
 case atStart=>exact⟨ws,[],aU,d2,some ⟨xu,0,none⟩,0,rfl,rfl,I rfl,jD.o,yK.o,yL.o,ve.o,ew,BN.o⟩
 case round=>
  clear jD yK yL ve BN ew U
  obtain⟨eZ,fs,W,yQ,Y,wG,rfl,hlen,fL,aV,cv,xL,bz,gj,U⟩:=hrel
  replace hlen:=I hlen;replace aV:=I aV;replace cv:=I cv;replace xL:=I xL
  by_cases cF:0 < eZ.length
  .obtain⟨MF,aCV,aqv⟩:=sf cv.o cF
   injection aqv with aqw _ aqx
   subst aqw
   subst aqx
   have sK:=nW cv.o fR
   obtain⟨m,hm,jI⟩:=aBe ⟨tu,se,sp,eZ,ae⟩ cF
   simp only [DC] at hm jI
   obtain⟨j,cc⟩ :∃j,mD ⟨tu,se,sp,eZ,ae⟩ eZ.length= j:=⟨_,rfl⟩
   have aaW:=I (λW (h:Below wr wr W)=>ags tu se sp (some ⟨MF,0,none⟩) yQ eZ bd d3 ae (by have:=hlen.o;omega) h3 (λh=>by cases h) xL.o.tK sK (nW xL.o hI) cF W (cv.o.aK h).ej (xL.o.aK h).ej)
   rw [cc] at hm jI aaW
   have iy:j < eZ.length:=(Xg.1 hm).1;replace hm:=I hm;replace jI:=I jI;clear cc;have df:=bz.aL
   go_wp2_with fail
   refine (aaW.o _ (Wt _ _)).mono ?_
   rintro e dk ⟨rfl,iH⟩
   have gm:=be wr iH;replace U:=ai U gm;replace bz:=bz.to gm;replace df:=bz.aL;have Jm:=cv.o.aK gm;have iR:=aV.o.aK gm;have adQ:=xL.o.aK gm;have LL:=I Jm;have nI:=I iR;have DG:=I adQ;have g0:=me Jm fR hm.o (i:=0) (u:= .int .i64 m) rfl
   simp only [Xw,XW] at g0
   have lK:fs:=by have:=hlen.o;omega
   have nJ:Hid (fs.length= fs.length):=I rfl;have adY:=U;clear Jm iR adQ
   go_upto_region 8 with (at_builtin;refine ke rfl _ _ 38 rfl w 3 i0 _ 1 8 Tryz.underlying38 bo dP dZ dV rfl WG cE fR qU _ (fs) rfl (nI.o.alloc _) ⟨dk,0,none⟩ 1 (m) rfl (aX.one _ _) Yy Yz (by have:=adY.size;simp;omega) ?_;intro v4 pH fb ed mx)
   have fw:=bx (bL (bP dk (.cells #[m] 3)) _) ed;have fm:ay pH nO 41 #[tu,se,sp,MF eZ yQ,bd ae d3]:=bz.jE fw (λe=>nI.o.mP bz WG nO e.symm rfl);have Jl:qA v4 (MF eZ yQ):=qA.step (H:=(World.alloc dk (.cells #[m] 3)).heap.size) gj.o (λk ax=>by have:=(LL.o.lt k ax).2;simp;omega) mx
   have zf:bn w 3 1 cE pH (MF eZ yQ) eZ:=LL.o.ne fw gj.o;have VK:bn w 214 3 aW.cells pH (bd ae d3) ae:=DG.o.kept fw (DG.o.apart nI.o WG);have Ty:Below w w pH:=U.grown fw U.size (λq bt=>(nI.o.lt q bt).1);clear bz g0 U adY
   obtain⟨abW,acJ,e4,_,_,_⟩:=fb.form fR
   subst e4
   rw [Xu,Yi] at fb Jl
   rw [Xu,Yi]
   replace fb:=I fb;replace zf:=I zf;replace VK:=I VK;clear Jl ed mx fw;have U:=Ty;have aaA:=Ty.size;clear Ty;have df:=fm.aL
   go_wp2_with fail
   refine (agu (by have:=hlen.o;omega) sK iy zf.o.ej).mono ?_
   rintro e fS ⟨g6,AK,rfl,wu,gv⟩
   have rZ:=be pH gv;replace U:=ai U rZ;replace fm:=fm.to rZ;replace df:=fm.aL;have lD:=I (fb.o.aK rZ);have DH:=I (VK.o.aK rZ);have tr:=I wu
   have aon:Hid (qA (abW (fs.length + 1) acJ) (g6 (eZ.length - 1) AK)):=I λk h1 h2=>by
    have:=(fb.o.lt k h1).2;have:=(wu.lt k h2).1
    omega
   have CS:w.heap.size<=pH.heap.size:=aaA;have TA:=I fm;clear wu aaA;have aCY:=fm.frozen 3
   go_wp2
   obtain⟨oL,MT⟩ :∃X,X= World.setCell fS ⟨nO,3,none⟩ (g6 (eZ.length - 1) AK):=⟨_,rfl⟩
   have fK:er fS nO 3 [g6 (eZ.length - 1) AK] oL:=by rw [MT];exact er.cons er.nil
   rw [<- MT]
   clear MT df;have ur:ay oL nO 41 #[tu,se,sp,g6 (eZ.length - 1) AK,bd ae d3]:=fK.own fm;have FE:=fK.aN U;have pO:=lD.o.cS fK (lD.o.mP TA.o WG);have Pm:=DH.o.cS fK (DH.o.mP TA.o WG);have UK:=(tr.o.base (B':=w) CS).cS fK (tr.o.mP TA.o WG)
   have Rr:(eZ.take j ++ eZ.drop (j + 1)).length= eZ.length - 1:=Xq
   go_roundw
   case rel=>exact⟨eZ.take j ++ eZ.drop (j + 1),fs ++ [m],g6,AK,abW,acJ,by rw [Xu,Yi],by have:=hlen.o;rw [Rr,Xu,Yi];omega,I (by rw [fL.o,jI.o];simp),by rw [Xu,Yi];exact pO,by rw [Rr];exact UK,Pm,by rw [Rr];exact ur,I (by rw [Rr,Xu,Yi];exact aon.o),FE⟩
   case measure=>simp [ajr];have:=hlen.o;omega
  .have dP:eZ.length= 0:=KK
   have ov:mU ⟨tu,se,sp,ws,ae⟩ =fs:=by rw [fL.o,aBd dP,Yq]
   replace ov:=I ov;clear dP;have df:=bz.aL
   go_wp2
   go_ret2
   exact⟨Y,wG,by rw [ov.o];rfl,by rw [ov.o];exact aV.o,U⟩
theorem adD {r:aM} (h:r ∈ rs):∃x,jb rs r.id= some x:=by
 unfold jb
 cases hf:rs.find? (λx=>x.id == r.id) with
 | some x=>exact⟨x,rfl⟩
 | none=>have:=List.find?_eq_none.1 hf r h;simp at this
theorem agU (h:(gD rs qs)[k]? =some id):∃r,jb rs id= some r:=by
 have h:=YE h
 unfold gD at h
 split at h
 .obtain⟨r,bu,rfl⟩:=YP.1 h;exact adD bu
 .split at h
  .split at h
   .simp at h
   .obtain⟨r,bu,rfl⟩:=YP.1 h;exact adD (List.mem_filter.1 bu).1
  .simp at h
theorem aFF:(gD rs qs).length<=rs.length:=by
 exact alv
theorem ahp {r:aM} (av:xs[k]? =some id) (bu:jb rs id= some r):(xs.take (k + 1)).map (mm rs)= (xs.take k).map (mm rs) ++ [r.name]:=by rw [List.take_add_one,av];simp [ahr bu]
theorem acw {w:World} {b c:Addr} {x:Value} {row:Option Nat} (h:w.cell? a= some x/\w.cell? b= some y/\w.cell? c= some z) (cy:w.grownBy ah row) (n1:some a.block≠row) (n2:some b.block≠row) (n3:some c.block≠row):ah.cell? a= some x/\ah.cell? b= some y/\ah.cell? c= some z:=⟨cy.cell h.1 n1,cy.cell h.2.1 n2,cy.cell h.2.2 n3⟩
theorem IX {w:World} {b c:Addr} {x:Value} (h:w.cell? a= some x/\w.cell? b= some y/\w.cell? c= some z) (aB:Below w w ah):ah.cell? a= some x/\ah.cell? b= some y/\ah.cell? c= some z:=acw h (bL aB none) Wn Wn Wn
theorem ahx {T:Type} {f:T->List Value} {w:World} {o c:Nat} {xs:List T} (h:bn B e sz f w (.slice (some ⟨b,o,none⟩) n c) xs) (bq:0 < xs.length):(Value.slice (some ⟨b,o,none⟩) n c).ownBlock= some b:=by
 rcases h.2 with ⟨_,h0⟩ | ⟨g,cap,cur,az,_⟩
 .omega
 .injection az with h1 _ _
  injection h1 with h2
  injection h2 with h3 h4
  subst h3;subst h4;rfl
theorem amb (h:u:=by
 have h2:=ahx rv.o KK
 exact aV.o.apart rv.o WG q bt (by rw [h2,e])):u:=h
theorem amn (h:u:=by
 go_wp2_with (at_builtin;refine ke rfl _ _ 57 rfl aO 9 i0 _ 1 16 Tryz.underlying57 bo dP dZ dV rfl WG hh jP Gi _ ((ys.take k).map (mm rs)) rfl (ng.alloc _) ⟨Pa,0,none⟩ 1 (nm) rfl (aX.one _ _) Yy Yz Ym ?_;intro v4 bH fb ed mx)
 have fw:=bx (bL (vf.alloc vf.size (.cells #[nm] 9)) _) ed;have fm:Below aO aO bH:=(aQ.alloc aQ.size _).grown ed Ym (λq bt=>(aV.o.lt q bt).1);have asu:=rv.o.kept fw (rv.o.apart aV.o WG)
 refine gb ((cH.o _).2 (acw pL.o fw (λe=>vi.o.1 _ e.symm rfl) (λe=>vi.o.2.1 _ e.symm rfl) (λe=>vi.o.2.2 _ e.symm rfl))) (da _ _ ?_)
 refine ky ?_
 refine Xp ?_
 repeat go_big_quiet_step (fail)
 refine VF ?_
 go_wp2
 go_roundw
 case rel=>exact⟨k + 1,by omega,by go_num,by rw [gj.o];exact fb,asu,fm⟩
 case measure=>simp [intOf];omega):u:=h
theorem aiH (aq:QR) (c0:Nat) (au:QR) (aw:Nat) (ak:QR) (c2:Nat) (al:QR) (c3:Nat) (aF:QR) (c4:Nat) (rs:List aM) (qs:List aZ) (tu se sp:Int) (ws:List Int) (ae:List aW) (os:List Out) (h0:rs.length<=1000) (h1:qs) (aS:ee rs qs= true) (w:World) (bk:aX 7 aM.cells w aq rs) (bg:aX 3 aZ.cells w au qs):
 Rd 94 #[.agg #[aq rs c0,au qs aw,tu,se,sp,ak ws c2,al ae c3,aF os c4]] w λe ah=>∃D d,e= .returned (.slice D ((gD rs qs).map (mm rs)).length d)/\bn w 9 1 hh ah (.slice D ((gD rs qs).map (mm rs)).length d) ((gD rs qs).map (mm rs))/\Below w w ah:=by
 obtain⟨i0,bo,dP,dZ,dV⟩:=Xo Da
 have FQ:=I (λk id (h:(gD rs qs)[k]? =some id)=>agU h);have jm:=aFF (rs:=rs) (qs:=qs);have TN:=I (λW (h:aX 7 aM.cells W aq rs) (ez:aX 3 aZ.cells W au qs)=>Hs aq c0 rs KK au aw qs h1 aS W h ez)
 generalize gD rs qs= ys at *
 clear aS
 go_in
 go_upto_region 1 with fail
 obtain⟨jK,lg⟩ :∃b,b= w.heap.size:=⟨_,rfl⟩
 refine dh λaO ar aC=>?_
 replace bk:=bk.ad ar;replace bg:=bg.ad ar;have U:=ar
 obtain⟨m0,m1,m2,m3,m4,m5,m6,m7⟩:=aC.aH
 rw [<- lg] at aC m0 m1 m2 m3 m4 m5 m6 m7
 rw [<- lg]
 have FE:=I (λb o (e:aq= some ⟨b,o,none⟩) (bq:0 < rs.length)=>(show b < aO.heap.size by obtain⟨df,oC,gx,fM,_⟩:=bk bq;rw [e] at gx;injection gx with gx;injection gx with e1 _;omega));have wj:=I aC;have gu:=I bk;have Jq:=U.size
 go_upto_region 2 with fail
 have iM:=bn.made (f:=hh) (sz:=1) aO (B:=aO) (XZ _) 9;have ec:Below aO aO (aO.alloc (.cells #[] 9)):=bP _ _
 generalize MU:aO.alloc (.cells #[] 9)= ic at *
 replace iM:=I iM;clear lg;clear aC m0 m1 m2 m3 m4 m5 m6 m7;have ve:=I U;have aj:=be aO ec;replace bk:=bk.ad aj;replace bg:=bg.ad aj;have tz:=wj.o.ad ec wj.o.lt
 obtain⟨m0,m1,m2,m3,m4,m5,m6,m7⟩:=tz.aH
 go_wp2_with fail
 refine (TN.o _ (bk.ad ao) (bg.ad ao)).mono ?_
 rintro e bw ⟨Y,wG,rfl,pb,bG⟩
 have aY:=be ic bG;replace tz:=tz.to aY;clear m0 m1 m2 m3 m4 m5 m6 m7
 obtain⟨m0,m1,m2,m3,m4,m5,m6,m7⟩:=tz.aH
 have iR:=iM.o.aK aY;have Na:=pb.base (B':=aO) ec.size;have ML:=ai ec aY;clear bk bg iM pb U
 go_wp2
 clear m0 m1 m2 m3 m4 m5 m6 m7 tz
 go_loopw [3,5] (λy i wr=>∃k:Nat,k<=ys.length/\i= .int .i64 k/\bn aO 9 1 hh wr y ((ys.take k).map (mm rs))/\bn aO 3 1 cE wr (Y ys wG) ys/\Below aO aO wr) (λ_ i _=>ys.length - (intOf i).toNat)
 case atStart=>exact⟨0,Xd _,rfl,iR,Na,ML⟩
 case round=>
  clear iR Na ML
  obtain⟨k,ax,rfl,aV,rv,aB⟩:=hrel
  have nJ:Hid (((ys.take k).map (mm rs)).length= k):=I (take_len ax);replace aV:=I aV;replace rv:=I rv
  by_cases bC:k < ys.length
  .skip
   obtain⟨Cn,Ot,id,Wl,asG,hid,Nl⟩:=(rv.o.ej (hf:=fR)).at_ (Wt _ _) bC
   obtain⟨r,bu⟩:=FQ.o k id hid
   obtain⟨j,cc,zy⟩:=uM bu
   have iy:j < rs.length:=(Xg.1 zy).1
   obtain⟨gB,vM,hr,yV,aes,sQ,nv⟩:=gu.o.at_ aB iy
   obtain rfl:r= hr:=Wx (zy.symm.trans sQ)
   have gj:=I (ahp hid bu)
   obtain⟨Ph,nm,rk,se,gQ,am,dz,aP⟩:=r
   have a0:=Nl 0 _ rfl (aD.self _);have n1:=nv 1 _ rfl (aD.self _)
   simp only [XW,Xw,aD.self] at a0 n1
   have fT:=I cc
   subst Wl yV
   go_upto_region 6 with fail
   have zb:=wj.o.ad aB wj.o.lt;have m0:=(zb.cell 0).trans (show _= some (.slice (some ⟨gB,vM,none⟩) rs c0) from rfl);have pL:=I (show wr.cell? ⟨jK,0,none⟩ =some (.slice (some ⟨gB,vM,none⟩) rs c0)/\wr.cell? ⟨Cn,Ot + k,none⟩ =some (.int .i64 id)/\wr.cell? ⟨gB,vM + j * 7 + 1,none⟩ =some (.string nm) from⟨m0,a0,n1⟩)
   have tF:∀q,u3.ownBlock= some q->jK≠q:=λq bt e=>aV.o.mP zb WG q bt e.symm
   have zv:∀q,u3.ownBlock= some q->Cn≠q:=λq bt e=>by
    exact amb
   have xT:∀q,u3.ownBlock= some q->gB≠q:=λq bt e=>by have:=(aV.o.lt q bt).1;have:=FE.o gB vM rfl KK;omega
   have vi:=I (⟨tF,zv,xT⟩ :(∀q,u3.ownBlock= some q->jK≠q)/\(∀q,u3.ownBlock= some q->Cn≠q)/\(∀q,u3.ownBlock= some q->gB≠q));clear Nl hid bu nv sQ zy cc tF zv xT zb
   obtain⟨dx,et⟩ :∃X:World->Prop,∀V,X V↔V.cell? ⟨jK,0,none⟩ =some (.slice (some ⟨gB,vM,none⟩) rs c0)/\V.cell? ⟨Cn,Ot + k,none⟩ =some (.int .i64 id)/\V.cell? ⟨gB,vM + j * 7 + 1,none⟩ =some (.string nm):=⟨_,λ_=>Xt⟩
   have cH:=I et;clear et
   haveI:Nonempty (cM dx):=⟨⟨wr,(cH.o _).2 pL.o⟩⟩
   replace m0:=λK:cM dx=>((cH.o _).1 K.holds).1
   replace a0:=λK:cM dx=>((cH.o _).1 K.holds).2.1
   replace n1:=λK:cM dx=>((cH.o _).1 K.holds).2.2
   refine nZ dx [([0,1,2,3,4,5,6,7,8],9),([10,11,12],13),([],14)] [15] PV PV ((cH.o _).2 (IX pL.o (Wt _ _).drew)) ?_
   have fO:Below wr wr wr.drew:=(Wt _ _).drew
   generalize wr.drew= wd at *
   refine gA λff da=>?_
   refine aHr ?_
   repeat go_big_quiet_step (fail)
   refine VF ?_
   refine XV ?_
   go_wp2_with fail
   refine (xW KK _ fT.o (gu.o.ad (ai aB fO))).mono ?_
   rintro e Pa ⟨rfl,CW⟩
   have vf:Below wr wr Pa:=by rw [CW];exact fO
   clear CW
   go_wp2
   refine gb ((cH.o _).2 (IX pL.o vf)) (da _ _ ?_)
   refine gA λff da=>?_
   refine YI ?_
   repeat go_big_quiet_step (fail)
   refine VF ?_
   refine XV ?_
   go_wp2
   refine gb ((cH.o _).2 (IX pL.o (vf.alloc vf.size _))) (da _ _ ?_)
   refine gA λff da=>?_
   refine Xn ?_
   refine VF ?_
   refine XV ?_
   have aQ:=ai aB vf;have ng:=aV.o.aK vf
   exact amn
  .obtain rfl:k= ys.length:=KK
   have lr:=aV.o
   rw [Yh] at lr
   obtain⟨UN,hU,rfl,_,_,_⟩:=lr.form jP
   replace lr:=I lr
   go_wp2
   go_ret
   exact⟨UN,hU,rfl,lr.o.base Jq,ai ve.o aB⟩
theorem Sf (h:jR rs= true) (id:Int):(mm rs id).size<=10:=by
 unfold mm
 cases hf:jb rs id with
 | none=>exact Xd _
 | some r=>exact RV h hf
theorem Qi {os:List Out} {x:Int}:∀{k:Nat},x ∈ mr os k->∃o,o ∈ os/\o.rule= x
 | 0,h=>by simp [mr] at h
 | k + 1,h=>by
  unfold mr at h
  split at h
  .rename_i o dn
   split at h
   .rcases YC.1 h with h | h
    .exact Qi h
    .simp at h;exact⟨o,YE dn,h.symm⟩
   .exact Qi h
  .exact Qi h
theorem ach (h:hL m):∀x ∈ mr m.bQ m.bQ.length,-999999<=x/\x<=999999:=λx av=>by
 obtain⟨o,dn,rfl⟩:=Qi av
 have h1:=h.Ov o dn
 unfold tL at h1
 rw [Xa] at h1
 cases hf:jb m.bT o.rule with
 | none=>rw [hf] at h1;simp at h1
 | some r=>
  obtain⟨k,ax⟩:=YY.1 (List.mem_of_find?_eq_some hf)
  have aB:=yd (ye (mS h.jn).1 ax)
  have he:r.id= o.rule:=by have:=List.find?_some hf;simpa using this
  omega
theorem ajt (h:hL m):∀x ∈ mU m.hF,-999999<=x/\x<=999999:=λx av=>by
 have hm:=agW (t:=kN m.hF) av;have h1:=((nt.1 h.hF).w x hm).1;have:=qT.1 h1
 omega
theorem aGu (os:List Out) (n:Int):∀k,0<=(jy os n k).1/\(jy os n k).1<=k/\0<=(jy os n k).2/\(jy os n k).2<=k
 | 0=>by simp [jy]
 | k + 1=>by
  have:=aGu os n k
  unfold jy
  split
  .split
   .split <;> simp <;> omega
   .simp;omega
  .simp;omega
theorem ayE (w:World) (a b:Int):aX 1 cE (w.alloc (.cells #[a,b] 3)) (some ⟨w,0,none⟩) [a,b]:=λ_=>⟨w,0,rfl,by simp,λi x av j u hu=>by
 match i,j,av,hu with
 | 0,0,av,hu=>cases av;cases hu;exact ((ay.new w 3 #[a,b]).cell 0).trans rfl
 | 1,0,av,hu=>cases av;cases hu;exact ((ay.new w 3 #[a,b]).cell 1).trans rfl
 | 0,_ + 1,av,hu=>cases av;simp [cE] at hu
 | 1,_ + 1,av,hu=>cases av;simp [cE] at hu
 | _ + 2,_,av,hu=>simp at av⟩
theorem aHq (h:u:=by
 rintro e bw ⟨rfl,bG⟩
 have aY:=be aI bG;replace U:=ai U aY;replace bX:=bX.ad aY
 go_wp2
 go_ret2
 exact⟨_,rfl,λy hy=>Wx hy,(ai U ao)⟩):u:=h
theorem apw (aq au ak al aF:QR) (c0 aw c2 c3 c4:Nat) (rs:List aM) (qs:List aZ) (tu se sp:Int) (ws:List Int) (ae:List aW) (os:List Out) (Z:fa aq au ak al aF c0 aw c2 c3 c4 rs qs ws ae os) (h:hL ⟨rs,qs,tu,se,sp,ws,ae,os⟩) (s:VU) (fP:Fy s 3) (L:QR) (lc:Nat) (w:World) (R:eF w aq au ak al aF rs qs ws ae os) (qB:aX 1 cE w L []) (bX:ob w):
 Rd 102 #[.agg #[aq rs c0,au qs aw,tu,se,sp,ak ws c2,al ae c3,aF os c4],s,L ([]:List Int).length lc] w λe ah=>∃x:ByteArray,e= .returned (.tuple #[x,.bool (mh ⟨rs,qs,tu,se,sp,ws,ae,os⟩ 3 []).isSome])/\(∀y,mh ⟨rs,qs,tu,se,sp,ws,ae,os⟩ 3 []= some y->x= y)/\Below w w ah:=by
 obtain⟨f0,f1,f2,f3,f4,f5,f6,f7,f8,f9,f10,f11,f12,f13,f14⟩:=fP
 simp only [Nat.reduceBEq] at f0 f1 f2 f3 f4 f5 f6 f7 f8 f9 f10 f11 f12 f13 f14
 have Ua:=I (λW (h1:aX 7 aM.cells W aq rs) (h2:aX 3 aZ.cells W au qs)=>avB aq c0 rs Z.h0 Z.ev au aw qs Z.h1 h.jn W h1 h2)
 have aIh:(qs.map (nE rs)).length<=1000:=by have:=(uO h).2.1;rw [YZ];simp only at this;omega
 have BU:=I (show∀x ∈ qs.map (nE rs),x.size<=1000 from λx av=>by obtain⟨q,_,rfl⟩:=YP.1 av;have:=Sf (mS h.jn).1 q.rule;unfold nE;simp only at this;omega);have yz:Hid (mh ⟨rs,qs,tu,se,sp,ws,ae,os⟩ 3 []= some (ny (qs.map (nE rs)))):=I rfl
 generalize qs.map (nE rs)= nC at *
 clear h Z qB
 rw [yz.o]
 go_in
 go_upto_region 1 with fail
 refine Xi λaO ar aC=>?_;replace R:=R.ad ar;replace bX:=bX.ad ar
 have U:=ar;have dI:=aC.aH;have jt:=aC.lt
 go_wp2_with fail
 refine (Ua.o _ ((R.ad ao)).fC ((R.ad ao)).dM).mono ?_
 rintro e aI ⟨D,d,rfl,hM,aQ⟩
 have aj:=be aO aQ;replace U:=ai U aj;replace R:=R.ad aj;replace bX:=bX.ad aj;replace aC:=aC.to aj;replace dI:=aC.aH;clear dI R
 go_wp2_with fail
 refine (aHI D d nC aIh BU.o _ (hM.ej (hf:=jP)) (nW hM jP)).mono ?_
 exact aHq
theorem apu (aq au ak al aF:QR) (c0 aw c2 c3 c4:Nat) (rs:List aM) (qs:List aZ) (tu se sp:Int) (ws:List Int) (ae:List aW) (os:List Out) (Z:fa aq au ak al aF c0 aw c2 c3 c4 rs qs ws ae os) (h:hL ⟨rs,qs,tu,se,sp,ws,ae,os⟩) (s:VU) (fP:Fy s 4) (L:QR) (lc:Nat) (w:World) (R:eF w aq au ak al aF rs qs ws ae os) (qB:aX 1 cE w L []) (bX:ob w):
 Rd 102 #[.agg #[aq rs c0,au qs aw,tu,se,sp,ak ws c2,al ae c3,aF os c4],s,L ([]:List Int).length lc] w λe ah=>∃x:ByteArray,e= .returned (.tuple #[x,.bool (mh ⟨rs,qs,tu,se,sp,ws,ae,os⟩ 4 []).isSome])/\(∀y,mh ⟨rs,qs,tu,se,sp,ws,ae,os⟩ 4 []= some y->x= y)/\Below w w ah:=by
 obtain⟨f0,f1,f2,f3,f4,f5,f6,f7,f8,f9,f10,f11,f12,f13,f14⟩:=fP
 simp only [Nat.reduceBEq] at f0 f1 f2 f3 f4 f5 f6 f7 f8 f9 f10 f11 f12 f13 f14
 obtain⟨i0,bo,dP,dZ,dV⟩:=Xo Da
 have FQ:=I (λk id (h:(gD rs qs)[k]? =some id)=>agU h);have jm:=aFF (rs:=rs) (qs:=qs);have aFU:=(uO h).1
 simp only at aFU
 have BU:=I (show∀x ∈ (gD rs qs).map (mm rs),x.size<=1000 from λx av=>by obtain⟨q,_,rfl⟩:=YP.1 av;have:=Sf (mS h.jn).1 q;simp only at this;omega);have TN:=I (λW (h1:aX 7 aM.cells W aq rs) (h2:aX 3 aZ.cells W au qs)=>aFB aq c0 rs Z.h0 au aw qs Z.h1 h.jn W h1 h2);have yz:Hid (mh ⟨rs,qs,tu,se,sp,ws,ae,os⟩ 4 []= some (ny ((gD rs qs).map (mm rs)))):=I rfl
 generalize gD rs qs= ys at *
 clear h qB;replace Z:=I Z
 rw [yz.o]
 have bk:=R.fC;have bg:=R.dM;clear R
 go_in
 go_upto_region 1 with fail
 obtain⟨jK,lg⟩ :∃b,b= w.heap.size:=⟨_,rfl⟩
 refine dh λaO ar aC=>?_
 replace bk:=bk.ad ar;replace bg:=bg.ad ar;have U:=ar
 obtain⟨m0,m1,m2,m3,m4,m5,m6,m7⟩:=aC.aH
 rw [<- lg] at aC m0 m1 m2 m3 m4 m5 m6 m7
 rw [<- lg]
 have FE:=I (λb o (e:aq= some ⟨b,o,none⟩) (bq:0 < rs.length)=>(show b < aO.heap.size by obtain⟨df,oC,gx,fM,_⟩:=bk bq;rw [e] at gx;injection gx with gx;injection gx with e1 _;omega));have wj:=I aC;have gu:=I bk
 go_upto_region 7 with fail
 have iM:=bn.made (f:=hh) (sz:=1) aO (B:=aO) (XZ _) 9;have ec:Below aO aO (aO.alloc (.cells #[] 9)):=bP _ _
 generalize MU:aO.alloc (.cells #[] 9)= ic at *
 replace iM:=I iM;clear lg;clear aC m0 m1 m2 m3 m4 m5 m6 m7;have ve:=I U;have aj:=be aO ec;replace bk:=bk.ad aj;replace bg:=bg.ad aj;have tz:=wj.o.ad ec wj.o.lt
 obtain⟨m0,m1,m2,m3,m4,m5,m6,m7⟩:=tz.aH
 go_wp2_with fail
 refine (TN.o _ (bk.ad ao) (bg.ad ao)).mono ?_
 rintro e bw ⟨Y,wG,rfl,pb,bG⟩
 have aY:=be ic bG;replace tz:=tz.to aY;clear m0 m1 m2 m3 m4 m5 m6 m7
 obtain⟨m0,m1,m2,m3,m4,m5,m6,m7⟩:=tz.aH
 have iR:=iM.o.aK aY;have Na:=pb.base (B':=aO) ec.size;have ML:=ai ec aY;clear bk bg iM pb U bX
 go_wp2
 clear m0 m1 m2 m3 m4 m5 m6 m7 tz
 go_loopw [10,43] (λy i wr=>∃k:Nat,k<=ys.length/\i= .int .i64 k/\bn aO 9 1 hh wr y ((ys.take k).map (mm rs))/\bn aO 3 1 cE wr (Y ys wG) ys/\Below aO aO wr) (λ_ i _=>ys.length - (intOf i).toNat)
 case atStart=>exact⟨0,Xd _,rfl,iR,Na,ML⟩
 case round=>
  clear iR Na ML
  obtain⟨k,ax,rfl,aV,rv,aB⟩:=hrel
  have nJ:Hid (((ys.take k).map (mm rs)).length= k):=I (take_len ax);replace aV:=I aV;replace rv:=I rv
  by_cases bC:k < ys.length
  .skip
   obtain⟨Cn,Ot,id,Wl,asG,hid,Nl⟩:=(rv.o.ej (hf:=fR)).at_ (Wt _ _) bC
   obtain⟨r,bu⟩:=FQ.o k id hid
   obtain⟨j,cc,zy⟩:=uM bu
   have iy:j < rs.length:=(Xg.1 zy).1
   obtain⟨gB,vM,hr,yV,aes,sQ,nv⟩:=gu.o.at_ aB iy
   obtain rfl:r= hr:=Wx (zy.symm.trans sQ)
   have gj:=I (ahp hid bu)
   obtain⟨Ph,nm,rk,se,gQ,am,dz,aP⟩:=r
   have a0:=Nl 0 _ rfl (aD.self _);have n1:=nv 1 _ rfl (aD.self _)
   simp only [XW,Xw,aD.self] at a0 n1
   have fT:=I cc
   subst Wl yV
   go_upto_region 10 with fail
   have zb:=wj.o.ad aB wj.o.lt;have m0:=(zb.cell 0).trans (show _= some (.slice (some ⟨gB,vM,none⟩) rs c0) from rfl);have pL:=I (show wr.cell? ⟨jK,0,none⟩ =some (.slice (some ⟨gB,vM,none⟩) rs c0)/\wr.cell? ⟨Cn,Ot + k,none⟩ =some (.int .i64 id)/\wr.cell? ⟨gB,vM + j * 7 + 1,none⟩ =some (.string nm) from⟨m0,a0,n1⟩)
   have tF:∀q,u10.ownBlock= some q->jK≠q:=λq bt e=>aV.o.mP zb WG q bt e.symm
   have zv:∀q,u10.ownBlock= some q->Cn≠q:=λq bt e=>by
    exact amb
   have xT:∀q,u10.ownBlock= some q->gB≠q:=λq bt e=>by have:=(aV.o.lt q bt).1;have:=FE.o gB vM rfl KK;omega
   have vi:=I (⟨tF,zv,xT⟩ :(∀q,u10.ownBlock= some q->jK≠q)/\(∀q,u10.ownBlock= some q->Cn≠q)/\(∀q,u10.ownBlock= some q->gB≠q));clear Nl hid bu nv sQ zy cc tF zv xT a0 zb
   obtain⟨dx,et⟩ :∃X:World->Prop,∀V,X V↔V.cell? ⟨jK,0,none⟩ =some (.slice (some ⟨gB,vM,none⟩) rs c0)/\V.cell? ⟨Cn,Ot + k,none⟩ =some (.int .i64 id)/\V.cell? ⟨gB,vM + j * 7 + 1,none⟩ =some (.string nm):=⟨_,λ_=>Xt⟩
   have cH:=I et;clear et
   haveI:Nonempty (cM dx):=⟨⟨wr,(cH.o _).2 pL.o⟩⟩
   replace m0:=λK:cM dx=>((cH.o _).1 K.holds).1
   replace n1:=λK:cM dx=>((cH.o _).1 K.holds).2.2
   refine nZ dx [([0,1,2,3,4,5],6),([7,8,9],10),([],11)] [12] PV PV ((cH.o _).2 (IX pL.o (Wt _ _).drew)) ?_
   have fO:Below wr wr wr.drew:=(Wt _ _).drew
   generalize wr.drew= wd at *
   refine gA λff da=>?_
   refine Yn ?_
   repeat go_big_quiet_step (fail)
   refine VF ?_
   refine XV ?_
   go_wp2_with fail
   refine (Kq KK _ fT.o (gu.o.ad (ai aB fO))).mono ?_
   rintro e Pa ⟨rfl,CW⟩
   have vf:Below wr wr Pa:=ai fO CW;clear CW
   go_wp2
   refine gb ((cH.o _).2 (IX pL.o vf)) (da _ _ ?_)
   refine gA λff da=>?_
   refine YI ?_
   repeat go_big_quiet_step (fail)
   refine VF ?_
   refine XV ?_
   go_wp2
   refine gb ((cH.o _).2 (IX pL.o (vf.alloc vf.size _))) (da _ _ ?_)
   refine gA λff da=>?_
   refine Xn ?_
   refine VF ?_
   refine XV ?_
   have aQ:=ai aB vf;have ng:=aV.o.aK vf
   exact amn
  .obtain rfl:k= ys.length:=KK
   have lr:=aV.o
   rw [Yh] at lr
   obtain⟨nC,EJ⟩ :∃nC,nC= ys.map (mm rs):=⟨_,rfl⟩
   have aIh:nC.length<=1000:=by rw [EJ,YZ];omega
   rw [<- EJ] at lr
   have aaV:=BU
   rw [<- EJ] at aaV
   replace EJ:=I EJ
   obtain⟨UN,hU,rfl,_,_,_⟩:=lr.form jP
   replace lr:=I lr
   go_wp2_with fail
   refine (aHI UN hU nC aIh aaV.o _ (lr.o.ej (hf:=jP)) (nW lr.o jP)).mono ?_
   rintro e eB ⟨rfl,eJ⟩
   go_wp2
   go_ret2
   exact⟨_,rfl,λy hy=>by rw [EJ.o];exact Wx hy,ai ve.o (ai aB eJ)⟩
theorem apv (aq au ak al aF:QR) (c0 aw c2 c3 c4:Nat) (rs:List aM) (qs:List aZ) (tu se sp:Int) (ws:List Int) (ae:List aW) (os:List Out) (Z:fa aq au ak al aF c0 aw c2 c3 c4 rs qs ws ae os) (h:hL ⟨rs,qs,tu,se,sp,ws,ae,os⟩) (s:VU) (fP:Fy s 5) (L:QR) (lc:Nat) (w:World) (R:eF w aq au ak al aF rs qs ws ae os) (qB:aX 1 cE w L []) (bX:ob w):
 Rd 102 #[.agg #[aq rs c0,au qs aw,tu,se,sp,ak ws c2,al ae c3,aF os c4],s,L ([]:List Int).length lc] w λe ah=>∃x:ByteArray,e= .returned (.tuple #[x,.bool (mh ⟨rs,qs,tu,se,sp,ws,ae,os⟩ 5 []).isSome])/\(∀y,mh ⟨rs,qs,tu,se,sp,ws,ae,os⟩ 5 []= some y->x= y)/\Below w w ah:=by
 obtain⟨f0,f1,f2,f3,f4,f5,f6,f7,f8,f9,f10,f11,f12,f13,f14⟩:=fP
 simp only [Nat.reduceBEq] at f0 f1 f2 f3 f4 f5 f6 f7 f8 f9 f10 f11 f12 f13 f14
 have aT:=uO h
 simp only at aT
 obtain⟨_,_,pr,tE,_⟩:=aT
 have FF:=I (ajt h);have Bf:=Ky (di.hF ⟨rs,qs,tu,se,sp,ws,ae,os⟩);have aoI:=I (λW (h1:aX 1 cE W ak ws) (h2:aX 3 aW.cells W al ae)=>aju tu se sp ak c2 ws al c3 ae Z.h2 Z.h3 Z.n2 Z.n3 Z.cL KK W h1 h2);have yz:Hid (mh ⟨rs,qs,tu,se,sp,ws,ae,os⟩ 5 []= some (sb (mU ⟨tu,se,sp,ws,ae⟩))):=I rfl
 simp only [di.hF] at FF Bf
 generalize mU ⟨tu,se,sp,ws,ae⟩ =eZ at *
 have vJ:eZ.length<=100:=KK
 clear h Z qB Bf
 rw [yz.o]
 go_in
 go_upto_region 1 with fail
 refine dh λaO ar aC=>?_
 replace R:=R.ad ar;replace bX:=bX.ad ar;have U:=ar;have dI:=aC.aH
 go_wp2_with fail
 refine (aoI.o _ ((R.ad ao)).r2 ((R.ad ao)).gS).mono ?_
 rintro e aI ⟨D,d,rfl,hM,aQ⟩
 have aj:=be aO aQ;replace U:=ai U aj;replace bX:=bX.ad aj;clear dI;clear R
 go_wp2_with fail
 refine (XR vJ FF.o (hM.ej (hf:=fR)) ((bX.ad ao)).t).mono ?_
 exact aHq
theorem aps (aq au ak al aF:QR) (c0 aw c2 c3 c4:Nat) (rs:List aM) (qs:List aZ) (tu se sp:Int) (ws:List Int) (ae:List aW) (os:List Out) (Z:fa aq au ak al aF c0 aw c2 c3 c4 rs qs ws ae os) (h:hL ⟨rs,qs,tu,se,sp,ws,ae,os⟩) (s:VU) (fP:Fy s 6) (L:QR) (lc:Nat) (w:World) (R:eF w aq au ak al aF rs qs ws ae os) (qB:aX 1 cE w L []) (bX:ob w):
 Rd 102 #[.agg #[aq rs c0,au qs aw,tu,se,sp,ak ws c2,al ae c3,aF os c4],s,L ([]:List Int).length lc] w λe ah=>∃x:ByteArray,e= .returned (.tuple #[x,.bool (mh ⟨rs,qs,tu,se,sp,ws,ae,os⟩ 6 []).isSome])/\(∀y,mh ⟨rs,qs,tu,se,sp,ws,ae,os⟩ 6 []= some y->x= y)/\Below w w ah:=by
 obtain⟨f0,f1,f2,f3,f4,f5,f6,f7,f8,f9,f10,f11,f12,f13,f14⟩:=fP
 simp only [Nat.reduceBEq] at f0 f1 f2 f3 f4 f5 f6 f7 f8 f9 f10 f11 f12 f13 f14
 have aT:=uO h
 simp only at aT
 obtain⟨_,_,_,_,EH⟩:=aT
 have FF:=I (ach h);have Wq:=Gh os os.length;have BM:=I (λW (ez:eF W aq au ak al aF rs qs ws ae os)=>auu ⟨rs,qs,tu,se,sp,ws,ae,os⟩ aq au ak al aF c0 aw c2 c3 c4 Z.h0 Z.h1 Z.h2 Z.h3 Z.h4 W ez.fC ez.dM ez.r2 ez.gS ez.ll Z.ev Z.eU Z.cL Z.dS Z.hl);have lg:=JW.2 h
 rw [lg,show rT ⟨rs,qs,tu,se,sp,ws,ae,os⟩ =mr os os.length by rw [rT,XX lg]] at BM
 have yz:Hid (mh ⟨rs,qs,tu,se,sp,ws,ae,os⟩ 6 []= some (sb (mr os os.length))):=I rfl
 simp only at FF BM
 generalize mr os os.length= eZ at *
 have vJ:eZ.length<=100:=KK
 clear h Z qB lg Wq
 rw [yz.o]
 go_in
 go_upto_region 1 with fail
 refine dh λaO ar aC=>?_
 replace R:=R.ad ar;replace bX:=bX.ad ar;have U:=ar;have dI:=aC.aH
 go_wp2_with fail
 refine (BM.o _ (R.ad ao)).mono ?_
 rintro e aI ⟨D,d,rfl,hM,aQ⟩
 have aj:=be aO aQ;replace U:=ai U aj;replace bX:=bX.ad aj;clear dI;clear R
 go_wp2_with fail
 refine (XR vJ FF.o (hM.ej (hf:=fR)) ((bX.ad ao)).t).mono ?_
 exact aHq
theorem apt (aq au ak al aF:QR) (c0 aw c2 c3 c4:Nat) (rs:List aM) (qs:List aZ) (tu se sp:Int) (ws:List Int) (ae:List aW) (os:List Out) (Z:fa aq au ak al aF c0 aw c2 c3 c4 rs qs ws ae os) (h:hL ⟨rs,qs,tu,se,sp,ws,ae,os⟩) (s:VU) (fP:Fy s 11) (L:QR) (lc:Nat) (n:Int) (w:World) (R:eF w aq au ak al aF rs qs ws ae os) (qB:aX 1 cE w L [n]) (bX:ob w):
 Rd 102 #[.agg #[aq rs c0,au qs aw,tu,se,sp,ak ws c2,al ae c3,aF os c4],s,L ([n]:List Int).length lc] w λe ah=>∃x:ByteArray,e= .returned (.tuple #[x,.bool (mh ⟨rs,qs,tu,se,sp,ws,ae,os⟩ 11 [n]).isSome])/\(∀y,mh ⟨rs,qs,tu,se,sp,ws,ae,os⟩ 11 [n]= some y->x= y)/\Below w w ah:=by
 obtain⟨f0,f1,f2,f3,f4,f5,f6,f7,f8,f9,f10,f11,f12,f13,f14⟩:=fP
 simp only [Nat.reduceBEq] at f0 f1 f2 f3 f4 f5 f6 f7 f8 f9 f10 f11 f12 f13 f14
 have lK:hG tu se sp ws ae= true:=h.hF;have Py:=I (λW (h1:aX 1 cE W ak ws) (h2:aX 3 aW.cells W al ae)=>ave tu se sp ak c2 ws al c3 ae Z.h2 Z.h3 Z.cL lK n W h1 h2)
 have lY:-999999<=(if fy n then se - (fr ae n).dp else 0)/\(if fy n then se - (fr ae n).dp else 0)<=999999:=by
  split
  .rename_i hm
   have:=SS lK hm
   omega
  .omega
 have yz:Hid (mh ⟨rs,qs,tu,se,sp,ws,ae,os⟩ 11 [n]= if fy n then some (eW (if fy n then se - (fr ae n).dp else 0)) else none):=I (by
  show (if fy n then some (eW (se - (fr ae n).dp)) else none)= _
  cases fy n <;> rfl)
 rw [yz.o]
 generalize (if fy n then se - (fr ae n).dp else 0)= v at *
 generalize fy n= b at *
 obtain⟨Mi,jz,rfl,eN,lf⟩:=qB Wn
 have g0:=lf 0 _ rfl 0 _ rfl
 simp only [Xy,XW] at g0
 replace g0:=I g0;replace eN:=I eN;clear h Z lK lf qB
 cases b
 all_goals
  simp only [ZJ,if_false,if_true,Yw,ZB]
  go_in
  go_upto_region 1 with fail
  refine dh λaO ar aC=>?_
  replace R:=R.ad ar;replace bX:=bX.ad ar;have U:=ar;have dI:=aC.aH
  go_upto_region 16 with fail
  have vm:=I R.r2;have kY:=I R.gS;have po:=U
  have u0:=λK:aD aO aO=>(K.cell (p:=⟨Mi,_,none⟩) (YW eN.o po.size)).trans ((po.cell (p:=⟨Mi,_,none⟩) eN.o).trans g0.o)
  clear R;have rN:=I (λk:aD aO aO=>Py.o k.world (vm.o.ad k.ad) (kY.o.ad k.ad));replace dI:=ay.qF (λK:aD aO aO=>(aC.ad K.ad aC.lt))
  refine eQ PV PV ?_
  repeat (go_big_quiet_step ((first | (go_at_call 175;exact aD.call _ Xm (rN.o _)))))
  refine VF ?_
  intro K
  clear dI;have aj:Below aO aO K.world:=ai ao K.ad;replace U:=ai U aj;replace bX:=bX.ad aj;clear u0
  go_wp2_with fail
  refine (Bl v KK KK _ ((bX.ad ao)).t).mono ?_
  rintro e bw ⟨rfl,bG⟩
  have aY:Below K.world K.world bw:=ai ao bG;replace U:=ai U aY
  go_wp2
  go_ret2
  exact⟨_,rfl,λy hy=>(by first | exact Wx hy | cases hy),(ai U ao)⟩
theorem apx (aq au ak al aF:QR) (c0 aw c2 c3 c4:Nat) (rs:List aM) (qs:List aZ) (tu se sp:Int) (ws:List Int) (ae:List aW) (os:List Out) (Z:fa aq au ak al aF c0 aw c2 c3 c4 rs qs ws ae os) (h:hL ⟨rs,qs,tu,se,sp,ws,ae,os⟩) (s:VU) (fP:Fy s 12) (L:QR) (lc:Nat) (n:Int) (w:World) (R:eF w aq au ak al aF rs qs ws ae os) (qB:aX 1 cE w L [n]) (bX:ob w):
 Rd 102 #[.agg #[aq rs c0,au qs aw,tu,se,sp,ak ws c2,al ae c3,aF os c4],s,L ([n]:List Int).length lc] w λe ah=>∃x:ByteArray,e= .returned (.tuple #[x,.bool (mh ⟨rs,qs,tu,se,sp,ws,ae,os⟩ 12 [n]).isSome])/\(∀y,mh ⟨rs,qs,tu,se,sp,ws,ae,os⟩ 12 [n]= some y->x= y)/\Below w w ah:=by
 obtain⟨f0,f1,f2,f3,f4,f5,f6,f7,f8,f9,f10,f11,f12,f13,f14⟩:=fP
 simp only [Nat.reduceBEq] at f0 f1 f2 f3 f4 f5 f6 f7 f8 f9 f10 f11 f12 f13 f14
 have lg:=JW.2 h;have lY:=aGu os n os.length;have xU:=(uO h).2.2.2.2
 simp only at xU
 obtain⟨b,aB⟩ :∃b,fy n= b:=⟨_,rfl⟩
 obtain⟨v1,vF⟩ :∃v,v= if b then (jy os n os.length).1 else 0:=⟨_,rfl⟩
 obtain⟨v2,rC⟩ :∃v,v= if b then (jy os n os.length).2 else 0:=⟨_,rfl⟩
 have TQ:=I (λW (ez:eF W aq au ak al aF rs qs ws ae os)=>avw ⟨rs,qs,tu,se,sp,ws,ae,os⟩ aq au ak al aF c0 aw c2 c3 c4 Z.h0 Z.h1 Z.h2 Z.h3 Z.h4 n (.tuple #[v1,v2,.bool b]) (by rw [Bp,lg,aB,vF,rC];cases b <;> rfl) W ez.fC ez.dM ez.r2 ez.gS ez.ll Z.ev Z.eU Z.cL Z.dS Z.hl)
 have yz:Hid (mh ⟨rs,qs,tu,se,sp,ws,ae,os⟩ 12 [n]= if b then some (sb [v1,v2]) else none):=I (by
  show (if fy n then some (sb [(jy os n os.length).1,(jy os n os.length).2]) else none)= _
  rw [aB,vF,rC]
  cases b <;> rfl)
 rw [yz.o]
 have FF:=I (show∀x ∈ [v1,v2],-999999<=x/\x<=999999 from λx av=>by
  simp only [Xl,YT,or_false] at av
  rw [vF,rC] at av
  cases b
  .rcases av with rfl | rfl <;> simp
  .rcases av with rfl | rfl <;> simp <;> omega)
 obtain⟨Mi,jz,rfl,eN,lf⟩:=qB Wn
 have g0:=lf 0 _ rfl 0 _ rfl
 simp only [Xy,XW] at g0
 replace g0:=I g0;replace eN:=I eN;clear h Z lg lY xU aB vF rC lf qB
 cases b
 all_goals
  simp only [ZJ,if_false,if_true,Yw,ZB]
  go_in
  go_upto_region 1 with fail
  refine dh λaO ar aC=>?_
  replace R:=R.ad ar;replace bX:=bX.ad ar;have U:=ar;have dI:=aC.aH
  go_upto_region 21 with fail
  have ju:=I R;have po:=U
  have u0:=λK:aD aO aO=>(K.cell (p:=⟨Mi,_,none⟩) (YW eN.o po.size)).trans ((po.cell (p:=⟨Mi,_,none⟩) eN.o).trans g0.o)
  clear R;have rN:=I (λk:aD aO aO=>TQ.o k.world (ju.o.ad k.ad));replace dI:=ay.qF (λK:aD aO aO=>(aC.ad K.ad aC.lt))
  refine eQ PV PV ?_
  repeat (go_big_quiet_step ((first | (go_at_call 177;exact aD.call _ Xm (rN.o _)))))
  refine VF ?_
  intro K
  clear dI;have aj:Below aO aO K.world:=ai ao K.ad;replace U:=ai U aj;replace bX:=bX.ad aj;clear u0;have lL:aX 1 cE (K.world.alloc (.cells #[v1,v2] 3)) (some ⟨K.world,0,none⟩) [v1,v2]:=ayE _ _ _;replace lL:=I lL
  go_wp2_with fail
  refine (XR Wn FF.o lL.o ((bX.ad ao)).t).mono ?_
  rintro e eB ⟨rfl,eJ⟩
  go_wp2
  go_ret2
  exact⟨_,rfl,λy hy=>(by first | exact Wx hy | cases hy),ai (ai U ao) (ai (bP _ _) eJ)⟩
theorem apz (aq au ak al aF:QR) (c0 aw c2 c3 c4:Nat) (rs:List aM) (qs:List aZ) (tu se sp:Int) (ws:List Int) (ae:List aW) (os:List Out) (Z:fa aq au ak al aF c0 aw c2 c3 c4 rs qs ws ae os) (h:hL ⟨rs,qs,tu,se,sp,ws,ae,os⟩) (s pt:VU) (aS:oR (fA s)= some pt) (L:QR) (lc:Nat) (l:List Int) (aT:l.length= pt.size) (de:wv (fA s) l= none) (w:World) (R:eF w aq au ak al aF rs qs ws ae os) (qB:aX 1 cE w L l) (bX:ob w):
 Rd 102 #[.agg #[aq rs c0,au qs aw,tu,se,sp,ak ws c2,al ae c3,aF os c4],s,L l lc] w λe ah=>∃x:ByteArray,e= .returned (.tuple #[x,.bool (mh ⟨rs,qs,tu,se,sp,ws,ae,os⟩ (fA s) l).isSome])/\(∀y,mh ⟨rs,qs,tu,se,sp,ws,ae,os⟩ (fA s) l= some y->x= y)/\Below w w ah:=by
 have fP:=IZ s;have hle:=Mm s
 generalize fA s= i at *
 have h0:∀q,some ⟨#[]⟩ =some q->(q:VU).size= 0:=λq e=>by cases e;rfl
 have h1:∀q,some ((⟨#[110]⟩ :VU):VU)= some q->q.size= 1:=λq e=>by cases e;rfl
 have e0:l.length= 0->l= []:=YD.1
 have e1:l.length= 1->∃n,l= [n]:=λe=>by
  match l,e with
  | [n],_=>exact⟨n,rfl⟩
 match i,hle with
 | 0,_=>cases de
 | 1,_=>cases de
 | 2,_=>cases de
 | 3,_=>obtain rfl:=e0 (aT.trans (h0 pt aS));exact apw _ _ _ _ _ _ _ _ _ _ _ _ _ _ _ _ _ _ Z h s fP L lc w R qB bX
 | 4,_=>obtain rfl:=e0 (aT.trans (h0 pt aS));exact apu _ _ _ _ _ _ _ _ _ _ _ _ _ _ _ _ _ _ Z h s fP L lc w R qB bX
 | 5,_=>obtain rfl:=e0 (aT.trans (h0 pt aS));exact apv _ _ _ _ _ _ _ _ _ _ _ _ _ _ _ _ _ _ Z h s fP L lc w R qB bX
 | 6,_=>obtain rfl:=e0 (aT.trans (h0 pt aS));exact aps _ _ _ _ _ _ _ _ _ _ _ _ _ _ _ _ _ _ Z h s fP L lc w R qB bX
 | 7,_=>obtain⟨n,rfl⟩:=e1 (aT.trans (h1 pt aS));cases de
 | 8,_=>obtain⟨n,rfl⟩:=e1 (aT.trans (h1 pt aS));cases de
 | 9,_=>obtain⟨n,rfl⟩:=e1 (aT.trans (h1 pt aS));cases de
 | 10,_=>obtain⟨n,rfl⟩:=e1 (aT.trans (h1 pt aS));cases de
 | 11,_=>obtain⟨n,rfl⟩:=e1 (aT.trans (h1 pt aS));exact apt _ _ _ _ _ _ _ _ _ _ _ _ _ _ _ _ _ _ Z h s fP L lc n w R qB bX
 | 12,_=>obtain⟨n,rfl⟩:=e1 (aT.trans (h1 pt aS));exact apx _ _ _ _ _ _ _ _ _ _ _ _ _ _ _ _ _ _ Z h s fP L lc n w R qB bX
 | 13,_=>
  have e2:l.length= 2:=aT.trans (by cases aS;rfl)
  match l,e2 with
  | [a,b],_=>cases de
 | 14,_=>
  have e2:l.length= 3:=aT.trans (by cases aS;rfl)
  match l,e2 with
  | [a,b,c],_=>cases de
 | 15,_=>cases aS
end Go.Proofs.YtlaaemmmbodaaaaGreatDoor
