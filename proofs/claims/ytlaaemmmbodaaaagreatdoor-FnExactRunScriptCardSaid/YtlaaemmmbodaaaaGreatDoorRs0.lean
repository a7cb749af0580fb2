/- Parts. -/
import Derived.BigQuiet
import Derived.Deep.Draws
import Derived.Lib.Hide
import Derived.WalkKit
import Derived.WalkLawsBesides
import Derived.WalkSpells
import Derived.Laws.AppendOwnNone
import Derived.StillTail
import Derived.Test.YtlaaemmmbodaaaaGreatDoorProg
set_option maxHeartbeats 16000000
set_option maxRecDepth 100000
set_option linter.unnecessarySimpa false
set_option linter.unusedSimpArgs false
set_option linter.unusedVariables false
namespace Go.G9
open Go.RowKit
instance asQ:Coe Int Value:=⟨fun x=> .int .i64 x⟩
instance asT:Coe Nat Value:=⟨fun n=> .int .i64 (n:Int)⟩
instance asU:Coe ByteArray Value:=⟨fun x=> .string x⟩
instance asP:Coe Bool Value:=⟨fun x=> .bool x⟩
instance asO:Coe Nat (Option Addr):=⟨fun g=>some ⟨g,0,none⟩⟩
instance asR {α:Type}:CoeOut (List α) Nat:=⟨List.length⟩
instance asV:Coe World Nat:=⟨fun w=>w.heap.size⟩
structure aB (B:Nat) (w:World) where
  world:World
  U:Below B w world
instance {B:Nat} {w:World}:Nonempty (aB B w):=⟨⟨w,Below.refl _ _⟩⟩
theorem aB.cell {B:Nat} {w:World} (k:aB B w) {p:Addr} (h:p.block < B):k.world.cell? p= w.cell? p:=k.U.cell h
theorem aB.frozen {B:Nat} {w:World} (k:aB B w) {p:Addr} (h:p.block < B):k.world.frozen? p= w.frozen? p:=k.U.frozen h
theorem aB.call {P:Program} {f:FuncId} {args:Array Value} {B:Nat} {w:World} {v:Value} (k:aB B w) (bp:B≤w.heap.size)
    (h:Calls P f args k.world fun e ah=>e= .returned v∧Below k.world.heap.size k.world ah):
    Calls P f args k.world fun e eK=>e= .returned v∧∃hT:aB B w,eK= hT.world:=
  h.mono fun _ ah ⟨he,aE⟩=>⟨he,⟨ah,k.U.trans (aE.mono (Nat.le_trans bp k.U.size))⟩,rfl⟩
theorem aB.same {P:Program} {f:FuncId} {args:Array Value} {B:Nat} {w:World} {v:Value} (k:aB B w)
    (h:Calls P f args k.world fun e ah=>e= .returned v∧ah= k.world):
    Calls P f args k.world fun e eK=>e= .returned v∧∃hT:aB B w,eK= hT.world:=
  h.mono fun _ _ ⟨he,aE⟩=>⟨he,k,aE⟩
theorem acs {p:Prop} (h:p:=by
 funext a';exact propext ⟨fun h ah ⟨k,ax⟩=>ax ▸ h k,fun h k=>h _ ⟨k,rfl⟩⟩):p:=h
theorem eC {P:Program} {id:Nat} {Q:Exit→Act→World→Prop} {a:Act} {w:World} {l:List Oper} (hm:P.follows .mixedOrders= true) (bp:Region.lexB .any l.toArray= true)
    (h:wpQuiet P l.toArray (fun ah=>∃k:aB w.heap.size w,ah= k.world) (fun a'=>∀k:aB w.heap.size w,Q .normal a' k.world) l a):(Code.region id l.toArray true).wp P Q a w:=
  wp_region_quiet (C:=fun ah=>∃k:aB w.heap.size w,ah= k.world) hm bp ⟨⟨w.drew,(Below.refl _ _).drew⟩,rfl⟩
    (by
      have e:(fun a':Act=>∀k:aB w.heap.size w,Q .normal a' k.world)= (fun a'=>∀ah,(∃k:aB w.heap.size w,ah= k.world)→Q .normal a' ah):=by
        exact acs
      rw [e] at h;simpa using h)
theorem ai {w bg aQ:World} (h:Below w w bg) (k:Below bg bg aQ):Below w w aQ:=h.trans (k.mono h.size)
def hI (p:Nat→Bool) (n:Nat):Bool:=(List.range n).all p
theorem afE (p:Nat→Bool) (n:Nat):hI p (n+1)= (hI p n && p n):=by simp [hI,List.range_succ]
theorem np {p:Nat→Bool} {n:Nat} (h:hI p n= true) (aR:p n= true):hI p (n+1)= true:=by rw [afE,h,aR];rfl
theorem uj {p:Nat→Bool} {n k:Nat} (h:k < n) (aR:p k= false):hI p n= false:=by
  simp only [hI,List.all_eq_false,List.mem_range];exact⟨k,h,by simp [aR]⟩
theorem oV {p:Nat→Bool} {n:Nat}:hI p n= true↔∀k,k < n→p k= true:=by simp [hI]
theorem ep {a b:Bool} (h:a= b):Ending.returned a= .returned b:=by rw [h]
theorem wy {k:IntKind} {a b:Int} (h:a= b):Ending.returned (.int k a)= .returned (.int k b):=by rw [h]
def aJ {T:Type} (sz:Nat) (f:T→List Value) (w:World) (A:Option Addr) (xs:List T):Prop:=
  0 < xs.length→∃b off,A= some ⟨b,off,none⟩∧b < w.heap.size∧∀i x,xs[i]? =some x→∀j u,(f x)[j]? =some u→w.cell? ⟨b,off + i * sz + j,none⟩ =some u
theorem aJ.nil {T:Type} {sz:Nat} {f:T→List Value} {w:World} {A:Option Addr}:aJ sz f w A []:=fun h=>absurd h (by simp)
theorem aJ.U {T:Type} {sz:Nat} {f:T→List Value} {w ah:World} {A:Option Addr} {xs:List T} (h:aJ sz f w A xs) (aE:Below w w ah):aJ sz f ah A xs:=fun bd=>by
  obtain⟨b,off,aU,bn,aG⟩:=h bd
  exact⟨b,off,aU,Nat.lt_of_lt_of_le bn aE.size,fun i x ay j u hu=>(aE.cell (p:=⟨b,_,none⟩) bn).trans (aG i x ay j u hu)⟩
theorem aJ.at_ {T:Type} {sz:Nat} {f:T→List Value} {w wr:World} {A:Option Addr} {xs:List T} (h:aJ sz f w A xs) (aE:Below w w wr) {k:Nat} (ax:k < xs.length):
    ∃b off x,A= some ⟨b,off,none⟩∧b < wr.heap.size∧xs[k]? =some x∧∀j u,(f x)[j]? =some u→∀K:aB wr.heap.size wr,K.world.cell? ⟨b,off + k * sz + j,none⟩ =some u:=by
  obtain⟨b,off,aU,bn,aG⟩:=h (by omega)
  have CG:=Nat.lt_of_lt_of_le bn aE.size
  exact⟨b,off,xs[k],aU,CG,List.getElem?_eq_getElem ax,fun j u hu K=>(K.cell (p:=⟨b,_,none⟩) CG).trans ((aE.cell (p:=⟨b,_,none⟩) bn).trans (aG k _ (List.getElem?_eq_getElem ax) j u hu))⟩
def aB.self (w:World):aB w.heap.size w:=⟨w,Below.refl _ _⟩
theorem ca (w:World) (a:Obj):Below w w (w.alloc a):=(Below.refl _ _).alloc (Nat.le_refl _) _
theorem xb (w:World) (a b:Obj):Below w w ((w.alloc a).alloc b):=(ca w a).alloc (by simp) _
theorem MA (w:World) (a b c:Obj):Below w w (((w.alloc a).alloc b).alloc c):=(xb w a b).alloc (by simp;omega) _
theorem HC {P:Program} (t e:TypeId) (i:TypeInfo) (z:Value) (cA:P.underlying t= some (.slice e)) (hi:P.info? e= some i) (cb:i.zero= some z)
    (Xj ga:IntKind) (n c:Nat) (mG:n≤c) (uE:i.bytes * c≤281474976710656) (h63:c≤9223372036854775807) (w:World):
    (Instr.makeSlice t (.int Xj (n:Int)) (.int ga (c:Int))).run P w= .ok (.slice w.heap.size n c) (w.alloc (.cells (madeCells z.cells (c * i.size)) e)):=by
  have aE:(i.bytes:Int) * (c:Int)≤281474976710656:=by
    have h:((i.bytes * c:Nat):Int)≤281474976710656:=by omega
    rwa [Int.natCast_mul] at h
  have bz:=run_make (P:=P) w t e i z cA hi cb Xj ga n c (by omega) (by omega) aE (by omega)
  simp only [Int.toNat_natCast] at bz
  exact bz
def aC (w:World) (g:Nat) (t:TypeId) (cs:Array Value):Prop:=w.heap[g]? =some (.cells cs t (0,0))
section
variable {w ah:World} {g:Nat} {t:TypeId} {cs:Array Value}
theorem aC.lt (h:aC w g t cs):g < w.heap.size:=by
  rcases Nat.lt_or_ge g w.heap.size with bn | wa
  · exact bn
  · unfold aC at h;rw [Array.getElem?_eq_none wa] at h;cases h
theorem aC.cell (h:aC w g t cs) (i:Nat):w.cell? ⟨g,i,none⟩ =cs[i]?:=cell_of_row w g i cs t (0,0) h
theorem aC.frozen (h:aC w g t cs) (i:Nat):w.frozen? ⟨g,i,none⟩ =false:=by
  unfold aC at h
  simp [World.frozen?,h]
theorem aC.new (w:World) (t:TypeId) (cs:Array Value):aC (w.alloc (.cells cs t)) w.heap.size t cs:=heap_alloc_new w _
theorem aC.alloc (h:aC w g t cs) (o:Obj):aC (w.alloc o) g t cs:=(Below.heap_alloc w o g h.lt).trans h
theorem aC.gI (h:aC w g t cs) (i:Nat) (u:Value):aC (w.setCell ⟨g,i,none⟩ u) g t (cs.setIfInBounds i u):=by
  unfold aC at h ⊢
  simp [World.setCell,Array.getElem?_modify,h]
theorem aC.U {B:Nat} (h:aC w g t cs) (aE:Below B w ah) (ck:g < B):aC ah g t cs:=(aE.block g ck).trans h
end
def Own {T:Type} (B:Nat) (sz:Nat) (f:T→List Value) (t:TypeId) (w:World) (A:Option Addr) (xs:List T):Prop:=
  ∃g cs,A= some ⟨g,0,none⟩∧B≤g∧aC w g t cs∧∀i x,xs[i]? =some x→∀j u,(f x)[j]? =some u→cs[i * sz + j]? =some u
theorem Own.fk {T:Type} {B sz:Nat} {f:T→List Value} {t:TypeId} {w:World} {A:Option Addr} {xs:List T} (h:Own B sz f t w A xs):aJ sz f w A xs:=fun _=>by
  obtain⟨g,cs,aU,_,aE,aG⟩:=h
  exact⟨g,0,aU,aE.lt,fun i x ay j u hu=>by rw [aE.cell,Nat.zero_add];exact aG i x ay j u hu⟩
def ku {T:Type} (sz:Nat) (f:T→List Value) (xs:List T) (k:Nat) (cs:Array Value):Prop:=
  ∀i x,i < k→xs[i]? =some x→∀j u,(f x)[j]? =some u→cs[i * sz + j]? =some u
theorem ku.zero {T:Type} {sz:Nat} {f:T→List Value} {xs:List T} {cs:Array Value}:ku sz f xs 0 cs:=fun _ _ h=>absurd h (Nat.not_lt_zero _)
theorem aC.some_ {w:World} {g:Nat} {t:TypeId} {cs:Array Value} (h:aC w g t cs) (i:Nat) (hi:i < cs.size):∃v,w.cell? ⟨g,i,none⟩ =some v:=⟨cs[i],by rw [h.cell];exact Array.getElem?_eq_getElem hi⟩
def gq:Array Value→Nat→List Value→Array Value
  | cs,_,[]=>cs
  | cs,i,u ::us=>gq (cs.setIfInBounds i u) (i + 1) us
def setCells:World→Nat→Nat→List Value→World
  | w,_,_,[]=>w
  | w,g,i,u ::us=>setCells (w.setCell ⟨g,i,none⟩ u) g (i + 1) us
theorem oO:∀(us:List Value) (cs:Array Value) (i:Nat),(gq cs i us).size= cs.size
  | [],_,_=>rfl
  | u ::us,cs,i=>by rw [gq,oO us];simp
theorem aC.gq {g:Nat} {t:TypeId}:∀(i:Nat) (us:List Value) {w:World} {cs:Array Value},aC w g t cs→aC (setCells w g i us) g t (Go.G9.gq cs i us)
  | _,[],_,_,h=>h
  | i,u ::us,_,_,h=>aC.gq (i + 1) us (h.gI i u)
theorem Qr:∀(us:List Value) (cs:Array Value) (i j:Nat),j < i→(gq cs i us)[j]? =cs[j]?
  | [],_,_,_,_=>rfl
  | u ::us,cs,i,j,h=>by rw [gq,Qr us _ _ _ (by omega),Array.getElem?_setIfInBounds_ne (by omega)]
theorem ZD:∀(us:List Value) (cs:Array Value) (i j:Nat) (u:Value),i + us.length≤cs.size→us[j]? =some u→(gq cs i us)[i + j]? =some u
  | [],_,_,_,_,_,h=>by simp at h
  | v ::us,cs,i,0,u,aZ,h=>by
    simp only [List.length_cons] at aZ
    simp at h;subst h
    rw [gq,Qr us _ _ _ (by omega),Nat.add_zero,Array.getElem?_setIfInBounds_self_of_lt (by omega)]
  | v ::us,cs,i,j + 1,u,aZ,h=>by
    simp only [List.length_cons] at aZ
    simp at h
    rw [gq,show i + (j + 1)= (i + 1) + j from by omega]
    exact ZD us _ _ j u (by simp;omega) h
theorem ku.put {T:Type} {sz:Nat} {f:T→List Value} {xs:List T} {k:Nat} {cs:Array Value} {x:T} (h:ku sz f xs k cs) (ay:xs[k]? =some x) (aZ:k * sz + (f x).length≤cs.size)
    (hf:∀y,(f y).length= sz:=by intro y;rfl):ku sz f xs (k + 1) (Go.G9.gq cs (k * sz) (f x)):=by
  intro i y hi hy j u hu
  have bI:j < sz:=by have:=hf y;have h2:=(List.getElem?_eq_some_iff.1 hu).1;omega
  by_cases he:i= k
  · subst he
    obtain rfl:x= y:=Option.some.inj (ay.symm.trans hy)
    exact ZD _ _ _ _ _ aZ hu
  · rw [Qr _ _ _ _ (by
      have:i + 1≤k:=by omega
      have:=Nat.mul_le_mul_right sz this
      rw [Nat.add_mul,Nat.one_mul] at this;omega)]
    exact h i y (by omega) hy j u hu
theorem ku.all {T:Type} {sz:Nat} {f:T→List Value} {xs:List T} {cs:Array Value} (h:ku sz f xs xs.length cs):∀i x,xs[i]? =some x→∀j u,(f x)[j]? =some u→cs[i * sz + j]? =some u:=
  fun i x ay=>h i x (List.getElem?_eq_some_iff.1 ay).1 ay
theorem boxed (w:World) (cs:Array Value) (t:TypeId) (j:Nat) (u:Value) (h:cs[j]? =some u) (K:aB (w.alloc (.cells cs t)).heap.size (w.alloc (.cells cs t))):K.world.cell? ⟨w.heap.size,j,none⟩ =some u:=
  (K.cell (p:=⟨w.heap.size,j,none⟩) (by simp)).trans (((aC.new w t cs).cell j).trans h)
def aB.drop {w bg:World} (K:aB bg.heap.size bg) (h:Below w.heap.size w bg):aB w.heap.size w:=⟨K.world,ai h K.U⟩
open Go.RowKit
theorem aC.vU {w:World} {g:Nat} {t:TypeId} {cs:Array Value} (h:aC w g t cs) {p:Addr} (aR:g≠p.block) (u:Value):aC (w.setCell p u) g t cs:=(Below.heap_setCell w p u g aR).trans h
theorem aC.Hk (w:World) (a:Obj) (t:TypeId) (cs:Array Value):aC ((w.alloc a).alloc (.cells cs t)) (w.heap.size + 1) t cs:=by
  have h:=aC.new (w.alloc a) t cs
  rwa [show (w.alloc a).heap.size= w.heap.size + 1 from by simp] at h
theorem aC.Ki (w:World) (a b:Obj) (t:TypeId) (cs:Array Value):aC (((w.alloc a).alloc b).alloc (.cells cs t)) (w.heap.size + 1 + 1) t cs:=by
  have h:=aC.new ((w.alloc a).alloc b) t cs
  rw [show ((w.alloc a).alloc b).heap.size= w.heap.size + 1 + 1 from by simp] at h
  exact h
theorem aC.anp (w:World) (a b c:Obj) (t:TypeId) (cs:Array Value):aC ((((w.alloc a).alloc b).alloc c).alloc (.cells cs t)) (w.heap.size + 1 + 1 + 1) t cs:=by
  have h:=aC.new (((w.alloc a).alloc b).alloc c) t cs
  rw [show (((w.alloc a).alloc b).alloc c).heap.size= w.heap.size + 1 + 1 + 1 from by simp] at h
  exact h
open Go.RowKit
def aX {T:Type} (B:Nat) (e:TypeId) (sz:Nat) (f:T→List Value) (w:World) (v:Value) (xs:List T):Prop:=w.ownsRow B e sz v xs.length (xs.flatMap f)
section
variable {T:Type} {B:Nat} {e:TypeId} {sz:Nat} {f:T→List Value} {w ah:World} {v:Value} {xs:List T}
theorem mc (hf:∀y,(f y).length= sz):∀xs:List T,(xs.flatMap f).length= xs.length * sz
  | []=>by simp
  | x ::xs=>by rw [List.flatMap_cons,List.length_append,mc hf xs,hf,List.length_cons,Nat.add_mul,Nat.one_mul,Nat.add_comm]
theorem Cj (hf:∀y,(f y).length= sz):∀(xs:List T) (i:Nat) (x:T),xs[i]? =some x→∀(j:Nat) (u:Value),(f x)[j]? =some u→(xs.flatMap f)[i * sz + j]? =some u
  | [],_,_,h,_,_,_=>by simp at h
  | y ::xs,0,x,h,j,u,hu=>by
    simp at h;subst h
    rw [List.flatMap_cons,List.getElem?_append_left (by have:=(List.getElem?_eq_some_iff.1 hu).1;omega),Nat.zero_mul,Nat.zero_add];exact hu
  | y ::xs,i + 1,x,h,j,u,hu=>by
    simp at h
    have h2:=Cj hf xs i x h j u hu
    rw [List.flatMap_cons,List.getElem?_append_right (by rw [hf,Nat.add_mul];omega),hf,show (i + 1) * sz + j - sz= i * sz + j from by rw [Nat.add_mul,Nat.one_mul];omega]
    exact h2
theorem Jg (hf:∀y,(f y).length= sz) (xs:List T) (k:Nat) (u:Value) (h:(xs.flatMap f)[k]? =some u):∃i j x,xs[i]? =some x∧(f x)[j]? =some u∧k= i * sz + j:=by
  induction xs generalizing k with
  | nil=>simp at h
  | cons y xs eP=>
    rw [List.flatMap_cons] at h
    by_cases ax:k < (f y).length
    · rw [List.getElem?_append_left ax] at h
      exact⟨0,k,y,rfl,h,by omega⟩
    · rw [List.getElem?_append_right (by omega)] at h
      obtain⟨i,j,x,ay,bI,e⟩:=eP _ h
      exact⟨i + 1,j,x,by simpa using ay,bI,by rw [Nat.add_mul,Nat.one_mul];have:=hf y;omega⟩
theorem aX.nil:aX B e sz f w (.slice none 0 0) []:=World.ownsRow_nil _ _ _ _
theorem aX.form (h:aX B e sz f w v xs) (hf:∀y,(f y).length= sz):∃A c,v= .slice A xs.length c∧xs.length≤c∧aJ sz f w A xs∧(A= none→xs= []):=by
  obtain⟨aT,h⟩:=h
  rcases h with ⟨rfl,h0⟩ | ⟨g,cap,cur,rfl,bp,dM,mG,jQ,hM,wi⟩
  · have:xs= []:=List.length_eq_zero_iff.1 h0
    subst this
    exact⟨none,0,rfl,Nat.le_refl _,aJ.nil,fun _=>rfl⟩
  · refine⟨some ⟨g,0,none⟩,cap,rfl,mG,fun _=>⟨g,0,rfl,(Array.getElem?_eq_some_iff.1 dM).1,fun i x ay j u hu=>?_⟩,fun h=>by cases h⟩
    have h1:=Cj hf xs i x ay j u hu
    rw [← wi,List.getElem?_take] at h1
    split at h1
    · rw [Nat.zero_add,cell_of_row w g _ cur e (0,0) dM];simpa using h1
    · cases h1
theorem aX.fk {A:Option Addr} {n c:Nat} (h:aX B e sz f w (.slice A n c) xs) (hf:∀y,(f y).length= sz:=by intro y;rfl):aJ sz f w A xs:=by
  obtain⟨gK,cO,az,_,bN,_⟩:=h.form hf
  injection az with h1 h2 h3;subst h1;exact bN
theorem aX.U (h:aX B e sz f w v xs) {B':Nat} (aE:Below B' w ah) (bn:∀k,v.ownBlock= some k→k < B'):aX B e sz f ah v xs:=by
  refine⟨h.1,?_⟩
  rcases h.2 with bd | ⟨g,cap,cur,rfl,bp,dM,r⟩
  · exact .inl bd
  · exact .inr ⟨g,cap,cur,rfl,bp,by rw [aE.block g (bn g rfl)];exact dM,r⟩
theorem aX.lt (h:aX B e sz f w v xs):∀k,v.ownBlock= some k→B≤k∧k < w.heap.size:=World.ownsRow.lt h
theorem aX.bh (h:aX B e sz f w v xs) (aE:Below w w ah):aX B e sz f ah v xs:=h.U aE (fun k ax=>(h.lt k ax).2)
theorem aX.alloc (h:aX B e sz f w v xs) (o:Obj):aX B e sz f (w.alloc o) v xs:=World.ownsRow.alloc h o
theorem aX.kept {row:Option Nat} (h:aX B e sz f w v xs) (ck:w.grownBy ah row) (eg:∀k,v.ownBlock= some k→some k≠row):aX B e sz f ah v xs:=by
  refine⟨h.1,?_⟩
  rcases h.2 with bd | ⟨g,cap,cur,rfl,bp,dM,r⟩
  · exact .inl bd
  · exact .inr ⟨g,cap,cur,rfl,bp,by rw [ck.block g (Array.getElem?_eq_some_iff.1 dM).1 (eg g rfl)];exact dM,r⟩
theorem aX.base {B':Nat} (h:aX B e sz f w v xs) (bp:B'≤B):aX B' e sz f w v xs:=by
  refine⟨h.1,?_⟩
  rcases h.2 with bd | ⟨g,cap,cur,rfl,ck,r⟩
  · exact .inl bd
  · exact .inr ⟨g,cap,cur,rfl,by omega,r⟩
theorem aX.filled {g:Nat} {cs:Array Value} (aE:aC w g e cs) (bp:B≤g) (eW:cs.size= xs.length * sz) (hm:xs.length≤maxLen) (aj:∀i x,xs[i]? =some x→∀j u,(f x)[j]? =some u→cs[i * sz + j]? =some u)
    (hf:∀y,(f y).length= sz:=by intro y;rfl):aX B e sz f w (.slice (some ⟨g,0,none⟩) xs.length xs.length) xs:=by
  refine⟨mc hf xs,.inr ⟨g,xs.length,cs,rfl,bp,aE,Nat.le_refl _,hm,eW,?_⟩⟩
  rw [List.take_of_length_le (by simp [eW])]
  apply List.ext_getElem?
  intro k
  by_cases ax:k < (xs.flatMap f).length
  · obtain⟨i,j,x,ay,bI,rfl⟩:=Jg hf xs k _ (List.getElem?_eq_getElem ax)
    rw [List.getElem?_eq_getElem ax,← aj i x ay j _ bI];simp
  · rw [mc hf] at ax
    rw [List.getElem?_eq_none (by rw [Array.length_toList];omega),List.getElem?_eq_none (by rw [mc hf];omega)]
theorem aJ.flat {iZ:Addr} {ys:List T} (h:aJ sz f w (some iZ) ys) (hf:∀y,(f y).length= sz) (j:Nat) (u:Value) (hu:(ys.flatMap f)[j]? =some u):w.cell? (iZ.add j)= some u:=by
  obtain⟨i,rJ,y,hy,bI,rfl⟩:=Jg hf ys j u hu
  obtain⟨b,off,aU,_,aG⟩:=h (by have:=(List.getElem?_eq_some_iff.1 hy).1;omega)
  injection aU with aU;subst aU
  rw [← aG i y hy rJ u bI]
  congr 1
  unfold Addr.add
  split <;> simp_all [Nat.add_assoc]
theorem aJ.one (x:T) (t:TypeId):aJ sz f (w.alloc (.cells (f x).toArray t)) (some ⟨w.heap.size,0,none⟩) [x]:=fun _=>
  ⟨w.heap.size,0,rfl,by simp,fun i y hy j u hu=>by
    have h0:i= 0:=by have:=(List.getElem?_eq_some_iff.1 hy).1;simp at this;omega
    subst h0;simp at hy;subst hy
    rw [Nat.zero_mul,Nat.zero_add]
    exact ((aC.new w t _).cell j).trans (by simpa using hu)⟩
theorem aJ.alloc {A:Option Addr} (h:aJ sz f w A xs) (o:Obj):aJ sz f (w.alloc o) A xs:=h.U (ca w o)
end
section
variable {T:Type} {B:Nat} {e:TypeId} {sz:Nat} {f:T→List Value} {w ah:World} {v:Value} {xs:List T}
theorem aX.made (w:World) (bp:B≤w.heap.size) (e:TypeId):aX B e sz f (w.alloc (.cells #[] e)) (.slice w.heap.size 0 0) ([]:List T):=
  World.ownsRow_made w #[] 0 bp (by simp) (by simp)
theorem aX.mJ {A:Option Addr} {n c:Nat} (h:aX B e sz f w (.slice A n c) xs):A= none→xs= []∧c= 0:=by
  rintro rfl
  rcases h.2 with ⟨az,h0⟩ | ⟨g,cap,cur,az,_⟩
  · injection az with _ _ h3;exact⟨List.length_eq_zero_iff.1 h0,h3⟩
  · injection az with h1;cases h1
theorem Yq {n:Nat} {cells:List Value} {g j:Nat} {u:Value} (h:w.ownsRow B e sz v n cells) (ck:v.ownBlock= some g):(w.setCell ⟨g,j,none⟩ u).ownsRow B e sz v n (cells.set j u):=by
  obtain⟨aT,h⟩:=h
  refine⟨by simpa using aT,?_⟩
  rcases h with ⟨rfl,_⟩ | ⟨br,cap,cur,rfl,bp,dM,mG,jQ,hM,wi⟩
  · simp [Value.ownBlock] at ck
  · simp [Value.ownBlock] at ck;subst ck
    refine .inr ⟨br,cap,cur.setIfInBounds j u,rfl,bp,(aC.gI (w:=w) (g:=br) (t:=e) (cs:=cur) dM j u),mG,jQ,by simpa using hM,?_⟩
    rw [Array.toList_setIfInBounds,← wi,List.take_set]
theorem Yp {n:Nat} {cells:List Value} {g j:Nat} (h:w.ownsRow B e sz v n cells) (ck:v.ownBlock= some g) (bI:j < cells.length):w.cell? ⟨g,j,none⟩ =some cells[j]∧w.frozen? ⟨g,j,none⟩ =false:=by
  obtain⟨aT,h⟩:=h
  rcases h with ⟨rfl,_⟩ | ⟨br,cap,cur,rfl,bp,dM,mG,jQ,hM,wi⟩
  · simp [Value.ownBlock] at ck
  · simp [Value.ownBlock] at ck;subst ck
    refine⟨?_,aC.frozen (w:=w) (g:=br) (t:=e) (cs:=cur) dM j⟩
    rw [cell_of_row w br j cur e (0,0) dM]
    have h1:(cur.toList.take (n * sz))[j]? =some cells[j]:=by rw [wi];exact List.getElem?_eq_getElem bI
    rw [List.getElem?_take] at h1
    split at h1
    · simpa using h1
    · cases h1
theorem qe (w:World) (row:Option Nat):w.grownBy w row:=⟨rfl,rfl,rfl,Nat.le_refl _,fun _ _ _=>rfl⟩
theorem kO {a w:World} {g j:Nat} (h:a.grownBy w (some g)) (u:Value):a.grownBy (w.setCell ⟨g,j,none⟩ u) (some g):=
  ⟨h.os,h.tape,h.output,by simpa [World.setCell] using h.size,fun i hi eg=>(Below.heap_setCell w _ u i (by rintro rfl;exact eg rfl)).trans (h.block i hi eg)⟩
theorem pC {a b c:World} {row:Option Nat} (h:a.grownBy b row) (k:b.grownBy c row):a.grownBy c row:=
  ⟨k.os.trans h.os,k.tape.trans h.tape,k.output.trans h.output,Nat.le_trans h.size k.size,fun i hi eg=>(k.block i (Nat.lt_of_lt_of_le hi h.size) eg).trans (h.block i hi eg)⟩
theorem Ni {a b:World} {row:Option Nat} {B:Nat} (h:a.grownBy b row) (bp:B≤a.heap.size) (bz:∀k,row= some k→B≤k):Below B a b:=(Below.refl B a).grown h bp bz
theorem lz {a b:World} (h:Below a a b) (row:Option Nat):a.grownBy b row:=⟨h.os,h.tape,h.output,h.size,fun i hi _=>h.block i hi⟩
theorem aJ.grown {A:Option Addr} {row:Option Nat} (h:aJ sz f w A xs) (ck:w.grownBy ah row) (eg:∀iZ,A= some iZ→some iZ.block≠row):aJ sz f ah A xs:=fun bd=>by
  obtain⟨b,off,aU,bn,aG⟩:=h bd
  exact⟨b,off,aU,Nat.lt_of_lt_of_le bn ck.size,fun i x ay j u hu=>(World.cell?_of_block (ck.block b bn (eg _ aU))).trans (aG i x ay j u hu)⟩
end
theorem La {P:Program} {w:World} {ops:Array Oper} {rest:List Oper} {o:Oper} {a:Act} {Q:Exit→Act→World→Prop} (nw:o.guard= none) (s x:Operand) (t:TypeId)
    (dd:o.op= .call {callee:= .builtin .append,args:=#[s,x],argTypes:=#[t,t]})
    (B:Nat) (e:TypeId) (i:TypeInfo) (z:Value) (sz bytes:Nat) (cA:P.underlying t= some (.slice e)) (hi:P.info? e= some i) (cb:i.zero= some z)
    (uU:i.size= sz) (uD:i.bytes= bytes) (vf:z.cells.size= sz) (eW:0 < sz) {T:Type} (f:T→List Value) (hf:∀y,(f y).length= sz) (kl:∀y u,u ∈ f y→u.oneCell'= true)
    (v:Value) (xs:List T) (aZ:a.eval s= v) (Gz:aX B e sz f w v xs) (ak:Option Addr) (c2:Nat) (ys:List T) (ay:a.eval x= .slice ak ys c2) (bN:aJ sz f w ak ys)
    (aU:ak= none→ys= []∧c2= 0) (h63:xs.length + ys.length≤maxLen) (uE:(xs.length + ys.length) * bytes≤140737488355328) (Gd:B≤w.heap.size)
    (h:∀lT ah,aX B e sz f ah lT (xs ++ ys)→w.grownBy ah v.ownBlock→wpList P ops Q rest (a.put o.dst lT) ah):wpList P ops Q (o ::rest) a w:=by
  cases ak with
  | some iZ=>
    refine wpList_append_own w nw s x t dd B e i z sz bytes cA hi cb uU uD vf eW v xs.length (xs.flatMap f) aZ Gz iZ ys.length c2 (ys.flatMap f) ay (mc hf ys) (fun j u hu=>aJ.flat bN hf j u hu)
      (fun u hu=>by obtain⟨y,_,hy⟩:=List.mem_flatMap.1 hu;exact kl y u hy) h63 uE Gd (fun lT ah h1 h2 _=>h lT ah ?_ h2)
    unfold aX;rw [List.length_append,List.flatMap_append];exact h1
  | none=>
    obtain⟨rfl,rfl⟩:=aU rfl
    exact wpList_append_own_none nw s x t dd B e i sz cA hi v xs.length (xs.flatMap f) aZ Gz ay (h v w (by simpa using Gz) ⟨rfl,rfl,rfl,Nat.le_refl _,fun _ _ _=>rfl⟩)
open Go.RowKit
instance asI (w:World):Nonempty (PLift (Below w.heap.size w w)):=⟨⟨Below.refl _ _⟩⟩
instance asH (w W:World) (o:Obj) [h:Nonempty (PLift (Below w.heap.size w W))]:Nonempty (PLift (Below w.heap.size w (W.alloc o))):=⟨⟨h.elim fun x=>x.down.alloc x.down.size _⟩⟩
theorem aw {w W:World} [h:Nonempty (PLift (Below w w W))]:Below w w W:=h.elim fun x=>x.down
section
variable {w W:World} {g:Nat} {t:TypeId}
theorem aC.mv {a0 a1:Value} (h:aC w g t #[a0,a1]):w.cell? ⟨g,0,none⟩ =some a0∧w.cell? ⟨g,1,none⟩ =some a1:=⟨h.cell 0,h.cell 1⟩
theorem aC.IY {vz:Sort _} {V:vz→World} {a0 a1:Value} (h:∀k,aC (V k) g t #[a0,a1]):(∀k,(V k).cell? ⟨g,0,none⟩ =some a0)∧(∀k,(V k).cell? ⟨g,1,none⟩ =some a1):=⟨fun k=>(h k).cell 0,fun k=>(h k).cell 1⟩
theorem aC.xl {cs:Array Value} (h:aC w g t cs):w.frozen? ⟨g,0,none⟩ =false∧w.frozen? ⟨g,1,none⟩ =false:=⟨h.frozen 0,h.frozen 1⟩
theorem aC.cK {a0 a1 a2:Value} (h:aC w g t #[a0,a1,a2]):w.cell? ⟨g,0,none⟩ =some a0∧w.cell? ⟨g,1,none⟩ =some a1∧w.cell? ⟨g,2,none⟩ =some a2:=⟨h.cell 0,h.cell 1,h.cell 2⟩
theorem aC.jN {vz:Sort _} {V:vz→World} {a0 a1 a2:Value} (h:∀k,aC (V k) g t #[a0,a1,a2]):(∀k,(V k).cell? ⟨g,0,none⟩ =some a0)∧(∀k,(V k).cell? ⟨g,1,none⟩ =some a1)∧(∀k,(V k).cell? ⟨g,2,none⟩ =some a2):=⟨fun k=>(h k).cell 0,fun k=>(h k).cell 1,fun k=>(h k).cell 2⟩
theorem aC.nT {cs:Array Value} (h:aC w g t cs):w.frozen? ⟨g,0,none⟩ =false∧w.frozen? ⟨g,1,none⟩ =false∧w.frozen? ⟨g,2,none⟩ =false:=⟨h.frozen 0,h.frozen 1,h.frozen 2⟩
theorem aC.aS {a0 a1 a2 a3 a4:Value} (h:aC w g t #[a0,a1,a2,a3,a4]):w.cell? ⟨g,0,none⟩ =some a0∧w.cell? ⟨g,1,none⟩ =some a1∧w.cell? ⟨g,2,none⟩ =some a2∧w.cell? ⟨g,3,none⟩ =some a3∧w.cell? ⟨g,4,none⟩ =some a4:=⟨h.cell 0,h.cell 1,h.cell 2,h.cell 3,h.cell 4⟩
theorem aC.kz {vz:Sort _} {V:vz→World} {a0 a1 a2 a3 a4:Value} (h:∀k,aC (V k) g t #[a0,a1,a2,a3,a4]):(∀k,(V k).cell? ⟨g,0,none⟩ =some a0)∧(∀k,(V k).cell? ⟨g,1,none⟩ =some a1)∧(∀k,(V k).cell? ⟨g,2,none⟩ =some a2)∧(∀k,(V k).cell? ⟨g,3,none⟩ =some a3)∧(∀k,(V k).cell? ⟨g,4,none⟩ =some a4):=⟨fun k=>(h k).cell 0,fun k=>(h k).cell 1,fun k=>(h k).cell 2,fun k=>(h k).cell 3,fun k=>(h k).cell 4⟩
theorem aC.jh {cs:Array Value} (h:aC w g t cs):w.frozen? ⟨g,0,none⟩ =false∧w.frozen? ⟨g,1,none⟩ =false∧w.frozen? ⟨g,2,none⟩ =false∧w.frozen? ⟨g,3,none⟩ =false∧w.frozen? ⟨g,4,none⟩ =false:=⟨h.frozen 0,h.frozen 1,h.frozen 2,h.frozen 3,h.frozen 4⟩
theorem aC.df {a0 a1 a2 a3 a4 a5:Value} (h:aC w g t #[a0,a1,a2,a3,a4,a5]):w.cell? ⟨g,0,none⟩ =some a0∧w.cell? ⟨g,1,none⟩ =some a1∧w.cell? ⟨g,2,none⟩ =some a2∧w.cell? ⟨g,3,none⟩ =some a3∧w.cell? ⟨g,4,none⟩ =some a4∧w.cell? ⟨g,5,none⟩ =some a5:=⟨h.cell 0,h.cell 1,h.cell 2,h.cell 3,h.cell 4,h.cell 5⟩
theorem aC.MH {vz:Sort _} {V:vz→World} {a0 a1 a2 a3 a4 a5:Value} (h:∀k,aC (V k) g t #[a0,a1,a2,a3,a4,a5]):(∀k,(V k).cell? ⟨g,0,none⟩ =some a0)∧(∀k,(V k).cell? ⟨g,1,none⟩ =some a1)∧(∀k,(V k).cell? ⟨g,2,none⟩ =some a2)∧(∀k,(V k).cell? ⟨g,3,none⟩ =some a3)∧(∀k,(V k).cell? ⟨g,4,none⟩ =some a4)∧(∀k,(V k).cell? ⟨g,5,none⟩ =some a5):=⟨fun k=>(h k).cell 0,fun k=>(h k).cell 1,fun k=>(h k).cell 2,fun k=>(h k).cell 3,fun k=>(h k).cell 4,fun k=>(h k).cell 5⟩
theorem aC.tg {cs:Array Value} (h:aC w g t cs):w.frozen? ⟨g,0,none⟩ =false∧w.frozen? ⟨g,1,none⟩ =false∧w.frozen? ⟨g,2,none⟩ =false∧w.frozen? ⟨g,3,none⟩ =false∧w.frozen? ⟨g,4,none⟩ =false∧w.frozen? ⟨g,5,none⟩ =false:=⟨h.frozen 0,h.frozen 1,h.frozen 2,h.frozen 3,h.frozen 4,h.frozen 5⟩
theorem aC.qC {a0 a1 a2 a3 a4 a5 a6:Value} (h:aC w g t #[a0,a1,a2,a3,a4,a5,a6]):w.cell? ⟨g,0,none⟩ =some a0∧w.cell? ⟨g,1,none⟩ =some a1∧w.cell? ⟨g,2,none⟩ =some a2∧w.cell? ⟨g,3,none⟩ =some a3∧w.cell? ⟨g,4,none⟩ =some a4∧w.cell? ⟨g,5,none⟩ =some a5∧w.cell? ⟨g,6,none⟩ =some a6:=⟨h.cell 0,h.cell 1,h.cell 2,h.cell 3,h.cell 4,h.cell 5,h.cell 6⟩
theorem aC.FB {cs:Array Value} (h:aC w g t cs):w.frozen? ⟨g,0,none⟩ =false∧w.frozen? ⟨g,1,none⟩ =false∧w.frozen? ⟨g,2,none⟩ =false∧w.frozen? ⟨g,3,none⟩ =false∧w.frozen? ⟨g,4,none⟩ =false∧w.frozen? ⟨g,5,none⟩ =false∧w.frozen? ⟨g,6,none⟩ =false:=⟨h.frozen 0,h.frozen 1,h.frozen 2,h.frozen 3,h.frozen 4,h.frozen 5,h.frozen 6⟩
theorem aC.aI {a0 a1 a2 a3 a4 a5 a6 a7:Value} (h:aC w g t #[a0,a1,a2,a3,a4,a5,a6,a7]):w.cell? ⟨g,0,none⟩ =some a0∧w.cell? ⟨g,1,none⟩ =some a1∧w.cell? ⟨g,2,none⟩ =some a2∧w.cell? ⟨g,3,none⟩ =some a3∧w.cell? ⟨g,4,none⟩ =some a4∧w.cell? ⟨g,5,none⟩ =some a5∧w.cell? ⟨g,6,none⟩ =some a6∧w.cell? ⟨g,7,none⟩ =some a7:=⟨h.cell 0,h.cell 1,h.cell 2,h.cell 3,h.cell 4,h.cell 5,h.cell 6,h.cell 7⟩
theorem aC.qb {vz:Sort _} {V:vz→World} {a0 a1 a2 a3 a4 a5 a6 a7:Value} (h:∀k,aC (V k) g t #[a0,a1,a2,a3,a4,a5,a6,a7]):(∀k,(V k).cell? ⟨g,0,none⟩ =some a0)∧(∀k,(V k).cell? ⟨g,1,none⟩ =some a1)∧(∀k,(V k).cell? ⟨g,2,none⟩ =some a2)∧(∀k,(V k).cell? ⟨g,3,none⟩ =some a3)∧(∀k,(V k).cell? ⟨g,4,none⟩ =some a4)∧(∀k,(V k).cell? ⟨g,5,none⟩ =some a5)∧(∀k,(V k).cell? ⟨g,6,none⟩ =some a6)∧(∀k,(V k).cell? ⟨g,7,none⟩ =some a7):=⟨fun k=>(h k).cell 0,fun k=>(h k).cell 1,fun k=>(h k).cell 2,fun k=>(h k).cell 3,fun k=>(h k).cell 4,fun k=>(h k).cell 5,fun k=>(h k).cell 6,fun k=>(h k).cell 7⟩
theorem aC.jb {cs:Array Value} (h:aC w g t cs):w.frozen? ⟨g,0,none⟩ =false∧w.frozen? ⟨g,1,none⟩ =false∧w.frozen? ⟨g,2,none⟩ =false∧w.frozen? ⟨g,3,none⟩ =false∧w.frozen? ⟨g,4,none⟩ =false∧w.frozen? ⟨g,5,none⟩ =false∧w.frozen? ⟨g,6,none⟩ =false∧w.frozen? ⟨g,7,none⟩ =false:=⟨h.frozen 0,h.frozen 1,h.frozen 2,h.frozen 3,h.frozen 4,h.frozen 5,h.frozen 6,h.frozen 7⟩
theorem aC.Ji {cs:Array Value} (h:aC w g t cs):w.frozen? ⟨g,0,none⟩ =false∧w.frozen? ⟨g,1,none⟩ =false∧w.frozen? ⟨g,2,none⟩ =false∧w.frozen? ⟨g,3,none⟩ =false∧w.frozen? ⟨g,4,none⟩ =false∧w.frozen? ⟨g,5,none⟩ =false∧w.frozen? ⟨g,6,none⟩ =false∧w.frozen? ⟨g,7,none⟩ =false∧w.frozen? ⟨g,8,none⟩ =false:=⟨h.frozen 0,h.frozen 1,h.frozen 2,h.frozen 3,h.frozen 4,h.frozen 5,h.frozen 6,h.frozen 7,h.frozen 8⟩
theorem aC.bQ {a0 a1 a2 a3 a4 a5 a6 a7 a8 a9 a10:Value} (h:aC w g t #[a0,a1,a2,a3,a4,a5,a6,a7,a8,a9,a10]):w.cell? ⟨g,0,none⟩ =some a0∧w.cell? ⟨g,1,none⟩ =some a1∧w.cell? ⟨g,2,none⟩ =some a2∧w.cell? ⟨g,3,none⟩ =some a3∧w.cell? ⟨g,4,none⟩ =some a4∧w.cell? ⟨g,5,none⟩ =some a5∧w.cell? ⟨g,6,none⟩ =some a6∧w.cell? ⟨g,7,none⟩ =some a7∧w.cell? ⟨g,8,none⟩ =some a8∧w.cell? ⟨g,9,none⟩ =some a9∧w.cell? ⟨g,10,none⟩ =some a10:=⟨h.cell 0,h.cell 1,h.cell 2,h.cell 3,h.cell 4,h.cell 5,h.cell 6,h.cell 7,h.cell 8,h.cell 9,h.cell 10⟩
theorem aC.ru {vz:Sort _} {V:vz→World} {a0 a1 a2 a3 a4 a5 a6 a7 a8 a9 a10:Value} (h:∀k,aC (V k) g t #[a0,a1,a2,a3,a4,a5,a6,a7,a8,a9,a10]):(∀k,(V k).cell? ⟨g,0,none⟩ =some a0)∧(∀k,(V k).cell? ⟨g,1,none⟩ =some a1)∧(∀k,(V k).cell? ⟨g,2,none⟩ =some a2)∧(∀k,(V k).cell? ⟨g,3,none⟩ =some a3)∧(∀k,(V k).cell? ⟨g,4,none⟩ =some a4)∧(∀k,(V k).cell? ⟨g,5,none⟩ =some a5)∧(∀k,(V k).cell? ⟨g,6,none⟩ =some a6)∧(∀k,(V k).cell? ⟨g,7,none⟩ =some a7)∧(∀k,(V k).cell? ⟨g,8,none⟩ =some a8)∧(∀k,(V k).cell? ⟨g,9,none⟩ =some a9)∧(∀k,(V k).cell? ⟨g,10,none⟩ =some a10):=⟨fun k=>(h k).cell 0,fun k=>(h k).cell 1,fun k=>(h k).cell 2,fun k=>(h k).cell 3,fun k=>(h k).cell 4,fun k=>(h k).cell 5,fun k=>(h k).cell 6,fun k=>(h k).cell 7,fun k=>(h k).cell 8,fun k=>(h k).cell 9,fun k=>(h k).cell 10⟩
theorem aC.gS {cs:Array Value} (h:aC w g t cs):w.frozen? ⟨g,0,none⟩ =false∧w.frozen? ⟨g,1,none⟩ =false∧w.frozen? ⟨g,2,none⟩ =false∧w.frozen? ⟨g,3,none⟩ =false∧w.frozen? ⟨g,4,none⟩ =false∧w.frozen? ⟨g,5,none⟩ =false∧w.frozen? ⟨g,6,none⟩ =false∧w.frozen? ⟨g,7,none⟩ =false∧w.frozen? ⟨g,8,none⟩ =false∧w.frozen? ⟨g,9,none⟩ =false∧w.frozen? ⟨g,10,none⟩ =false:=⟨h.frozen 0,h.frozen 1,h.frozen 2,h.frozen 3,h.frozen 4,h.frozen 5,h.frozen 6,h.frozen 7,h.frozen 8,h.frozen 9,h.frozen 10⟩
end
def wz:List Value→Nat→List Value→List Value
  | [],_,_=>[]
  | c ::cs,0,[]=>c ::cs
  | _ ::cs,0,v ::vs=>v ::wz cs 0 vs
  | c ::cs,k + 1,vs=>c ::wz cs k vs
theorem ZG:∀(l:List Value) (k:Nat),wz l k []= l
  | [],_=>rfl
  | _ ::_,0=>rfl
  | c ::cs,k + 1=>by rw [wz,ZG cs k]
theorem ZH:∀(l:List Value) (k:Nat) (v:Value) (vs:List Value),wz (l.set k v) (k + 1) vs= wz l k (v ::vs)
  | [],_,_,_=>by simp [wz]
  | c ::cs,0,v,vs=>by simp [wz]
  | c ::cs,k + 1,v,vs=>by simp [wz,ZH cs k v vs]
structure dA (w:World) (g k:Nat) (vs:List Value) (W:World):Prop where
  fG:w.grownBy W (some g)
  sz:W.heap.size= w.heap.size
  own:∀{t:TypeId} {l:List Value},aC w g t ⟨l⟩→aC W g t ⟨wz l k vs⟩
  MP:∀{p:Nat} {t:TypeId} {cs:Array Value},aC w p t cs→p≠g→aC W p t cs
  aE:∀{n:Nat} {w0:World},Below n w0 w→n≤g→Below n w0 W
theorem dA.dJ {w W:World} {g k p:Nat} {vs:List Value} {t:TypeId} {cs:Array Value} (h:dA w g k vs W) (b:aC w p t cs) (eg:p≠g:=by omega):aC W p t cs:=h.MP b eg
theorem dA.aG {w W w0:World} {g k n:Nat} {vs:List Value} (h:dA w g k vs W) (b:Below n w0 w) (bd:n≤g:=by omega):Below n w0 W:=h.aE b bd
theorem be (w:World) {b W:World} [Nonempty (PLift (Below w w b))] (h:Below b b W):Below w w W:=ai aw h
theorem hc {P:Program} {fn:Func} {R:Ending→World→Prop} {a:Act} {w:World} {v:Value} (bN:R (.returned v) w) (bz:(results fn a.tmps).run P w= .ok v w) (bS:a.defers= []:=by rfl):bodyPost P fn R .ret a w:=⟨bS,v,bz,bN⟩
theorem dA.nil {w:World} {g k:Nat}:dA w g k [] w:=⟨qe _ _,rfl,fun {_ l} h=>by rw [ZG l k];exact h,fun h _=>h,fun h _=>h⟩
theorem dA.cons {w W:World} {g k:Nat} {v:Value} {vs:List Value} (h:dA (w.setCell ⟨g,k,none⟩ v) g (k + 1) vs W):dA w g k (v ::vs) W:=
  ⟨pC (kO (qe w (some g)) v) h.fG,h.sz.trans (by simp [World.setCell]),fun {_ l} b=>by rw [← ZH l k v vs];exact h.own (by simpa using b.gI k v),fun b bd=>h.MP (b.vU (p:=⟨g,k,none⟩) bd v) bd,fun b bd=>h.aE (b.setCell (p:=⟨g,k,none⟩) bd v) bd⟩
theorem aC.to {w W:World} {g:Nat} {t:TypeId} {cs:Array Value} (h:aC w g t cs) (aE:Below w w W):aC W g t cs:=h.U aE h.lt
theorem J {p:Prop} (h:p):Hid p:=Lib.hid h
theorem aX.bY {T:Type} {B sz:Nat} {f:T→List Value} {e:TypeId} {w W:World} {v:Value} {xs:List T} {g k:Nat} {vs:List Value} (h:aX B e sz f w v xs) (s:dA w g k vs W) (eg:∀q,v.ownBlock= some q→¬q= g):aX B e sz f W v xs:=h.kept s.fG (fun q bf e=>eg q bf (Option.some.inj e))
section
variable {w W:World} {g:Nat} {t:TypeId} {Q:World→Prop}
theorem kG (k:Nat) {a0:Value} (h:∀W,dA w g k [a0] W→Q W):Q (World.setCell w ⟨g,k,none⟩ a0):=h _ (dA.cons dA.nil)
theorem sP (k:Nat) {a0 a1 a2:Value} (h:∀W,dA w g k [a0,a1,a2] W→Q W):Q (World.setCell (World.setCell (World.setCell w ⟨g,k,none⟩ a0) ⟨g,k + 1,none⟩ a1) ⟨g,k + 2,none⟩ a2):=h _ (dA.cons (dA.cons (dA.cons dA.nil)))
theorem dA.vP {a0 a1 a2 eb ds du:Value} (h:dA w g 0 [a0,a1,a2] W) (b:aC w g t #[eb,ds,du]):aC W g t #[a0,a1,a2]:=h.own b
theorem gT (k:Nat) {a0 a1 a2 a3 a4:Value} (h:∀W,dA w g k [a0,a1,a2,a3,a4] W→Q W):Q (World.setCell (World.setCell (World.setCell (World.setCell (World.setCell w ⟨g,k,none⟩ a0) ⟨g,k + 1,none⟩ a1) ⟨g,k + 2,none⟩ a2) ⟨g,k + 3,none⟩ a3) ⟨g,k + 4,none⟩ a4):=h _ (dA.cons (dA.cons (dA.cons (dA.cons (dA.cons dA.nil)))))
theorem dA.iK {a0 a1 a2 a3 a4 eb ds du ew fm:Value} (h:dA w g 0 [a0,a1,a2,a3,a4] W) (b:aC w g t #[eb,ds,du,ew,fm]):aC W g t #[a0,a1,a2,a3,a4]:=h.own b
theorem tD (k:Nat) {a0 a1 a2 a3 a4 a5:Value} (h:∀W,dA w g k [a0,a1,a2,a3,a4,a5] W→Q W):Q (World.setCell (World.setCell (World.setCell (World.setCell (World.setCell (World.setCell w ⟨g,k,none⟩ a0) ⟨g,k + 1,none⟩ a1) ⟨g,k + 2,none⟩ a2) ⟨g,k + 3,none⟩ a3) ⟨g,k + 4,none⟩ a4) ⟨g,k + 5,none⟩ a5):=h _ (dA.cons (dA.cons (dA.cons (dA.cons (dA.cons (dA.cons dA.nil))))))
theorem dA.ta {a0 a1 a2 a3 a4 a5 eb ds du ew fm hJ:Value} (h:dA w g 0 [a0,a1,a2,a3,a4,a5] W) (b:aC w g t #[eb,ds,du,ew,fm,hJ]):aC W g t #[a0,a1,a2,a3,a4,a5]:=h.own b
theorem HI (k:Nat) {a0 a1 a2 a3 a4 a5 a6:Value} (h:∀W,dA w g k [a0,a1,a2,a3,a4,a5,a6] W→Q W):Q (World.setCell (World.setCell (World.setCell (World.setCell (World.setCell (World.setCell (World.setCell w ⟨g,k,none⟩ a0) ⟨g,k + 1,none⟩ a1) ⟨g,k + 2,none⟩ a2) ⟨g,k + 3,none⟩ a3) ⟨g,k + 4,none⟩ a4) ⟨g,k + 5,none⟩ a5) ⟨g,k + 6,none⟩ a6):=h _ (dA.cons (dA.cons (dA.cons (dA.cons (dA.cons (dA.cons (dA.cons dA.nil)))))))
theorem dA.EZ {a0 a1 a2 a3 a4 a5 a6 eb ds du ew fm hJ ia:Value} (h:dA w g 0 [a0,a1,a2,a3,a4,a5,a6] W) (b:aC w g t #[eb,ds,du,ew,fm,hJ,ia]):aC W g t #[a0,a1,a2,a3,a4,a5,a6]:=h.own b
theorem iE (k:Nat) {a0 a1 a2 a3 a4 a5 a6 a7:Value} (h:∀W,dA w g k [a0,a1,a2,a3,a4,a5,a6,a7] W→Q W):Q (World.setCell (World.setCell (World.setCell (World.setCell (World.setCell (World.setCell (World.setCell (World.setCell w ⟨g,k,none⟩ a0) ⟨g,k + 1,none⟩ a1) ⟨g,k + 2,none⟩ a2) ⟨g,k + 3,none⟩ a3) ⟨g,k + 4,none⟩ a4) ⟨g,k + 5,none⟩ a5) ⟨g,k + 6,none⟩ a6) ⟨g,k + 7,none⟩ a7):=h _ (dA.cons (dA.cons (dA.cons (dA.cons (dA.cons (dA.cons (dA.cons (dA.cons dA.nil))))))))
theorem dA.ja {a0 a1 a2 a3 a4 a5 a6 a7 eb ds du ew fm hJ ia fW:Value} (h:dA w g 0 [a0,a1,a2,a3,a4,a5,a6,a7] W) (b:aC w g t #[eb,ds,du,ew,fm,hJ,ia,fW]):aC W g t #[a0,a1,a2,a3,a4,a5,a6,a7]:=h.own b
theorem dA.anW {w W:World} {g:Nat} {t:TypeId} {a0 eb ds du ew fm:Value} (h:dA w g 0 [a0] W) (b:aC w g t #[eb,ds,du,ew,fm]):aC W g t #[a0,ds,du,ew,fm]:=h.own b
theorem dA.anX {w W:World} {g:Nat} {t:TypeId} {a0 eb ds du ew fm hJ ia fW:Value} (h:dA w g 0 [a0] W) (b:aC w g t #[eb,ds,du,ew,fm,hJ,ia,fW]):aC W g t #[a0,ds,du,ew,fm,hJ,ia,fW]:=h.own b
theorem dA.PT {w W:World} {g:Nat} {t:TypeId} {a0 a1 a2 a3 a4 a5 a6 a7 eb ds du ew fm hJ ia fW td si yF:Value} (h:dA w g 0 [a0,a1,a2,a3,a4,a5,a6,a7] W) (b:aC w g t #[eb,ds,du,ew,fm,hJ,ia,fW,td,si,yF]):aC W g t #[a0,a1,a2,a3,a4,a5,a6,a7,td,si,yF]:=h.own b
theorem dA.hV {w W:World} {g:Nat} {t:TypeId} {a0 a1 a2 a3 a4 a5 a6 a7 a8 a9 a10 eb ds du ew fm hJ ia fW td si yF:Value} (h:dA w g 0 [a0,a1,a2,a3,a4,a5,a6,a7,a8,a9,a10] W) (b:aC w g t #[eb,ds,du,ew,fm,hJ,ia,fW,td,si,yF]):aC W g t #[a0,a1,a2,a3,a4,a5,a6,a7,a8,a9,a10]:=h.own b
theorem dA.YA {w W:World} {g:Nat} {t:TypeId} {a0 eb ds du:Value} (h:dA w g 1 [a0] W) (b:aC w g t #[eb,ds,du]):aC W g t #[eb,a0,du]:=h.own b
theorem dA.anY {w W:World} {g:Nat} {t:TypeId} {a0 eb ds du ew fm:Value} (h:dA w g 1 [a0] W) (b:aC w g t #[eb,ds,du,ew,fm]):aC W g t #[eb,a0,du,ew,fm]:=h.own b
theorem dA.Ht {w W:World} {g:Nat} {t:TypeId} {a0 eb ds du ew fm hJ ia fW:Value} (h:dA w g 1 [a0] W) (b:aC w g t #[eb,ds,du,ew,fm,hJ,ia,fW]):aC W g t #[eb,a0,du,ew,fm,hJ,ia,fW]:=h.own b
theorem dA.PU {w W:World} {g:Nat} {t:TypeId} {a0 eb ds du:Value} (h:dA w g 2 [a0] W) (b:aC w g t #[eb,ds,du]):aC W g t #[eb,ds,a0]:=h.own b
theorem dA.Kt {w W:World} {g:Nat} {t:TypeId} {a0 eb ds du ew fm:Value} (h:dA w g 2 [a0] W) (b:aC w g t #[eb,ds,du,ew,fm]):aC W g t #[eb,ds,a0,ew,fm]:=h.own b
theorem dA.Dl {w W:World} {g:Nat} {t:TypeId} {a0 a1 a2 a3 a4 eb ds du ew fm hJ ia fW:Value} (h:dA w g 2 [a0,a1,a2,a3,a4] W) (b:aC w g t #[eb,ds,du,ew,fm,hJ,ia,fW]):aC W g t #[eb,ds,a0,a1,a2,a3,a4,fW]:=h.own b
theorem dA.Dm {w W:World} {g:Nat} {t:TypeId} {a0 eb ds du ew fm:Value} (h:dA w g 3 [a0] W) (b:aC w g t #[eb,ds,du,ew,fm]):aC W g t #[eb,ds,du,a0,fm]:=h.own b
theorem dA.PV {w W:World} {g:Nat} {t:TypeId} {a0 eb ds du ew fm:Value} (h:dA w g 4 [a0] W) (b:aC w g t #[eb,ds,du,ew,fm]):aC W g t #[eb,ds,du,ew,a0]:=h.own b
theorem dA.PW {w W:World} {g:Nat} {t:TypeId} {a0 eb ds du ew fm hJ ia fW:Value} (h:dA w g 7 [a0] W) (b:aC w g t #[eb,ds,du,ew,fm,hJ,ia,fW]):aC W g t #[eb,ds,du,ew,fm,hJ,ia,a0]:=h.own b
theorem dA.PX {w W:World} {g:Nat} {t:TypeId} {a0 a1 a2 eb ds du ew fm hJ ia fW td si yF:Value} (h:dA w g 8 [a0,a1,a2] W) (b:aC w g t #[eb,ds,du,ew,fm,hJ,ia,fW,td,si,yF]):aC W g t #[eb,ds,du,ew,fm,hJ,ia,fW,a0,a1,a2]:=h.own b
theorem aX.asM {T:Type} {B sz:Nat} {f:T→List Value} {e:TypeId} {w ah:World} {v:Value} {xs:List T} {p:Nat} (h:aX B e sz f w v xs) (ck:w.grownBy ah (some p)) (aR:p < B:=by omega):aX B e sz f ah v xs:=h.kept ck (fun k ax e=>by have:=(h.lt k ax).1;have:=Option.some.inj e;omega)
theorem aC.att {w ah:World} {g p:Nat} {t:TypeId} {cs:Array Value} (h:aC w g t cs) (ck:w.grownBy ah (some p)) (eg:g≠p:=by omega):aC ah g t cs:=(ck.block g h.lt (fun e=>eg (Option.some.inj e))).trans h
theorem aC.ey {b bg:World} {g:Nat} {t:TypeId} {A:Array Value} (aE:Below b.heap.size b bg) (h:aC b g t A:=by repeat (first | exact aC.new _ _ _ | exact aC.Hk _ _ _ _ | exact aC.Ki _ _ _ _ _ | exact aC.anp _ _ _ _ _ _ | refine aC.alloc ?_ _)) (aT:g < b.heap.size:=by simp <;> omega):aC bg g t A:=h.U aE aT
theorem cR {c0:Array Value} {t0:TypeId} (h:∀W,Below w w W→aC W (w.heap.size) t0 c0→Q W):Q (World.alloc w (.cells c0 t0)):=h _ (ca _ _) (aC.new _ _ _)
theorem fp {c0 au:Array Value} {t0 t1:TypeId} (h:∀W,Below w w W→aC W (w.heap.size) t0 c0→aC W (w.heap.size + 1) t1 au→Q W):Q (World.alloc (World.alloc w (.cells c0 t0)) (.cells au t1)):=h _ (xb _ _ _) ((aC.new _ _ _).alloc _) (aC.Hk _ _ _ _)
theorem fv {c0 au c2:Array Value} {t0 t1 t2:TypeId} (h:∀W,Below w w W→aC W (w.heap.size) t0 c0→aC W (w.heap.size + 1) t1 au→aC W (w.heap.size + 1 + 1) t2 c2→Q W):Q (World.alloc (World.alloc (World.alloc w (.cells c0 t0)) (.cells au t1)) (.cells c2 t2)):=h _ (MA _ _ _ _) (((aC.new _ _ _).alloc _).alloc _) ((aC.Hk _ _ _ _).alloc _) (aC.Ki _ _ _ _ _)
end
open Go.RowKit
section
variable {P:Program} {ops:Array Oper} {md:Region.Mode} {C:World→Prop}
def HO (P:Program) (md:Region.Mode) (ops:Array Oper) (C:World→Prop) (n:Nat) (L:Array Bool→Act→Prop):Nat→Array Bool→Act→Prop
 | 0,listed,a=>L listed a
 | f + 1,listed,a=>
  Region.ready md ops listed≠[]∧∀i ∈ Region.ready md ops listed,i < n∧qOp P ops C i (HO P md ops C n L f (listed.setIfInBounds i true)) a
theorem aaD {n g:Nat} {L:Array Bool→Act→Prop} {Q':Exit→Act→World→Prop} (ib:∀listed a,L listed a→∀w,C w→wpAny P md ops Q' g listed a w):
  ∀(f:Nat) (listed:Array Bool) (a:Act),HO P md ops C n L f listed a→∀w,C w→wpAny P md ops Q' (f + g) listed a w
 | 0,listed,a,h=>by rw [Nat.zero_add];exact ib _ _ h
 | f + 1,listed,a,h=>fun w hw=>by
  rw [show f + 1 + g= (f + g) + 1 by omega]
  exact⟨fun h0=>absurd h0 h.1,fun i hi=>wpOp_of_qOp hw (fun a' ah vc dv=>aaD ib f _ a' dv ah vc) (h.2 i hi).2⟩
theorem acd {p:Prop} (h:p:=by
 rcases Nat.lt_or_ge j n with h | h
 ·exact h
 ·exact absurd bI (tail_waits aZ aG bd inv _ i rfl hC uX j h)):p:=h
theorem arX {n i:Nat} {dT:Oper} {v:Value} {L:Array Bool→Act→Prop} (hi:ops[i]? =some dT) (fx:∀(j:Nat) (o:Oper) cs b,ops[j]? =some o→o.op≠.select cs b)
  (aZ:Region.sinkB md ops n= true) (aG:Region.chainB md ops n= true) (bd:n < ops.size) (hC:i < n)
  (uG:∀listed a,L listed a→∀j ∈ Region.ready md ops listed,n≤j):
  ∀(f:Nat) (listed:Array Bool) (a:Act),HeadInv md ops n listed→
   (∀j fe,ops[j]? =some fe→j≠i→listed.getD j true= false→(∀e ∈ fe.after,Region.binds md e= true→e.on≠i)→dT.apart ops fe= true)→
   i ∈ Region.ready md ops listed→YieldsIn P ops C dT v a→
   HO P md ops C n L f (listed.setIfInBounds i true) (a.put dT.dst v)→HO P md ops C n L (f + 1) listed a:=by
 intro f
 induction f with
 | zero=>
  intro listed a inv _ bz hy H
  have uX:=(mem_ready.1 bz).1
  refine⟨fun h=>(by rw [h] at bz;cases bz),fun j bI=>?_⟩
  have Jx:j < n:=by
   exact acd
  refine⟨Jx,?_⟩
  by_cases pF:j= i
  ·subst pF;exact hy.qOp hi H
  ·have:=uG _ _ H j (ready_mono bI pF)
   omega
 | succ f eP=>
  intro listed a inv Gn bz hy H
  have uX:=(mem_ready.1 bz).1
  refine⟨fun h=>(by rw [h] at bz;cases bz),fun j bI=>?_⟩
  have Jx:j < n:=by
   exact acd
  refine⟨Jx,?_⟩
  by_cases pF:j= i
  ·subst pF;exact hy.qOp hi H
  ·have h1:=(H.2 j (ready_mono bI pF)).2
   obtain⟨Gr,fe,hd,lP⟩:=mem_ready.1 bI
   have OB:∀e ∈ fe.after,Region.binds md e= true→e.on≠i:=fun e he aE heq=>by
    have h1:=lP e he aE
    rw [heq,getD_both uX] at h1
    cases h1
   have h2:=qOp_put hd (Gn j fe hd pF Gr OB) (fun cs b=>fx i dT cs b hi) (fun cs b=>fx j fe cs b hd) hy h1;have Ob:∀k ok,ops[k]? =some ok→k≠i→(listed.setIfInBounds j true).getD k true= false→
     (∀e ∈ ok.after,Region.binds md e= true→e.on≠i)→dT.apart ops ok= true:=fun k ok ax Ol uX hn=>by
    refine Gn k ok ax Ol ?_ hn
    by_cases xy:j= k
    ·subst xy;exact Gr
    ·rw [getD_set_ne true xy] at uX;exact uX
   refine qOp_mono (fun a' h3=>eP (listed.setIfInBounds j true) a' (inv.set bI Jx) Ob (ready_mono bz (Ne.symm pF)) h3.1 ?_) h2
   rw [Array.setIfInBounds_comm _ _ pF]
   exact h3.2
theorem aaB {n g:Nat} {Mf:Act→Prop} (fx:Region.noSelect ops= true) (aZ:Region.sinkB md ops n= true) (aG:Region.chainB md ops n= true) (bd:n < ops.size):
  ∀(l:List Oper) (k:Nat) (listed:Array Bool) (a:Act),(∀j,j < l.length→l[j]? =ops[k + j]?)→k + l.length= n→HeadInv md ops n listed→
  Region.lexHead md ops g l.length k listed= true→wpQuiet P ops C Mf l a→
  HO P md ops C n (fun XA a'=>Region.seqB md ops g n XA= true∧Mf a') l.length listed a
 | [],k,listed,a,_,ax,_,bp,h=>by
  have:k= n:=by simpa using ax
  subst this
  exact⟨by simpa [Region.lexHead] using bp,h⟩
 | o ::l,k,listed,a,aT,ax,inv,bp,h=>by
  have h0:ops[k]? =some o:=by simpa using (aT 0 (by simp)).symm
  simp only [List.length_cons,Region.lexHead,Bool.and_eq_true] at bp
  obtain⟨⟨bz,hf⟩,hK⟩:=bp
  have Jy:k < n:=by simp only [List.length_cons] at ax;omega
  have pb:k ∈ Region.ready md ops listed:=by simpa using bz
  have iM:qOp P ops C k (wpQuiet P ops C Mf l) a:=by unfold qOp;simp only [h0];exact h
  obtain⟨v,hy,gg⟩:=yieldsIn_of_qOp h0 iM
  exact arX h0 (Region.noSelect_spec fx) aZ aG bd Jy (fun XA a' ib=>seqB_ready ib.1) l.length listed a inv (Region.free_spec h0 hf) pb hy
   (aaB fx aZ aG bd l (k + 1) _ _ (fun j bI=>by have:=aT (j + 1) (by simp;omega);simpa [Nat.add_assoc,Nat.add_comm 1 j] using this) (by simp only [List.length_cons] at ax;omega) (inv.set pb Jy) hK gg)
theorem asc {id:Nat} {Q:Exit→Act→World→Prop} {a:Act} {w:World} {l:List Oper} (n:Nat) (hm:P.follows .mixedOrders= true) (bp:Region.lexTailB .any l.toArray n= true) (eS:C {w with drawn:=w.drawn + 1})
  (h:wpQuiet P l.toArray C (fun a'=>∀ah,C ah→wpList P l.toArray Q (l.drop n) a' ah) (l.take n) a):(Code.region id l.toArray true).wp P Q a w:=by
 simp only [Region.lexTailB,Bool.and_eq_true,decide_eq_true_eq] at bp
 obtain⟨⟨⟨⟨fx,bd⟩,aZ⟩,aG⟩,ajp⟩:=bp
 have Wc:n < l.length:=by simpa using bd
 have uW:(l.take n).length= n:=by simp;omega
 have oG:(l.drop n).length= l.toArray.size - n:=by simp
 have alQ:HeadInv .any l.toArray n (Array.replicate l.toArray.size false):=
  ⟨by simp,fun j fe _ aT=>(by rw [getD_replicate_false] at aT;cases aT),fun t _ cA=>getD_in (by simpa using cA) (getD_replicate_false _ _)⟩
 have H:=aaB (md:= .any) (g:=l.toArray.size - n) fx aZ aG bd (l.take n) 0 _ a (fun j bI=>by
  have ajf:j < n:=by rw [uW] at bI;exact bI
  simp [ajf]) (by simpa using uW) alQ (by rw [uW];exact ajp) h
 refine wp_region_any hm ?_
 have:=aaD (Q':=Q) (g:=l.toArray.size - n) (fun listed a' ib ah vc=>by
  have:=wpAny_of_seq (md:= .any) (Q':=Q) (l.drop n) n listed a' ah (fun j=>by simp [List.getElem?_drop]) (by rw [oG];exact ib.1) (ib.2 ah vc)
  rwa [oG] at this) _ _ _ H _ eS
 rw [uW,show n + (l.toArray.size - n)= l.toArray.size by omega] at this
 exact this
theorem HP {id:Nat} {Q:Exit→Act→World→Prop} {a:Act} {w:World} {l:List Oper} (n:Nat) (hm:P.follows .mixedOrders= true) (bp:Region.lexTailB .any l.toArray n= true)
  (h:wpQuiet P l.toArray (fun ah=>∃k:aB w.heap.size w,ah= k.world) (fun a'=>∀k:aB w.heap.size w,wpList P l.toArray Q (l.drop n) a' k.world) (l.take n) a):(Code.region id l.toArray true).wp P Q a w:=
 asc (C:=fun ah=>∃k:aB w.heap.size w,ah= k.world) n hm bp ⟨⟨w.drew,(Below.refl _ _).drew⟩,rfl⟩
  (by
   have e:(fun a':Act=>∀k:aB w.heap.size w,wpList P l.toArray Q (l.drop n) a' k.world)= (fun a'=>∀ah,(∃k:aB w.heap.size w,ah= k.world)→wpList P l.toArray Q (l.drop n) a' ah):=by
    exact acs
   rw [e] at h;exact h)
end
open Go.RowKit
section
variable {P:Program} {ops:Array Oper} {md:Region.Mode} {C:World→Prop} {Q:Act→World→Prop}
def wE:Op→Bool
 | .move _ | .assign _ | .pick _ _ _ | .load _ _ | .binOp _ _ _ _ _ | .unOp _ _ _ | .convert _ _ _ | .fieldAddr _ _ _ | .field _ _ _ | .indexAddr _ _ _ | .extract _ _ | .slice _ _ _ _ _ | .build _ _ | .index _ _ _ | .nilCheck _=>true
 | .call {callee:= .builtin .len,args:=_,argTypes:=_}=>true
 | .call {callee:= .builtin .cap,args:=_,argTypes:=_}=>true
 | _=>false
theorem SQ {s:Result Value} {f:FuncId} {args:Array Value} {ah:World}:(s.andThen fun x w=>(.ok (.value x) w:Result Next))≠.ok (.enter f args) ah:=by
 cases s <;> simp [Result.andThen]
theorem SY {α:Type} {x:Sem α} {k:α→Sem Next} {w:World} {f:FuncId} {args:Array Value} {ah:World} (h:∀a bg,(k a).run P bg≠.ok (.enter f args) ah):(x >>= k).run P w≠.ok (.enter f args) ah:=by
 simp only [Sem.run_bind]
 cases x.run P w with
 | ok a bg=>exact h a bg
 | halt e bg=>intro h2;simp [Result.andThen] at h2
theorem anq {o:Oper} {x:Operand} (dd:o.op= .nilCheck x) (Lq:Operand→Value) (w:World) (f:FuncId) (args:Array Value) (ah:World):(execOp Lq o).run P w≠.ok (.enter f args) ah:=by
 unfold execOp
 simp only [dd]
 have aR:∀(v:Value) (bg:World),(pure (Next.value v):Sem Next).run P bg≠.ok (.enter f args) ah:=fun v bg h=>by simp only [Sem.run_pure] at h;injection h with h _;cases h
 have bd:∀bg,(runtimePanic .nilDeref:Sem Next).run P bg≠.ok (.enter f args) ah:=fun bg h=>by unfold runtimePanic at h;simp at h
 split
 ·exact bd _
 ·exact bd _
 ·exact bd _
 ·split
  ·exact bd _
  ·refine SY fun a bg=>SY fun b aQ=>?_
   split
   ·intro h;simp at h
   ·exact aR _ _
  ·exact aR _ _
 ·exact aR _ _
theorem aqS {o:Oper} (h:wE o.op= true) (Lq:Operand→Value) (w:World) (f:FuncId) (args:Array Value) (ah:World):(execOp Lq o).run P w≠.ok (.enter f args) ah:=by
 cases dd:o.op
 case nilCheck x=>exact anq dd Lq w f args ah
 case call c=>
  rw [dd] at h
  unfold execOp
  simp only [dd]
  obtain⟨Ca,asE,at_⟩:=c
  cases Ca with
  | builtin b=>
   cases b <;> first | (simp [wE] at h;done) | skip
   all_goals simp only [resolve,invoke,builtin,Sem.run_bind,Sem.run_pure,Result.andThen_ok]
   all_goals exact SQ
  | value f=>simp [wE] at h
  | invoke r n=>simp [wE] at h
 all_goals unfold execOp
 all_goals rw [dd] at h
 all_goals first | (simp [wE] at h;done) | skip
 all_goals simp only [dd,Sem.run_bind,Sem.run_pure]
 all_goals first | exact SQ | (intro h2;cases h2;done) | skip
 all_goals (intro h2;revert h2;generalize Sem.run P _ w= s;cases s <;> simp [Result.andThen])
def hQ (Q:Act→World→Prop):Exit→Act→World→Prop:=fun e a w=>e= .normal∧Q a w
theorem yD:¬LetsOut (hQ Q):=fun ⟨_,_,h⟩=>by have:=h.1;cases this
def lx (P:Program) (ops:Array Oper) (C:World→Prop) (o:Oper) (v:Value) (a:Act):Prop:=
 (Region.wanted o (yielded ops a.tmps)= true∧∀w,C w→((execOp a.eval o).run P w= .ok (.value v) w∨((execOp a.eval o).run P w= .ok .skip w∧v= undef)))∨
 (Region.wanted o (yielded ops a.tmps)= false∧v= undef)
theorem lx.of_same {o:Oper} {v:Value} {a a':Act} (hy:lx P ops C o v a) (he:execOp a'.eval o= execOp a.eval o)
  (hw:Region.wanted o (yielded ops a'.tmps)= Region.wanted o (yielded ops a.tmps)):lx P ops C o v a':=by
 unfold lx at *
 rw [he,hw]
 exact hy
theorem YieldsIn.QI {o:Oper} {v:Value} {a:Act} (ax:wE o.op= true) (hy:YieldsIn P ops C o v a):lx P ops C o v a:=by
 rcases hy with ⟨h1,h2⟩ | h
 ·refine .inl ⟨h1,fun w hw=>?_⟩
  have h3:=h2 w hw
  unfold Oper.quietAt at h3
  have h4:=aqS (P:=P) ax a.eval w
  generalize (execOp a.eval o).run P w= r at h3 h4
  cases r with
  | ok n ah=>
   cases n <;> simp only [Oper.quietUpon] at h3
   case value u=>obtain⟨rfl,rfl⟩:=h3;exact .inl rfl
   case skip=>obtain⟨rfl,rfl⟩:=h3;exact .inr ⟨rfl,rfl⟩
   case enter f args=>exact absurd rfl (h4 f args ah)
  | halt x ah=>simp only [Oper.quietUpon] at h3
 ·exact .inr h
theorem lx.wpOp {i:Nat} {o:Oper} {v:Value} {a:Act} {w:World} {Q':Exit→Act→World→Prop} (hi:ops[i]? =some o) (hy:lx P ops C o v a) (eS:C w) {K:Act→World→Prop} (h:K (a.put o.dst v) w):wpOp P ops Q' i K a w:=by
 unfold Go.wpOp
 simp only [hi]
 rcases hy with ⟨hw,az⟩ | ⟨hw,rfl⟩
 ·simp only [hw,if_true]
  refine .inl ?_
  unfold Oper.wp
  rcases az w eS with bz | ⟨bz,rfl⟩ <;> rw [bz] <;> simp only [Oper.upon] <;> exact h
 ·simp only [hw,Bool.false_eq_true,if_false];exact h
theorem put_defers (a:Act) (x:Option Tmp) (v:Value) (d:Deferred):({a.put x v with defers:=d ::(a.put x v).defers}:Act)= ({a with defers:=d ::a.defers}:Act).put x v:=by
 cases x <;> rfl
theorem wpOp_put {j:Nat} {dT fe:Oper} {v:Value} (bI:ops[j]? =some fe) (js:dT.apart ops fe= true)
  (ajP:∀cs b,dT.op≠.select cs b) (ajQ:∀cs b,fe.op≠.select cs b) {K:Act→World→Prop} {a:Act} {w:World}
  (hy:lx P ops C dT v a) (h:wpOp P ops (hQ Q) j K (a.put dT.dst v) w):
  wpOp P ops (hQ Q) j (fun a' ah=>lx P ops C dT v a'∧K (a'.put dT.dst v) ah) a w:=by
 obtain⟨h1,h2,h3⟩:=Oper.apart_spec js
 have keep:∀(a:Act),lx P ops C dT v a→∀u,lx P ops C dT v (a.put fe.dst u):=fun a hy u=>
  hy.of_same (execOp_put dT ajP a fe.dst u h3) (wanted_put dT a fe.dst u h3)
 unfold wpOp at *
 simp only [bI] at *
 rw [wanted_put fe a dT.dst v h1] at h
 split
 ·rename_i hw
  simp only [hw,if_true] at h
  rcases h with h | h
  ·refine .inl ?_
   unfold Oper.wp at *
   rw [execOp_put fe ajQ a dT.dst v h1] at h
   generalize (execOp a.eval fe).run P w= r at *
   cases r with
   | ok n ah=>
    cases n <;> simp only [Oper.upon] at h ⊢
    case value u=>exact⟨keep a hy u,by rw [← Act.put_comm a v u h2];exact h⟩
    case skip=>exact⟨keep a hy _,by rw [← Act.put_comm a v undef h2];exact h⟩
    case defer d=>
     refine⟨keep {a with defers:=d ::a.defers} hy undef,?_⟩
     rw [put_defers,Act.put_comm _ v undef h2] at h
     exact h
    case enter f args=>
     refine h.mono fun e eK he=>?_
     cases e with
     | returned u=>exact⟨keep a hy u,by rw [← Act.put_comm a v u h2];exact he⟩
     | panicked c=>exact absurd he.1 (by intro h;cases h)
     | outgrown=>exact absurd he yD
    case row row args=>exact h.mono fun u eK he=>⟨keep a hy u,by rw [← Act.put_comm a v u h2];exact he⟩
   | halt x ah=>cases x <;> simp only [Oper.upon] at h ⊢ <;> exact absurd h.1 (by intro h;cases h)
  ·exact absurd h.2 yD
 ·rename_i hw
  simp only [hw] at h
  exact⟨keep a hy _,by rw [← Act.put_comm a v undef h2];exact h⟩
def rb (P:Program) (md:Region.Mode) (ops:Array Oper) (C:World→Prop) (Q:Act→World→Prop):Nat→Array Bool→Act→World→Prop
 | 0,listed,a,w=>C w∧Region.ready md ops listed= []∧Q a w
 | f + 1,listed,a,w=>C w∧Region.ready md ops listed≠[]∧∀i ∈ Region.ready md ops listed,wpOp P ops (hQ Q) i (rb P md ops C Q f (listed.setIfInBounds i true)) a w
theorem rb.alF:∀{f:Nat} {listed:Array Bool} {a:Act} {w:World},rb P md ops C Q f listed a w→C w
 | 0,_,_,_,h=>h.1
 | _ + 1,_,_,_,h=>h.1
theorem QP:∀(f:Nat) (listed:Array Bool) (a:Act) (w:World),rb P md ops C Q f listed a w→wpAny P md ops (hQ Q) f listed a w
 | 0,_,_,_,h=>⟨h.2.1,rfl,h.2.2⟩
 | f + 1,_,_,_,h=>⟨fun h0=>absurd h0 h.2.1,fun i hi=>wpOp_mono (fun a' ah dv=>QP f _ a' ah dv) (h.2.2 i hi)⟩
theorem aaA {i:Nat} {dT:Oper} {v:Value} (hi:ops[i]? =some dT) (fx:∀(j:Nat) (o:Oper) cs b,ops[j]? =some o→o.op≠.select cs b):
  ∀(f:Nat) (listed:Array Bool) (a:Act) (w:World),
   (∀j fe,ops[j]? =some fe→j≠i→listed.getD j true= false→(∀e ∈ fe.after,Region.binds md e= true→e.on≠i)→dT.apart ops fe= true)→
   i ∈ Region.ready md ops listed→lx P ops C dT v a→C w→
   rb P md ops C Q f (listed.setIfInBounds i true) (a.put dT.dst v) w→rb P md ops C Q (f + 1) listed a w:=by
 intro f
 induction f with
 | zero=>
  intro listed a w _ bz hy eS H
  refine⟨eS,fun h=>(by rw [h] at bz;cases bz),fun j bI=>?_⟩
  by_cases pF:j= i
  ·subst pF;exact hy.wpOp hi eS H
  ·have:=ready_mono bI pF
   rw [H.2.1] at this;cases this
 | succ f eP=>
  intro listed a w Gn bz hy eS H
  have uX:=(mem_ready.1 bz).1
  refine⟨eS,fun h=>(by rw [h] at bz;cases bz),fun j bI=>?_⟩
  by_cases pF:j= i
  ·subst pF;exact hy.wpOp hi eS H
  ·have h1:=H.2.2 j (ready_mono bI pF)
   obtain⟨Gr,fe,hd,lP⟩:=mem_ready.1 bI
   have OB:∀e ∈ fe.after,Region.binds md e= true→e.on≠i:=fun e he aE heq=>by
    have h1:=lP e he aE
    rw [heq,getD_both uX] at h1
    cases h1
   have h2:=wpOp_put hd (Gn j fe hd pF Gr OB) (fun cs b=>fx i dT cs b hi) (fun cs b=>fx j fe cs b hd) hy h1;have Ob:∀k ok,ops[k]? =some ok→k≠i→(listed.setIfInBounds j true).getD k true= false→
     (∀e ∈ ok.after,Region.binds md e= true→e.on≠i)→dT.apart ops ok= true:=fun k ok ax Ol uX hn=>by
    refine Gn k ok ax Ol ?_ hn
    by_cases xy:j= k
    ·subst xy;exact Gr
    ·rw [getD_set_ne true xy] at uX;exact uX
   refine wpOp_mono (fun a' ah h3=>eP (listed.setIfInBounds j true) a' ah Ob (ready_mono bz (Ne.symm pF)) h3.1 h3.2.alF ?_) h2
   rw [Array.setIfInBounds_comm _ _ pF]
   exact h3.2
theorem arW {i f:Nat} {listed:Array Bool} {a:Act} {w:World} (bz:Region.ready md ops listed= [i]) (eS:C w)
    (h:wpOp P ops (hQ Q) i (rb P md ops C Q f (listed.setIfInBounds i true)) a w):rb P md ops C Q (f + 1) listed a w:=
  ⟨eS,by rw [bz];simp,fun j bI=>by rw [bz] at bI;have:j= i:=by simpa using bI
                                   subst this;exact h⟩
def pV (ops:Array Oper) (i:Nat):Bool:=match ops[i]? with | some o=>wE o.op | none=>false
def zn (md:Region.Mode) (ops:Array Oper):List (Nat×Bool)→Array Bool→Bool
 | [],listed=>(Region.ready md ops listed).isEmpty
 | (i,false) ::r,listed=>(Region.ready md ops listed).contains i && Region.free md ops listed i && pV ops i && zn md ops r (listed.setIfInBounds i true)
 | (i,true) ::r,listed=>decide (Region.ready md ops listed= [i]) && zn md ops r (listed.setIfInBounds i true)
def Bu (P:Program) (ops:Array Oper) (C:World→Prop) (Q:Act→World→Prop):List (Nat×Bool)→Act→World→Prop
 | [],a,w=>Q a w
 | (i,false) ::r,a,w=>qOp P ops C i (fun a'=>Bu P ops C Q r a' w) a
 | (i,true) ::r,a,w=>wpOp P ops (hQ Q) i (fun a' ah=>C ah∧Bu P ops C Q r a' ah) a w
theorem QO (fx:Region.noSelect ops= true):∀(r:List (Nat×Bool)) (listed:Array Bool) (a:Act) (w:World),zn md ops r listed= true→C w→Bu P ops C Q r a w→rb P md ops C Q r.length listed a w
 | [],listed,a,w,bp,eS,h=>⟨eS,by simpa [zn] using bp,h⟩
 | (i,false) ::r,listed,a,w,bp,eS,h=>by
  simp only [zn,Bool.and_eq_true] at bp
  obtain⟨⟨⟨h1,h2⟩,h3⟩,h4⟩:=bp
  have bz:i ∈ Region.ready md ops listed:=by simpa using h1
  obtain⟨_,dT,iy,_⟩:=mem_ready.1 bz
  have ax:wE dT.op= true:=by simpa [pV,iy] using h3
  obtain⟨v,hy,gg⟩:=yieldsIn_of_qOp iy h
  exact aaA iy (Region.noSelect_spec fx) r.length listed a w (Region.free_spec iy h2) bz (YieldsIn.QI ax hy) eS (QO fx r _ _ _ h4 eS gg)
 | (i,true) ::r,listed,a,w,bp,eS,h=>by
  simp only [zn,Bool.and_eq_true,decide_eq_true_eq] at bp
  exact arW bp.1 eS (wpOp_mono (fun a' ah dv=>QO fx r _ _ _ bp.2 dv.1 dv.2) h)
def gm (l:List Oper) (s:List Nat):List Oper:=s.filterMap fun i=>l[i]?
def vv (P:Program) (l:List Oper) (C:World→Prop) (Q:Act→World→Prop):List (List Nat×Nat)→List Nat→Act→World→Prop
 | [],s,a,w=>wpQuiet P l.toArray C (fun a'=>Q a' w) (gm l s) a
 | (s,e) ::r,cj,a,w=>wpQuiet P l.toArray C (fun a'=>wpList P l.toArray (hQ fun fa eK=>C eK∧vv P l C Q r cj fa eK) (gm l [e]) a' w) (gm l s) a
def qU:List (List Nat×Nat)→List Nat→List (Nat×Bool)
 | [],s=>s.map (·,false)
 | (s,e) ::r,cj=>s.map (·,false) ++ (e,true) ::qU r cj
theorem Oper.QQ {o:Oper} {a:Act} {w:World} {K Sz:Act→World→Prop} {lK jJ:Act→World→Prop} (h:∀a w,K a w→Sz a w) (dM:o.wp P a w K (hQ lK)):o.wp P a w Sz (hQ jJ):=by
 unfold Oper.wp at *
 generalize (execOp a.eval o).run P w= r at *
 cases r with
 | ok n ah=>
  cases n <;> simp only [Oper.upon] at dM ⊢
  case enter f args=>
   refine dM.mono fun e eK he=>?_
   cases e with
   | returned u=>exact h _ _ he
   | panicked c=>exact absurd he.1 (by intro h;cases h)
   | outgrown=>exact absurd he yD
  case row row args=>exact dM.mono fun _ _ he=>h _ _ he
  all_goals exact h _ _ dM
 | halt x ah=>cases x <;> simp only [Oper.upon] at dM ⊢ <;> exact absurd dM.1 (by intro h;cases h)
theorem PC {l:List Oper} {r:List (Nat×Bool)} {w:World}:∀(s:List Nat) (a:Act),(∀i ∈ s,i < l.length)→∀K:Act→Prop,(∀a,K a→Bu P l.toArray C Q r a w)→
  wpQuiet P l.toArray C K (gm l s) a→Bu P l.toArray C Q (s.map (·,false) ++ r) a w
 | [],a,_,K,gg,h=>gg _ h
 | i ::s,a,aZ,K,gg,h=>by
  have hi:i < l.length:=aZ i (by simp)
  have aR:gm l (i ::s)= l[i] ::gm l s:=by simp [gm,hi]
  rw [aR] at h
  have dv:qOp P l.toArray C i (wpQuiet P l.toArray C K (gm l s)) a:=by
   unfold qOp
   have:l.toArray[i]? =some l[i]:=by simp [hi]
   simp only [this]
   exact h
  exact qOp_mono (fun a' h2=>PC s a' (fun j bI=>aZ j (by simp [bI])) K gg h2) dv
theorem Le {p:Prop} (h:p:=by
 split
 ·rename_i hw
  simp only [hw,if_true] at dv
  exact dv.elim (fun h2=> .inl (Oper.QQ iU h2)) (fun h2=>absurd h2.2 yD)
 ·rename_i hw
  simp only [hw] at dv
  exact iU _ _ dv):p:=h
theorem XQ:∀{l:List Oper} (r:List (List Nat×Nat)) (cj:List Nat) (a:Act) (w:World),(∀i ∈ (qU r cj),i.1 < l.length)→vv P l C Q r cj a w→Bu P l.toArray C Q (qU r cj) a w
 | l,[],cj,a,w,aT,h=>by
  have:=PC (Q:=Q) (r:=[]) cj a (fun i hi=>aT (i,false) (by simp [qU,hi])) _ (fun a' (dv:Q a' w)=>dv) h
  simpa [qU] using this
 | l,(s,e) ::r,cj,a,w,aT,h=>by
  refine PC s a (fun i hi=>aT (i,false) (by simp [qU,hi])) _ (fun a' dv=>?_) h
  have he:e < l.length:=aT (e,true) (by simp [qU])
  have aR:gm l [e]= [l[e]]:=by simp [gm,he]
  rw [aR] at dv
  show wpOp P l.toArray (hQ Q) e _ a' w
  unfold wpOp
  have:l.toArray[e]? =some l[e]:=by simp [he]
  simp only [this]
  unfold wpList at dv
  have iU:∀fa eK,wpList P l.toArray (hQ fun fa eK=>C eK∧vv P l C Q r cj fa eK) [] fa eK→C eK∧Bu P l.toArray C Q (qU r cj) fa eK:=fun fa eK h2=>
   ⟨h2.2.1,XQ r cj fa eK (fun i hi=>aT i (by simp [qU,hi])) h2.2.2⟩
  exact Le
theorem aba {p:Prop} (h:p:=by
 have mo:(Code.region id l.toArray true).wp P (hQ fun a' ah=>Q .normal a' ah) a w:=wp_region_any hm (by simpa using H)
 exact Code.wp_mono (fun e a w h=>by obtain⟨rfl,h⟩:=h;exact h) mo):p:=h
theorem asb {id:Nat} {Q:Exit→Act→World→Prop} {a:Act} {w:World} {l:List Oper} (C:World→Prop) (r:List (List Nat×Nat)) (cj:List Nat) (hm:P.follows .mixedOrders= true)
  (bp:(Region.noSelect l.toArray && zn .any l.toArray (qU r cj) (Array.replicate l.length false) && decide ((qU r cj).length= l.length) && (qU r cj).all (fun i=>decide (i.1 < l.length)))= true)
  (eS:C w.drew) (h:vv P l C (fun a' ah=>Q .normal a' ah) r cj a w.drew):(Code.region id l.toArray true).wp P Q a w:=by
 simp only [Bool.and_eq_true,decide_eq_true_eq,List.all_eq_true] at bp
 obtain⟨⟨⟨h1,h2⟩,h3⟩,h4⟩:=bp
 have H:=QP _ _ _ _ (QO (md:= .any) h1 _ _ _ _ h2 eS (XQ r cj a _ (fun i hi=>h4 i hi) h))
 rw [h3] at H
 exact aba
structure cP (C:World→Prop) where
 world:World
 holds:C world
theorem oP {id:Nat} {Q:Exit→Act→World→Prop} {a:Act} {w:World} {l:List Oper} (C:World→Prop) (r:List (List Nat×Nat)) (cj:List Nat) (hm:P.follows .mixedOrders= true)
  (bp:(Region.noSelect l.toArray && zn .any l.toArray (qU r cj) (Array.replicate l.length false) && decide ((qU r cj).length= l.length) && (qU r cj).all (fun i=>decide (i.1 < l.length)))= true)
  (eS:C w.drew) (h:vv P l (fun ah=>∃k:cP C,ah= k.world) (fun a' ah=>Q .normal a' ah) r cj a w.drew):(Code.region id l.toArray true).wp P Q a w:=
 asb (fun ah=>∃k:cP C,ah= k.world) r cj hm bp ⟨⟨_,eS⟩,rfl⟩ h
theorem gZ {l:List Oper} {s cj:List Nat} {e:Nat} {r:List (List Nat×Nat)} {a:Act} {w:World}
  (h:∀K:Act→World→Prop,(∀a w,vv P l C Q r cj a w→K a w)→wpQuiet P l.toArray C (fun a'=>wpList P l.toArray (hQ fun fa eK=>C eK∧K fa eK) (gm l [e]) a' w) (gm l s) a):vv P l C Q ((s,e) ::r) cj a w:=
 h _ (fun _ _ h=>h)
theorem mg {l:List Oper} {cj:List Nat} {a:Act} {w:World} (h:wpQuiet P l.toArray C (fun a'=>Q a' w) (gm l cj) a):vv P l C Q [] cj a w:=h
theorem hh {C:World→Prop} {K:Act→World→Prop} {a:Act} {w:World} (eS:C w) (h:K a w):hQ (fun fa eK=>(∃k:cP C,eK= k.world)∧K fa eK) .normal a w:=⟨rfl,⟨⟨w,eS⟩,rfl⟩,h⟩
end
open Go.RowKit
section
variable {P:Program} {md:Region.Mode} {C:World→Prop} {Q:Act→World→Prop}
def HJ (md:Region.Mode) (ops:Array Oper):List Nat→Array Bool→Bool
 | [],_=>true
 | i ::s,listed=>(Region.ready md ops listed).contains i && Region.free md ops listed i && pV ops i && HJ md ops s (listed.setIfInBounds i true)
def KG:List Nat→Array Bool→Array Bool
 | [],L=>L
 | i ::s,L=>KG s (L.setIfInBounds i true)
theorem Mw {l:List Oper} (fx:Region.noSelect l.toArray= true) {w:World} {f:Nat} (eS:C w) (K:Act→Prop):∀(s:List Nat) (listed:Array Bool) (a:Act),HJ md l.toArray s listed= true→(∀i ∈ s,i < l.length)→
  (∀a',K a'→rb P md l.toArray C Q f (KG s listed) a' w)→wpQuiet P l.toArray C K (gm l s) a→rb P md l.toArray C Q (s.length + f) listed a w
 | [],listed,a,_,_,ax,h=>by
  have dv:rb P md l.toArray C Q f listed a w:=ax a h
  rwa [List.length_nil,Nat.zero_add]
 | i ::s,listed,a,bp,aT,CF,h=>by
  simp only [HJ,Bool.and_eq_true] at bp
  obtain⟨⟨⟨h1,h2⟩,h3⟩,h4⟩:=bp
  have hi:i < l.length:=aT i (by simp)
  have bz:i ∈ Region.ready md l.toArray listed:=by simpa using h1
  obtain⟨_,dT,iy,_⟩:=mem_ready.1 bz
  have ax:wE dT.op= true:=by simpa [pV,iy] using h3
  have aR:gm l (i ::s)= l[i] ::gm l s:=by simp [gm,hi]
  rw [aR] at h
  have dv:qOp P l.toArray C i (wpQuiet P l.toArray C K (gm l s)) a:=by
   unfold qOp
   have:l.toArray[i]? =some l[i]:=by simp [hi]
   simp only [this]
   exact h
  obtain⟨v,hy,gg⟩:=yieldsIn_of_qOp iy dv
  have aib:=Mw fx eS K s (listed.setIfInBounds i true) _ h4 (fun j bI=>aT j (by simp [bI])) CF gg
  rw [List.length_cons,show s.length + 1 + f= (s.length + f) + 1 from by omega]
  exact aaA iy (Region.noSelect_spec fx) (s.length + f) listed a w (Region.free_spec iy h2) bz (YieldsIn.QI ax hy) eS aib
theorem afF {l:List Oper} {e:Nat} {a:Act} {w:World} {K:Act→World→Prop} (he:e < l.length) (h:wpList P l.toArray (hQ K) (gm l [e]) a w):wpOp P l.toArray (hQ Q) e K a w:=by
 have aR:gm l [e]= [l[e]]:=by simp [gm,he]
 rw [aR] at h
 unfold wpOp
 have:l.toArray[e]? =some l[e]:=by simp [he]
 simp only [this]
 unfold wpList at h
 have iU:∀fa eK,wpList P l.toArray (hQ K) [] fa eK→K fa eK:=fun fa eK h2=>h2.2
 split
 ·rename_i hw
  simp only [hw,if_true] at h
  exact h.elim (fun h2=> .inl (Oper.QQ iU h2)) (fun h2=>absurd h2.2 yD)
 ·rename_i hw
  simp only [hw] at h
  exact iU _ _ h
def wx (L:Array Bool):Nat:=(L.toList.filter (fun b=>!b)).length
theorem asa {id:Nat} {Q:Exit→Act→World→Prop} {a:Act} {w:World} {l:List Oper} (C:World→Prop) (hm:P.follows .mixedOrders= true) (h:rb P .any l.toArray C (fun a' ah=>Q .normal a' ah) l.length (Array.replicate l.length false) a w.drew):(Code.region id l.toArray true).wp P Q a w:=by
 have H:=QP _ _ _ _ h
 exact aba
end
open Go.RowKit
section
variable {P:Program} {lH:World→Prop} {Q:Act→World→Prop} {l:List Oper}
def Rest (P:Program) (l:List Oper) (lH:World→Prop) (Q:Act→World→Prop) (L:Array Bool) (a:Act) (w:World):Prop:=rb P .any l.toArray (fun ah=>∃k:cP lH,ah= k.world) Q (wx L) L a w
def IE (P:Program) (l:List Oper) (lH:World→Prop) (i:Nat) (s:List Nat) (a:Act) (w:World) (K:Act→World→Prop):Prop:=wpList P l.toArray (hQ fun fa eK=>lH eK∧wpQuiet P l.toArray (fun ah=>∃k:cP lH,ah= k.world) (fun a3=>K a3 eK) (gm l s) fa) (gm l [i]) a w
def Ae (l:List Oper) (L:Array Bool) (i:Nat) (s:List Nat) (BP:Array Bool):Bool:=decide (i < l.length) && s.all (fun i=>decide (i < l.length)) && HJ .any l.toArray s (L.setIfInBounds i true) && decide (KG s (L.setIfInBounds i true)= BP) && decide (wx L= s.length + wx BP + 1)
theorem Qi (fx:Region.noSelect l.toArray= true) {L BP:Array Bool} {i:Nat} {s:List Nat} {a:Act} {w:World} {f:Nat} (hf:wx L= f + 1) (bp:Ae l L i s BP= true) (h:IE P l lH i s a w (Rest P l lH Q BP)):
  wpOp P l.toArray (hQ Q) i (rb P .any l.toArray (fun ah=>∃k:cP lH,ah= k.world) Q f (L.setIfInBounds i true)) a w:=by
 simp only [Ae,Bool.and_eq_true,decide_eq_true_eq,List.all_eq_true] at bp
 obtain⟨⟨⟨⟨ds,du⟩,ew⟩,fm⟩,hJ⟩:=bp
 refine wpOp_mono (fun fa eK ahP=>?_) (afF ds h)
 obtain⟨ahU,bf⟩:=ahP
 have ck:f= s.length + wx BP:=by omega
 rw [ck]
 exact Mw fx ⟨⟨eK,ahU⟩,rfl⟩ _ s _ fa ew du (fun a' Aj=>by rw [fm];exact Aj) bf
theorem aoH (i1:Nat) (s1:List Nat) (Ey:Array Bool) (i2:Nat) (s2:List Nat) (SA:Array Bool) {L:Array Bool} {a:Act} {w:World} (bp:(Region.noSelect l.toArray && decide (Region.ready .any l.toArray L= [i1,i2]) && Ae l L i1 s1 Ey && Ae l L i2 s2 SA)= true) (eS:lH w)
  (h1:∀K:Act→World→Prop,(∀a w,Rest P l lH Q Ey a w→K a w)→IE P l lH i1 s1 a w K) (h2:∀K:Act→World→Prop,(∀a w,Rest P l lH Q SA a w→K a w)→IE P l lH i2 s2 a w K):Rest P l lH Q L a w:=by
 simp only [Bool.and_eq_true,decide_eq_true_eq] at bp
 obtain⟨⟨⟨fx,bz⟩,e1⟩,e2⟩:=bp
 have Fp:=e1
 simp only [Ae,Bool.and_eq_true,decide_eq_true_eq] at Fp
 obtain⟨f,hf⟩ :∃f,wx L= f + 1:=⟨_,Fp.2⟩
 unfold Rest
 rw [hf]
 refine⟨⟨⟨w,eS⟩,rfl⟩,by rw [bz];simp,fun i hi=>?_⟩
 rw [bz] at hi
 simp only [List.mem_cons,List.not_mem_nil,or_false] at hi
 rcases hi with rfl | rfl
 ·exact Qi fx hf e1 (h1 _ fun _ _ h=>h)
 ·exact Qi fx hf e2 (h2 _ fun _ _ h=>h)
theorem Qj (i1:Nat) (s1:List Nat) (Ey:Array Bool) {L:Array Bool} {a:Act} {w:World} (bp:(Region.noSelect l.toArray && decide (Region.ready .any l.toArray L= [i1]) && Ae l L i1 s1 Ey)= true) (eS:lH w)
  (h1:∀K:Act→World→Prop,(∀a w,Rest P l lH Q Ey a w→K a w)→IE P l lH i1 s1 a w K):Rest P l lH Q L a w:=by
 simp only [Bool.and_eq_true,decide_eq_true_eq] at bp
 obtain⟨⟨fx,bz⟩,e1⟩:=bp
 have Fp:=e1
 simp only [Ae,Bool.and_eq_true,decide_eq_true_eq] at Fp
 obtain⟨f,hf⟩ :∃f,wx L= f + 1:=⟨_,Fp.2⟩
 unfold Rest
 rw [hf]
 refine⟨⟨⟨w,eS⟩,rfl⟩,by rw [bz];simp,fun i hi=>?_⟩
 rw [bz] at hi
 simp only [List.mem_cons,List.not_mem_nil,or_false] at hi
 subst hi
 exact Qi fx hf e1 (h1 _ fun _ _ h=>h)
theorem aoG {L:Array Bool} {a:Act} {w:World} (bp:(decide (Region.ready .any l.toArray L= []) && decide (wx L= 0))= true) (eS:lH w) (h:Q a w):Rest P l lH Q L a w:=by
 simp only [Bool.and_eq_true,decide_eq_true_eq] at bp
 unfold Rest
 rw [bp.2]
 exact⟨⟨⟨w,eS⟩,rfl⟩,bp.1,h⟩
theorem asd {id:Nat} {Q:Exit→Act→World→Prop} {a:Act} {w:World} (lH:World→Prop) (iO:List Nat) (IB:Array Bool) (hm:P.follows .mixedOrders= true)
  (bp:(Region.noSelect l.toArray && HJ .any l.toArray iO (Array.replicate l.length false) && decide (KG iO (Array.replicate l.length false)= IB) && decide (l.length= iO.length + wx IB) && iO.all (fun i=>decide (i < l.length)))= true)
  (eS:lH w.drew) (h:∀K:Act→World→Prop,(∀a w,Rest P l lH (fun a' ah=>Q .normal a' ah) IB a w→K a w)→wpQuiet P l.toArray (fun ah=>∃k:cP lH,ah= k.world) (fun a'=>K a' w.drew) (gm l iO) a):(Code.region id l.toArray true).wp P Q a w:=by
 simp only [Bool.and_eq_true,decide_eq_true_eq,List.all_eq_true] at bp
 obtain⟨⟨⟨⟨ds,du⟩,ew⟩,fm⟩,hJ⟩:=bp
 refine asa (fun ah=>∃k:cP lH,ah= k.world) hm ?_
 have aZ:=Mw (P:=P) (md:= .any) (Q:=fun a' ah=>Q .normal a' ah) (f:=wx IB) ds (w:=w.drew) ⟨⟨_,eS⟩,rfl⟩ _ iO (Array.replicate l.length false) a du hJ (fun a' Aj=>by rw [ew];exact Aj) (h _ fun _ _ h=>h)
 rwa [← fm] at aZ
end
open Go.RowKit
section
variable {P:Program} {ops:Array Oper} {md:Region.Mode} {C:World→Prop} {Q:Act→World→Prop}
def te (md:Region.Mode) (ops:Array Oper) (y x:Nat):Bool:=match ops[y]? with | some o=>o.after.any (fun e=>Region.binds md e && e.on == x) | none=>false
def uk (ops:Array Oper) (x y:Nat):Bool:=match ops[x]?,ops[y]? with | some a,some b=>a.apart ops b | _,_=>false
def Bk (md:Region.Mode) (ops:Array Oper):Nat→Nat→Nat→Bool
 | 0,y,x=>te md ops y x
 | n + 1,y,x=>te md ops y x || (List.range ops.size).any fun m=>te md ops y m && Bk md ops n m x
def Bg (k:Nat):Bool:=k == 4 || k == 6
def sk (k:Nat):Bool:=k == 0 || k == 2
def zo (x y:Nat):Bool:=(sk x && y != 5) || Bg x || (x == 1 && (y == 0 || y == 1 || y == 6))
def wq (md:Region.Mode) (ops:Array Oper) (x y:Nat×Nat):Bool:=
 !(te md ops x.1 y.1) && !(x.1 == y.1) && !(x.2 == 5 && sk y.2) && ((zo x.2 y.2 && uk ops x.1 y.1) || Bk md ops 3 y.1 x.1)
def Dj (md:Region.Mode) (ops:Array Oper):List (Nat×Nat)→Bool
 | []=>true
 | x ::r=>r.all (wq md ops x) && Dj md ops r
theorem Yr:∀{r:List (Nat×Nat)},Dj md ops r= true→r.Pairwise fun x y=>wq md ops x y= true
 | [],_=> .nil
 | x ::r,h=>by
  simp only [Dj,Bool.and_eq_true,List.all_eq_true] at h
  exact .cons (fun y hy=>h.1 y hy) (Yr h.2)
def HM (md:Region.Mode) (ops:Array Oper):Bool:=(List.range ops.size).all fun i=>match ops[i]? with | some o=>o.after.all (fun e=>!(Region.binds md e) || (decide (e.on < ops.size) && !(e.on == i))) | none=>true
theorem Jd {x y:Nat}:te md ops y x= true↔∃o,ops[y]? =some o∧∃e ∈ o.after,Region.binds md e= true∧e.on= x:=by
 unfold te
 cases h:ops[y]? with
 | none=>simp
 | some o=>
  simp only [← Array.any_toList,List.any_eq_true]
  simp
theorem Fa {x y:Nat}:uk ops x y= true↔∃a b,ops[x]? =some a∧ops[y]? =some b∧a.apart ops b= true:=by
 unfold uk
 cases h:ops[x]? with
 | none=>simp
 | some a=>cases h2:ops[y]? with
  | none=>simp
  | some b=>simp
structure Fit (md:Region.Mode) (ops:Array Oper) (r:List (Nat×Nat)) (listed:Array Bool):Prop where
 wf:HM md ops= true
 size:listed.size= ops.size
 mem:∀i,i < ops.size→(listed.getD i true= false↔∃k,(i,k) ∈ r)
 lt:∀x ∈ r,x.1 < ops.size
 Bh:r.Pairwise fun x y=>wq md ops x y= true
 Ca:∀x y,te md ops y x= true→listed.getD x true= false→listed.getD y true= false
theorem Fit.Kn {r:List (Nat×Nat)} {listed:Array Bool} (_:Fit md ops r listed) {j x:Nat} (he:te md ops j x= true) (ay:listed.getD x true= false) (bI:j ∈ Region.ready md ops listed):False:=by
 obtain⟨_,o,dd,h2⟩:=mem_ready.1 bI
 obtain⟨mL,Gy,e,hm,aE,ajB⟩:=Jd.1 he
 have:o= mL:=Option.some.inj (dd.symm.trans Gy)
 subst this
 have h3:=h2 e hm aE
 rw [ajB] at h3
 rw [getD_both ay] at h3;cases h3
theorem Fit.reach {r:List (Nat×Nat)} {listed:Array Bool} (h:Fit md ops r listed) {x:Nat} (ay:listed.getD x true= false):∀(n y:Nat),Bk md ops n y x= true→listed.getD y true= false
 | 0,y,he=>h.Ca x y he ay
 | n + 1,y,he=>by
  simp only [Bk,Bool.or_eq_true,List.any_eq_true,Bool.and_eq_true] at he
  rcases he with he | ⟨m,_,h1,h2⟩
  ·exact h.Ca x y he ay
  ·exact h.Ca m y h1 (h.reach ay n m h2)
theorem Fit.ant {r:List (Nat×Nat)} {listed:Array Bool} (h:Fit md ops r listed) {j x:Nat} (ay:listed.getD x true= false) (bI:j ∈ Region.ready md ops listed):∀n,Bk md ops n j x= false:=by
 intro n
 cases bz:Bk md ops n j x with
 | false=>rfl
 | true=>
  exfalso
  cases n with
  | zero=>exact h.Kn bz ay bI
  | succ n=>
   simp only [Bk,Bool.or_eq_true,List.any_eq_true,Bool.and_eq_true] at bz
   rcases bz with he | ⟨m,_,h1,h2⟩
   ·exact h.Kn he ay bI
   ·exact h.Kn h1 (h.reach ay n m h2) bI
theorem Fit.step {p s:List (Nat×Nat)} {j k:Nat} {listed:Array Bool} (h:Fit md ops (p ++ (j,k) ::s) listed) (ajk:j ∈ Region.ready md ops listed):Fit md ops (p ++ s) (listed.setIfInBounds j true):=by
 have xB:(p ++ s).Sublist (p ++ (j,k) ::s):=List.Sublist.append_left (List.sublist_cons_self _ _) p
 refine⟨h.wf,by simpa using h.size,fun i hi=>?_,fun x ay=>h.lt x (xB.subset ay),h.Bh.sublist xB,fun x y he ay=>?_⟩
 case refine_2=>
  have kV:listed.getD x true= false:=by
   by_cases VO:j= x
   ·subst VO
    exfalso
    by_cases aT:j < listed.size
    ·simp [Array.getD_eq_getD_getElem?,Array.getElem?_setIfInBounds_self_of_lt aT] at ay
    ·simp [Array.getD_eq_getD_getElem?,aT] at ay
   ·simpa [Array.getD_eq_getD_getElem?,Array.getElem?_setIfInBounds_ne VO] using ay
  by_cases VP:j= y
  ·subst VP
   exact (h.Kn he kV ajk).elim
  ·have:=h.Ca x y he kV
   simpa [Array.getD_eq_getD_getElem?,Array.getElem?_setIfInBounds_ne VP] using this
 by_cases yW:j= i
 ·subst yW
  have bI:j < listed.size:=by rw [h.size];exact hi
  have h1:(listed.setIfInBounds j true).getD j true= true:=by simp [Array.getD_eq_getD_getElem?,Array.getElem?_setIfInBounds_self_of_lt bI]
  rw [h1]
  refine⟨fun h2=>(by cases h2),fun ⟨hT,ax⟩=>?_⟩
  exfalso
  rcases List.mem_append.1 ax with ax | ax
  ·have:=(List.pairwise_append.1 h.Bh).2.2 _ ax (j,k) (by simp)
   simp [wq] at this
  ·have:=(List.pairwise_cons.1 (List.pairwise_append.1 h.Bh).2.1).1 _ ax
   simp [wq] at this
 ·have h1:(listed.setIfInBounds j true).getD i true= listed.getD i true:=by simp [Array.getD_eq_getD_getElem?,Array.getElem?_setIfInBounds_ne yW]
  rw [h1,h.mem i hi]
  constructor
  ·rintro ⟨hT,ax⟩
   refine⟨hT,?_⟩
   rcases List.mem_append.1 ax with ax | ax
   ·exact List.mem_append_left _ ax
   ·rcases List.mem_cons.1 ax with ax | ax
    ·exact absurd (congrArg Prod.fst ax).symm yW
    ·exact List.mem_append_right _ ax
  ·rintro ⟨hT,ax⟩
   exact⟨hT,xB.subset ax⟩
theorem ahM {listed:Array Bool} {i:Nat} (hi:i < listed.size) (h:¬listed.getD i true= false):listed.getD i false= true:=by
 simp only [Array.getD_eq_getD_getElem?,Array.getElem?_eq_getElem hi,Option.getD_some] at h ⊢
 cases dM:listed[i] with
 | true=>rfl
 | false=>exact absurd dM h
theorem Fit.head {x:Nat×Nat} {s:List (Nat×Nat)} {listed:Array Bool} (h:Fit md ops (x ::s) listed):x.1 ∈ Region.ready md ops listed:=by
 have ay:=h.lt x (by simp)
 refine mem_ready.2 ⟨(h.mem _ ay).2 ⟨x.2,by simp⟩,ops[x.1],Array.getElem?_eq_getElem ay,fun e he aE=>?_⟩
 have Pf:=h.wf
 unfold HM at Pf
 rw [List.all_eq_true] at Pf
 have h1:=Pf x.1 (List.mem_range.2 ay)
 simp only [Array.getElem?_eq_getElem ay,Array.all_eq_true_iff_forall_mem] at h1
 have h2:=h1 e he
 simp only [aE,Bool.not_true,Bool.false_or,Bool.and_eq_true,decide_eq_true_eq,Bool.not_eq_true',beq_eq_false_iff_ne] at h2
 refine ahM (by rw [h.size];exact h2.1) fun hf=>?_
 obtain⟨k,ax⟩:=(h.mem _ h2.1).1 hf
 rcases List.mem_cons.1 ax with ax | ax
 ·exact h2.2 (congrArg Prod.fst ax)
 ·have:=(List.pairwise_cons.1 h.Bh).1 _ ax
  simp only [wq,Bool.and_eq_true,Bool.not_eq_true'] at this
  have h3:te md ops x.1 e.on= true:=Jd.2 ⟨_,Array.getElem?_eq_getElem ay,e,he,aE,rfl⟩
  rw [this.1.1.1] at h3;cases h3
theorem Fit.ready {r:List (Nat×Nat)} {j:Nat} {listed:Array Bool} (h:Fit md ops r listed) (bI:j ∈ Region.ready md ops listed):
  ∃p k s,r= p ++ (j,k) ::s∧(∀x ∈ p,zo x.2 k= true∧uk ops x.1 j= true)∧(k= 5→∀x ∈ s,sk x.2= false):=by
 obtain⟨h1,o,dd,h2⟩:=mem_ready.1 bI
 have bn:j < ops.size:=(Array.getElem?_eq_some_iff.1 dd).1
 obtain⟨k,ax⟩:=(h.mem j bn).1 h1
 obtain⟨p,s,bz⟩:=List.append_of_mem ax
 refine⟨p,k,s,bz,fun x ay=>?_,fun Ok x ay=>?_⟩
 case refine_2=>
  subst bz Ok
  have aR:=(List.pairwise_cons.1 (List.pairwise_append.1 h.Bh).2.1).1 x ay
  simp only [wq,Bool.and_eq_true,Bool.not_eq_true'] at aR
  simpa using aR.1.2
 subst bz
 have aR:=(List.pairwise_append.1 h.Bh).2.2 x ay (j,k) (by simp);have JH:=(h.mem x.1 (h.lt x (List.mem_append_left _ ay))).2 ⟨x.2,List.mem_append_left _ ay⟩;have eg:=h.ant JH bI 3
 simp only [wq,eg,Bool.or_false,Bool.and_eq_true] at aR
 exact aR.2
def pB (C:World→Prop) (k:Nat):World→Prop:=fun w=>Bg k= true∨C w
def gx (P:Program) (ops:Array Oper) (C:World→Prop) (Q:Act→World→Prop):List (Nat×Nat)→Act→World→Prop
 | [],a,w=>Q a w
 | (i,k) ::r,a,w=>if k= 3 then wpOp P ops (hQ Q) i (fun a' ah=>C ah∧gx P ops C Q r a' ah) a w
  else if k= 5 then wpOp P ops (hQ Q) i (fun a' ah=>gx P ops C Q r a' ah) a w
  else∃dT v,ops[i]? =some dT∧lx P ops (pB C k) dT v a∧gx P ops C Q r (a.put dT.dst v) w
theorem sN (fx:Region.noSelect ops= true) {i:Nat} {o:Oper} (h:ops[i]? =some o):∀cs b,o.op≠.select cs b:=fun cs b=>Region.noSelect_spec fx i o cs b h
theorem abt {p:Prop} (h:p:=by
 refine⟨dT,qo,iy,zg.of_same (execOp_put dT (sN fx iy) a fe.dst v h3) (wanted_put dT a fe.dst v h3),?_⟩
 rw [← Act.put_comm a qo v h2]
 exact aZ):p:=h
theorem SH (fx:Region.noSelect ops= true) {j zj:Nat} {s:List (Nat×Nat)} (Aq:zj≠3∧zj≠5):∀(p:List (Nat×Nat)) (a:Act) (w:World),(∀x ∈ p,(x.2≠3∧x.2≠5)∧uk ops x.1 j= true)→gx P ops C Q (p ++ (j,zj) ::s) a w→
  ∃fe v,ops[j]? =some fe∧lx P ops (pB C zj) fe v a∧gx P ops C Q (p ++ s) (a.put fe.dst v) w
 | [],a,w,_,h=>by
  simp only [List.nil_append,gx,if_neg Aq.1,if_neg Aq.2] at h
  exact h
 | (i,k) ::p,a,w,aR,h=>by
  have hi:=aR (i,k) (by simp)
  simp only [List.cons_append,gx,if_neg hi.1.1,if_neg hi.1.2] at h
  obtain⟨dT,qo,iy,zg,bz⟩:=h
  obtain⟨fe,v,hd,GQ,aZ⟩:=SH fx Aq p _ w (fun x ay=>aR x (by simp [ay])) bz
  obtain⟨a1,ds,e1,e2,js⟩:=Fa.1 hi.2
  obtain rfl:=Option.some.inj (iy.symm.trans e1)
  obtain rfl:=Option.some.inj (hd.symm.trans e2)
  obtain⟨h1,h2,h3⟩:=Oper.apart_spec js
  refine⟨fe,v,hd,GQ.of_same (execOp_put fe (sN fx hd) a dT.dst qo h1).symm (wanted_put fe a dT.dst qo h1).symm,?_⟩
  simp only [List.cons_append,gx,if_neg hi.1.1,if_neg hi.1.2]
  exact abt
theorem SD (fx:Region.noSelect ops= true) {j:Nat} {fe:Oper} (hd:ops[j]? =some fe) {s:List (Nat×Nat)}:∀(p:List (Nat×Nat)) (a:Act) (w:World),(∀x ∈ p,(x.2≠3∧x.2≠5)∧uk ops x.1 j= true)→gx P ops C Q (p ++ (j,3) ::s) a w→
  wpOp P ops (hQ Q) j (fun a' ah=>C ah∧gx P ops C Q (p ++ s) a' ah) a w
 | [],a,w,_,h=>by
  simp only [List.nil_append,gx,if_true] at h
  exact h
 | (i,k) ::p,a,w,aR,h=>by
  have hi:=aR (i,k) (by simp)
  simp only [List.cons_append,gx,if_neg hi.1.1,if_neg hi.1.2] at h
  obtain⟨dT,qo,iy,zg,bz⟩:=h
  have eP:=SD fx hd p _ w (fun x ay=>aR x (by simp [ay])) bz
  obtain⟨a1,ds,e1,e2,js⟩:=Fa.1 hi.2
  obtain rfl:=Option.some.inj (iy.symm.trans e1)
  obtain rfl:=Option.some.inj (hd.symm.trans e2)
  refine wpOp_mono (fun a' ah dv=>⟨dv.2.1,?_⟩) (wpOp_put hd js (sN fx iy) (sN fx hd) zg eP)
  simp only [List.cons_append,gx,if_neg hi.1.1,if_neg hi.1.2]
  exact⟨dT,qo,iy,dv.1,dv.2.2⟩
theorem SE (fx:Region.noSelect ops= true) {j:Nat} {fe:Oper} (hd:ops[j]? =some fe) {s:List (Nat×Nat)}:∀(p:List (Nat×Nat)) (a:Act) (w:World),(∀x ∈ p,(x.2≠3∧x.2≠5)∧uk ops x.1 j= true)→gx P ops C Q (p ++ (j,5) ::s) a w→
  wpOp P ops (hQ Q) j (fun a' ah=>gx P ops C Q (p ++ s) a' ah) a w
 | [],a,w,_,h=>by
  simp only [List.nil_append,gx] at h
  exact h
 | (i,k) ::p,a,w,aR,h=>by
  have hi:=aR (i,k) (by simp)
  simp only [List.cons_append,gx,if_neg hi.1.1,if_neg hi.1.2] at h
  obtain⟨dT,qo,iy,zg,bz⟩:=h
  have eP:=SE fx hd p _ w (fun x ay=>aR x (by simp [ay])) bz
  obtain⟨a1,ds,e1,e2,js⟩:=Fa.1 hi.2
  obtain rfl:=Option.some.inj (iy.symm.trans e1)
  obtain rfl:=Option.some.inj (hd.symm.trans e2)
  refine wpOp_mono (fun a' ah dv=>?_) (wpOp_put hd js (sN fx iy) (sN fx hd) zg eP)
  simp only [List.cons_append,gx,if_neg hi.1.1,if_neg hi.1.2]
  exact⟨dT,qo,iy,dv.1,dv.2⟩
theorem anD {x k:Nat} (h:zo x k= true):x≠3∧x≠5:=by
 constructor
 ·rintro rfl;simp [zo,sk,Bg] at h
 ·rintro rfl;simp [zo,sk,Bg] at h
theorem anC {x:Nat} (h:zo x 5= true):sk x= false:=by
 cases aG:sk x with
 | false=>rfl
 | true=>
  simp only [sk,Bool.or_eq_true,beq_iff_eq] at aG
  rcases aG with rfl | rfl <;> simp [zo,sk,Bg] at h
theorem DF (fx:Region.noSelect ops= true):∀(n:Nat) (r:List (Nat×Nat)) (listed:Array Bool) (a:Act) (w:World),r.length= n→(∀x ∈ r,x.2≠1∧x.2≤6)→Fit md ops r listed→((∀x ∈ r,sk x.2= false)∨C w)→gx P ops C Q r a w→wpAny P md ops (hQ Q) n listed a w
 | 0,r,listed,a,w,bd,_,hf,eS,h=>by
  obtain rfl:=List.length_eq_zero_iff.1 bd
  refine⟨List.eq_nil_iff_forall_not_mem.2 fun j bI=>?_,rfl,h⟩
  obtain⟨p,k,s,bz,_⟩:=hf.ready bI
  simp at bz
 | n + 1,r,listed,a,w,bd,h1,hf,eS,h=>by
  refine⟨fun h0=>?_,fun j bI=>?_⟩
  ·cases r with
   | nil=>simp at bd
   | cons x s=>have:=hf.head;rw [h0] at this;cases this
  ·obtain⟨p,k,s,rfl,aR,Ok⟩:=hf.ready bI
   have OF:∀x ∈ p,(x.2≠3∧x.2≠5)∧uk ops x.1 j= true:=fun x ay=>⟨anD (aR x ay).1,(aR x ay).2⟩
   have hlen:(p ++ s).length= n:=by simp at bd ⊢;omega
   have xB:(p ++ s).Sublist (p ++ (j,k) ::s):=List.Sublist.append_left (List.sublist_cons_self _ _) p
   have qf:∀x ∈ p ++ s,x.2≠1∧x.2≤6:=fun x ay=>h1 x (xB.subset ay)
   have bn:=hf.lt (j,k) (by simp)
   by_cases ax:k= 3
   ·subst ax
    exact wpOp_mono (fun a' ah dv=>DF fx n _ _ _ _ hlen qf (hf.step bI) (.inr dv.1) dv.2) (SD fx (Array.getElem?_eq_getElem bn) p a w OF h)
   ·by_cases lC:k= 5
    ·subst lC
     have hn:∀x ∈ p ++ s,sk x.2= false:=fun x ay=>by
      rcases List.mem_append.1 ay with ay | ay
      ·exact anC (aR x ay).1
      ·exact Ok rfl x ay
     exact wpOp_mono (fun a' ah dv=>DF fx n _ _ _ _ hlen qf (hf.step bI) (.inl hn) dv) (SE fx (Array.getElem?_eq_getElem bn) p a w OF h)
    ·obtain⟨fe,v,hd,hy,aZ⟩:=SH fx ⟨ax,lC⟩ p a w OF h
     have tn:pB C k w:=by
      have CF:=h1 (j,k) (by simp)
      simp only at CF
      unfold pB
      rcases eS with eS | eS
      ·have h3:=eS (j,k) (by simp)
       left
       simp only [sk,Bool.or_eq_false_iff,beq_eq_false_iff_ne] at h3
       have:k= 4∨k= 6:=by omega
       rcases this with rfl | rfl <;> rfl
      ·exact .inr eS
     refine hy.wpOp hd tn (DF fx n _ _ _ _ hlen qf (hf.step bI) ?_ aZ)
     rcases eS with eS | eS
     ·exact .inl fun x ay=>eS x (xB.subset ay)
     ·exact .inr eS
theorem anV {a b:Act} {d:Option Tmp} {u v:Value} (aZ:b.tmps.size= a.tmps.size) (h:b.put d u= b.put d v):a.put d u= a.put d v:=by
 cases d with
 | none=>rfl
 | some d=>
  simp only [Act.put] at h ⊢
  have h1:b.tmps.setIfInBounds d u= b.tmps.setIfInBounds d v:=by injection h
  by_cases bS:d < b.tmps.size
  ·have h2:u= v:=by
    have h3:=congrArg (fun t:Array Value=>t[d]?) h1
    simp only [Array.getElem?_setIfInBounds_self_of_lt bS] at h3
    exact Option.some.inj h3
   rw [h2]
  ·have hle:a.tmps.size≤d:=aZ ▸ Nat.le_of_not_lt bS
   have h3:∀x,a.tmps.setIfInBounds d x= a.tmps:=fun x=>Array.setIfInBounds_eq_of_size_le hle
   rw [h3,h3]
theorem Ks (a:Act) (d:Option Tmp) (v:Value):(a.put d v).tmps.size= a.tmps.size:=by
 cases d <;> simp [Act.put]
theorem Yz (a:Act) (d:Option Tmp) (v:Value):(a.put d v).defers= a.defers:=by
 cases d <;> rfl
def Lt (P:Program) (ops:Array Oper) (Q:Act→World→Prop) (e:Nat) (mM:Oper) (K:Value→World→Prop) (a:Act) (W:World):Prop:=
 ∀L:Act→World→Prop,(∀v eF,K v eF→L (a.put mM.dst v) eF)→wpOp P ops (hQ Q) e L a W
theorem ahN {e:Nat} {mM:Oper} {K:Value→World→Prop} {a b:Act} {W:World} (he:ops[e]? =some mM) (bz:execOp a.eval mM= execOp b.eval mM)
  (hw:Region.wanted mM (yielded ops a.tmps)= Region.wanted mM (yielded ops b.tmps)) (aZ:b.tmps.size= a.tmps.size) (h:Lt P ops Q e mM K b W):Lt P ops Q e mM K a W:=by
 intro L ib
 have H:=h (fun cE eF=>(∀u,cE= b.put mM.dst u→L (a.put mM.dst u) eF)∧∃u,cE= b.put mM.dst u) (fun v eF az=>⟨fun u hu=>by rw [← anV aZ hu];exact ib v eF az,v,rfl⟩)
 unfold wpOp at H ⊢
 simp only [he] at H ⊢
 rw [← hw] at H
 split
 ·rename_i Pg
  simp only [Pg,if_true] at H
  rcases H with H | H
  ·refine .inl ?_
   unfold Oper.wp at H ⊢
   rw [← bz] at H
   generalize (execOp a.eval mM).run P W= r at *
   cases r with
   | ok n ah=>
    cases n <;> simp only [Oper.upon] at H ⊢
    case value u=>exact H.1 u rfl
    case skip=>exact H.1 undef rfl
    case defer d=>
     obtain⟨u,hu⟩:=H.2
     have h1:=congrArg Act.defers hu
     rw [Yz,Yz] at h1
     have h2:=congrArg List.length h1
     simp at h2
    case enter f args=>
     refine H.mono fun e eK dM=>?_
     cases e with
     | returned u=>exact dM.1 u rfl
     | panicked c=>exact absurd dM.1 (by intro h;cases h)
     | outgrown=>exact absurd dM yD
    case row row args=>exact H.mono fun u eK dM=>dM.1 u rfl
   | halt x ah=>cases x <;> simp only [Oper.upon] at H ⊢ <;> exact absurd H.1 (by intro h;cases h)
  ·exact absurd H.2 yD
 ·rename_i Pg
  simp only [Pg] at H
  exact H.1 undef rfl
structure lu (α:Type) where
 par:Nat→List Nat
 val:Nat→α→Value
 post:Nat→(Nat→α)→α→World→World→Prop
variable {α:Type} [Inhabited α]
def qX (ps:List Nat) (bu:Nat→α):Nat→α:=fun m=>if ps.contains m then bu m else default
theorem YY {ps:List Nat} {bu pX:Nat→α} (h:∀m ∈ ps,bu m= pX m):qX ps bu= qX ps pX:=by
 funext m
 unfold qX
 split
 ·rename_i hm;exact h m (List.contains_iff_mem.1 hm)
 ·rfl
def ED (S:lu α) (bu:Nat→α) (m:Nat) (W:World):Prop:=∃cY V,Below cY.heap.size cY V∧S.post m (qX (S.par m) bu) (bu m) cY V∧Below V.heap.size V W
def EE (P:Program) (ops:Array Oper) (C:World→Prop) (Q:Act→World→Prop) (S:lu α) (bu:Nat→α) (e:Nat) (mM:Oper) (a:Act):Prop:=
 ∀W,C W→(∀m ∈ S.par e,ED S bu m W)→Lt P ops Q e mM (fun v eF=>∃p,v= S.val e p∧Below W.heap.size W eF∧S.post e (qX (S.par e) bu) p W eF) a W
def lL (P:Program) (ops:Array Oper) (C:World→Prop) (Q:Act→World→Prop) (S:lu α) (bu:Nat→α) (F:Act→Prop):List (Nat×Nat)→Act→Prop
 | [],a=>F a
 | (i,k) ::r,a=>if k= 1 then∃dT,ops[i]? =some dT∧EE P ops C Q S bu i dT a∧lL P ops C Q S bu F r (a.put dT.dst (S.val i (bu i)))
  else∃dT v,ops[i]? =some dT∧lx P ops (pB C k) dT v a∧lL P ops C Q S bu F r (a.put dT.dst v)
theorem EE.of_same {S:lu α} {bu:Nat→α} {e:Nat} {mM:Oper} {a b:Act} (he:ops[e]? =some mM) (bz:execOp a.eval mM= execOp b.eval mM)
  (hw:Region.wanted mM (yielded ops a.tmps)= Region.wanted mM (yielded ops b.tmps)) (aZ:b.tmps.size= a.tmps.size) (h:EE P ops C Q S bu e mM b):EE P ops C Q S bu e mM a:=
 fun W eS aR=>ahN he bz hw aZ (h W eS aR)
theorem ID (fx:Region.noSelect ops= true) {S:lu α} {bu:Nat→α} {F:Act→Prop} {j zj:Nat} {s:List (Nat×Nat)} (Aq:zj≠1):∀(p:List (Nat×Nat)) (a:Act),(∀x ∈ p,uk ops x.1 j= true)→lL P ops C Q S bu F (p ++ (j,zj) ::s) a→
  ∃fe v,ops[j]? =some fe∧lx P ops (pB C zj) fe v a∧lL P ops C Q S bu F (p ++ s) (a.put fe.dst v)
 | [],a,_,h=>by
  simp only [List.nil_append,lL,if_neg Aq] at h
  exact h
 | (i,k) ::p,a,aR,h=>by
  have hi:=aR (i,k) (by simp)
  obtain⟨a1,ds,e1,e2,js⟩:=Fa.1 hi
  obtain⟨h1,h2,h3⟩:=Oper.apart_spec js
  by_cases ax:k= 1
  ·subst ax
   simp only [List.cons_append,lL,if_true] at h
   obtain⟨dT,iy,Ow,bz⟩:=h
   obtain⟨fe,v,hd,GQ,aZ⟩:=ID fx Aq p _ (fun x ay=>aR x (by simp [ay])) bz
   obtain rfl:=Option.some.inj (iy.symm.trans e1)
   obtain rfl:=Option.some.inj (hd.symm.trans e2)
   refine⟨fe,v,hd,GQ.of_same (execOp_put fe (sN fx hd) a dT.dst _ h1).symm (wanted_put fe a dT.dst _ h1).symm,?_⟩
   simp only [List.cons_append,lL,if_true]
   refine⟨dT,iy,Ow.of_same iy (execOp_put dT (sN fx iy) a fe.dst v h3) (wanted_put dT a fe.dst v h3) (Ks _ _ _).symm,?_⟩
   rw [← Act.put_comm a _ v h2]
   exact aZ
  ·simp only [List.cons_append,lL,if_neg ax] at h
   obtain⟨dT,qo,iy,zg,bz⟩:=h
   obtain⟨fe,v,hd,GQ,aZ⟩:=ID fx Aq p _ (fun x ay=>aR x (by simp [ay])) bz
   obtain rfl:=Option.some.inj (iy.symm.trans e1)
   obtain rfl:=Option.some.inj (hd.symm.trans e2)
   refine⟨fe,v,hd,GQ.of_same (execOp_put fe (sN fx hd) a dT.dst qo h1).symm (wanted_put fe a dT.dst qo h1).symm,?_⟩
   simp only [List.cons_append,lL,if_neg ax]
   exact abt
theorem IC (fx:Region.noSelect ops= true) {S:lu α} {bu:Nat→α} {F:Act→Prop} {j:Nat} {s:List (Nat×Nat)}:∀(p:List (Nat×Nat)) (a:Act),(∀x ∈ p,uk ops x.1 j= true)→lL P ops C Q S bu F (p ++ (j,1) ::s) a→
  ∃fe,ops[j]? =some fe∧EE P ops C Q S bu j fe a∧lL P ops C Q S bu F (p ++ s) (a.put fe.dst (S.val j (bu j)))
 | [],a,_,h=>by
  simp only [List.nil_append,lL,if_true] at h
  exact h
 | (i,k) ::p,a,aR,h=>by
  have hi:=aR (i,k) (by simp)
  obtain⟨a1,ds,e1,e2,js⟩:=Fa.1 hi
  obtain⟨h1,h2,h3⟩:=Oper.apart_spec js
  by_cases ax:k= 1
  ·subst ax
   simp only [List.cons_append,lL,if_true] at h
   obtain⟨dT,iy,Ow,bz⟩:=h
   obtain⟨fe,hd,kj,aZ⟩:=IC fx p _ (fun x ay=>aR x (by simp [ay])) bz
   obtain rfl:=Option.some.inj (iy.symm.trans e1)
   obtain rfl:=Option.some.inj (hd.symm.trans e2)
   refine⟨fe,hd,kj.of_same hd (execOp_put fe (sN fx hd) a dT.dst _ h1).symm (wanted_put fe a dT.dst _ h1).symm (Ks _ _ _),?_⟩
   simp only [List.cons_append,lL,if_true]
   refine⟨dT,iy,Ow.of_same iy (execOp_put dT (sN fx iy) a fe.dst _ h3) (wanted_put dT a fe.dst _ h3) (Ks _ _ _).symm,?_⟩
   rw [← Act.put_comm a _ _ h2]
   exact aZ
  ·simp only [List.cons_append,lL,if_neg ax] at h
   obtain⟨dT,qo,iy,zg,bz⟩:=h
   obtain⟨fe,hd,kj,aZ⟩:=IC fx p _ (fun x ay=>aR x (by simp [ay])) bz
   obtain rfl:=Option.some.inj (iy.symm.trans e1)
   obtain rfl:=Option.some.inj (hd.symm.trans e2)
   refine⟨fe,hd,kj.of_same hd (execOp_put fe (sN fx hd) a dT.dst qo h1).symm (wanted_put fe a dT.dst qo h1).symm (Ks _ _ _),?_⟩
   simp only [List.cons_append,lL,if_neg ax]
   refine⟨dT,qo,iy,zg.of_same (execOp_put dT (sN fx iy) a fe.dst _ h3) (wanted_put dT a fe.dst _ h3),?_⟩
   rw [← Act.put_comm a qo _ h2]
   exact aZ
theorem lx.uniq {o:Oper} {v lT:Value} {a:Act} {W:World} (eS:C W) (h:lx P ops C o v a) (dv:lx P ops C o lT a):v= lT:=by
 rcases h with ⟨hw,h⟩ | ⟨hw,h⟩ <;> rcases dv with ⟨vc,dv⟩ | ⟨vc,dv⟩
 ·rcases h W eS with h1 | ⟨h1,rfl⟩ <;> rcases dv W eS with h2 | ⟨h2,rfl⟩
  ·rw [h1] at h2;injection h2 with h3 _;injection h3
  ·rw [h1] at h2;injection h2 with h3 _;cases h3
  ·rw [h1] at h2;injection h2 with h3 _;cases h3
  ·rfl
 ·rw [hw] at vc;cases vc
 ·rw [hw] at vc;cases vc
 ·rw [h,dv]
structure Made (S:lu α) (w0:World) (ms:List Nat) (bu:Nat→α) (cY V:Nat→World) (W:World):Prop where
 nt:∀m ∈ ms,Below w0.heap.size w0 (cY m)
 grow:∀m ∈ ms,Below (cY m).heap.size (cY m) (V m)
 post:∀m ∈ ms,S.post m (qX (S.par m) bu) (bu m) (cY m) (V m)
 bh:∀m ∈ ms,Below (V m).heap.size (V m) W
 apart:∀m ∈ ms,∀n ∈ ms,m≠n→(V m).heap.size≤(cY n).heap.size∨(V n).heap.size≤(cY m).heap.size
theorem Made.whole {S:lu α} {w0:World} {ms:List Nat} {bu:Nat→α} {cY V:Nat→World} {W:World} (h:Made S w0 ms bu cY V W) (m:Nat) (hm:m ∈ ms):Below w0 w0 W:=ai (ai (h.nt m hm) (h.grow m hm)) (h.bh m hm)
theorem _root_.Go.RowKit.Below.qZ {w W:World} (h:Below w.drew.heap.size w.drew W):Below w w W:=⟨h.os,h.tape,h.output,h.size,h.block⟩
theorem SF {S:lu α} {bu:Nat→α} {F:Act→Prop} {r2:List (Nat×Nat)} {W:World} (aj:∀a,F a→gx P ops C Q r2 a W):∀(r:List (Nat×Nat)) (a:Act),(∀x ∈ r,x.2= 0∨x.2= 6)→lL P ops C Q S bu F r a→gx P ops C Q (r ++ r2) a W
 | [],a,_,h=>aj a h
 | (i,k) ::r,a,h0,h=>by
  have ax:k= 0∨k= 6:=h0 (i,k) (by simp)
  have n1:k≠1:=by omega
  have n3:k≠3:=by omega
  have n5:k≠5:=by omega
  simp only [lL,if_neg n1] at h
  simp only [List.cons_append,gx,if_neg n3,if_neg n5]
  obtain⟨dT,v,iy,hy,bz⟩:=h
  exact⟨dT,v,iy,hy,SF aj r _ (fun x ay=>h0 x (by simp [ay])) bz⟩
variable {S:lu α} {w0:World} {r2:List (Nat×Nat)} {ms:List Nat}
def aeh (P:Program) (ops:Array Oper) (C:World→Prop) (Q:Act→World→Prop) (S:lu α) (w0:World) (r2:List (Nat×Nat)) (ms:List Nat) (bu:Nat→α) (a:Act):Prop:=
 ∀cY V W,Made S w0 ms bu cY V W→C W→gx P ops C Q r2 a W
theorem aca {p:Prop} (h:p:=by
 have:=lC _ VN
 simp only at this h3
 rcases this with rfl | rfl | rfl | rfl <;> simp [zo,sk,Bg] at h3):p:=h
theorem aaC (fx:Region.noSelect ops= true) (iM:∀W eF,C W→Below W W eF→C eF)
  (fO:∀e ∈ ms,∀m ∈ S.par e,m ∈ ms∧te md ops e m= true) (lC:∀x ∈ r2,x.2= 2∨x.2= 3∨x.2= 4∨x.2= 5):
  ∀(n:Nat) (r:List (Nat×Nat)) (listed:Array Bool) (a:Act) (W:World) (pX:Nat→α) (cY V:Nat→World),r.length= n→(∀x ∈ r,x.2= 0∨x.2= 6∨(x.2= 1∧x.1 ∈ ms))→Fit md ops (r ++ r2) listed→
   (∀m ∈ ms,∀k,(m,k) ∈ r ++ r2→(m,k) ∈ r∧k= 1)→
   C W→Below w0 w0 W→Made S w0 (ms.filter fun m=>decide ((m,1) ∉ r)) pX cY V W→(∀m ∈ ms,(m,1) ∉ r→∀k ∈ S.par m,(k,1) ∉ r)→
   (∀bu:Nat→α,(∀m ∈ ms,(m,1) ∉ r→bu m= pX m)→lL P ops C Q S bu (aeh P ops C Q S w0 r2 ms bu) r a)→wpAny P md ops (hQ Q) (n + r2.length) listed a W:=by
 intro n
 induction n with
 | zero=>
  intro r listed a W pX cY V bd _ hf _ eS _ aY _ bN
  obtain rfl:=List.length_eq_zero_iff.1 bd
  have h1:=bN pX (fun _ _ _=>rfl)
  have nx:(ms.filter fun m=>decide ((m,1) ∉ ([]:List (Nat×Nat))))= ms:=by simp
  rw [nx] at aY
  rw [Nat.zero_add]
  exact DF fx _ r2 listed a W rfl (fun x ay=>by have:=lC x ay;omega) hf (.inr eS) (h1 cY V W aY eS)
 | succ n eP=>
  intro r listed a W pX cY V bd Om hf uP eS bK aY OG bN
  by_cases lj:∃m,(m,1) ∈ r
  ·obtain⟨m0,Ov⟩:=lj
   rw [show n + 1 + r2.length= (n + r2.length) + 1 by omega]
   refine⟨fun h0=>?_,fun j bI=>?_⟩
   ·cases r with
    | nil=>simp at bd
    | cons x s=>have:=hf.head;rw [h0] at this;cases this
   ·obtain⟨p,k,s,bz,aR,_⟩:=hf.ready bI
    have hC:∃dw cj,r= dw ++ (j,k) ::cj∧p= dw∧s= cj ++ r2:=by
     rcases List.append_eq_append_iff.1 bz with ⟨q,av,ao⟩ | ⟨q,av,ao⟩
     ·exfalso
      have h3:=aR (m0,1) (by rw [av];exact List.mem_append_left _ Ov)
      have VN:(j,k) ∈ r2:=by rw [ao];simp
      exact aca
     ·cases q with
      | nil=>
       exfalso
       simp at av ao
       have h3:=aR (m0,1) (by rw [← av];exact Ov)
       have VN:(j,k) ∈ r2:=by rw [← ao];simp
       exact aca
      | cons y q=>
       simp only [List.cons_append,List.cons.injEq] at ao
       obtain⟨rfl,ao⟩:=ao
       exact⟨p,q,av,rfl,ao⟩
    obtain⟨dw,cj,rfl,rfl,rfl⟩:=hC
    have js:∀x ∈ p,uk ops x.1 j= true:=fun x ay=>(aR x ay).2
    have VE:Fit md ops ((p ++ cj) ++ r2) (listed.setIfInBounds j true):=by
     have:=hf
     rw [List.append_assoc,List.cons_append] at this
     have:=this.step bI
     rwa [← List.append_assoc] at this
    have hlen:(p ++ cj).length= n:=by simp at bd ⊢;omega
    have xB:(p ++ cj).Sublist (p ++ (j,k) ::cj):=List.Sublist.append_left (List.sublist_cons_self _ _) p
    have VS:∀x ∈ p ++ cj,x.2= 0∨x.2= 6∨(x.2= 1∧x.1 ∈ ms):=fun x ay=>Om x (xB.subset ay)
    have aji:=Om (j,k) (by simp)
    obtain⟨atP,aut,ajA,aiT⟩:=mem_ready.1 bI
    have Wb:∀m ∈ ms,∀hT,(m,hT) ∈ (p ++ cj) ++ r2→(m,hT) ∈ p ++ cj∧hT= 1:=by
     intro m hm hT hC
     have h1:(m,hT) ∈ (p ++ (j,k) ::cj) ++ r2:=by
      rcases List.mem_append.1 hC with h | h
      ·exact List.mem_append_left _ (xB.subset h)
      ·exact List.mem_append_right _ h
     have h2:=uP m hm hT h1
     refine⟨?_,h2.2⟩
     rcases List.mem_append.1 hC with h | h
     ·exact h
     ·exfalso
      have h3:=lC _ h;have h4:=h2.2
      simp at h3;omega
    by_cases uN:k≠1
    ·have xz:∀m,(m,1) ∉ p ++ cj↔(m,1) ∉ p ++ (j,k) ::cj:=fun m=>by simp [Ne.symm uN]
     obtain⟨fe,v,hd,hy,_⟩:=ID fx uN p a js (bN pX (fun _ _ _=>rfl))
     have tn:pB C k W:= .inr eS
     refine hy.wpOp hd tn (eP (p ++ cj) _ _ W pX cY V hlen VS VE Wb eS bK ?_ ?_ ?_)
     ·have:(ms.filter fun m=>decide ((m,1) ∉ p ++ cj))= ms.filter fun m=>decide ((m,1) ∉ p ++ (j,k) ::cj):=by
       congr 1;funext m;exact decide_eq_decide.2 (xz m)
      rw [this];exact aY
     ·intro m hm sA hT kR
      rw [xz] at sA ⊢
      exact OG m hm sA hT kR
     ·intro bu JL
      obtain⟨anz,v2,OE,xK,Az⟩:=ID fx uN p a js (bN bu (fun m hm sA=>JL m hm ((xz m).2 sA)))
      obtain rfl:=Option.some.inj (hd.symm.trans OE)
      obtain rfl:=hy.uniq tn xK
      exact Az
    ·obtain rfl:k= 1:=Classical.byContradiction uN
     have Oj:j ∈ ms:=by
      rcases aji with h | h | h
      ·cases h
      ·cases h
      ·exact h.2
     have uG:∀hT ∈ S.par j,(hT,1) ∉ p ++ (j,1) ::cj:=by
      intro hT kR hC
      have he:=(fO j Oj hT kR).2
      obtain⟨fg,ajz,e,aiV,aiS,aiW⟩:=Jd.1 he
      obtain rfl:=Option.some.inj (ajA.symm.trans ajz)
      have h1:=aiT e aiV aiS;have bn:=hf.lt (hT,1) (List.mem_append_left _ hC);have h2:=(hf.mem hT bn).2 ⟨1,List.mem_append_left _ hC⟩
      rw [aiW,getD_both h2] at h1;cases h1
     have Oz:(j,1) ∉ p ++ cj:=by
      intro hC
      have OL:=hf.Bh
      rw [List.append_assoc,List.cons_append] at OL
      rcases List.mem_append.1 hC with h | h
      ·have:=(List.pairwise_append.1 OL).2.2 _ h (j,1) (by simp)
       simp [wq] at this
      ·have:=(List.pairwise_cons.1 (List.pairwise_append.1 OL).2.1).1 (j,1) (List.mem_append_left _ h)
       simp [wq] at this
     have xz:∀m,(m,1) ∉ p ++ cj↔(m,1) ∉ p ++ (j,1) ::cj∨m= j:=by
      intro m
      by_cases kj:m= j
      ·subst kj;simp [Oz]
      ·simp [kj]
     have ajD:∀hT ∈ S.par j,hT ∈ ms:=fun hT kR=>(fO j Oj hT kR).1
     obtain⟨fe,hd,kT,_⟩:=IC fx p a js (bN pX (fun _ _ _=>rfl))
     have kS:∀m,m ∈ ms→(m,1) ∉ p ++ (j,1) ::cj→m ∈ ms.filter fun m=>decide ((m,1) ∉ p ++ (j,1) ::cj):=fun m h1 h2=>List.mem_filter.2 ⟨h1,by simpa using h2⟩
     refine kT W eS (fun m hm=>?_) _ ?_
     ·have hC:=kS m (ajD m hm) (uG m hm)
      exact⟨cY m,V m,aY.grow m hC,aY.post m hC,aY.bh m hC⟩
     ·rintro v eF ⟨q,rfl,ck,ajH⟩
      have Pc:∀m,(m,1) ∉ p ++ (j,1) ::cj→m≠j:=fun m h1 h2=>h1 (by subst h2;simp)
      have ajE:∀m ∈ ms,(m,1) ∉ p ++ (j,1) ::cj→qX (S.par m) (fun i=>if i= j then q else pX i)= qX (S.par m) pX:=fun m hm sA=>
       YY fun hT kR=>by rw [if_neg (Pc hT (OG m hm sA hT kR))]
      have ajC:qX (S.par j) (fun i=>if i= j then q else pX i)= qX (S.par j) pX:=YY fun hT kR=>by rw [if_neg (Pc hT (uG hT kR))]
      have hold:∀m,m ∈ (ms.filter fun m=>decide ((m,1) ∉ p ++ cj))→m≠j→m ∈ ms.filter fun m=>decide ((m,1) ∉ p ++ (j,1) ::cj):=fun m hm eg=>by
       obtain⟨h1,h2⟩:=List.mem_filter.1 hm
       have h3:=(xz m).1 (of_decide_eq_true h2)
       exact kS m h1 (h3.resolve_right eg)
      refine eP (p ++ cj) _ _ eF (fun i=>if i= j then q else pX i) (fun i=>if i= j then W else cY i) (fun i=>if i= j then eF else V i) hlen VS VE Wb (iM W eF eS ck) (bK.trans (ck.mono bK.size)) ?_ ?_ ?_
      ·refine⟨fun m hm=>?_,fun m hm=>?_,fun m hm=>?_,fun m hm=>?_,fun m hm hN CH eg=>?_⟩
       ·by_cases kj:m= j
        ·rw [if_pos kj];exact bK
        ·rw [if_neg kj];exact aY.nt m (hold m hm kj)
       ·by_cases kj:m= j
        ·rw [if_pos kj,if_pos kj];exact ck
        ·rw [if_neg kj,if_neg kj];exact aY.grow m (hold m hm kj)
       ·by_cases kj:m= j
        ·subst kj
         rw [ajC]
         simp only [if_true];exact ajH
        ·have h1:=hold m hm kj
         have h2:=List.mem_filter.1 h1
         rw [ajE m h2.1 (of_decide_eq_true h2.2)]
         simp only [if_neg kj]
         exact aY.post m h1
       ·by_cases kj:m= j
        ·rw [if_pos kj];exact Below.refl _ _
        ·rw [if_neg kj];have h1:=aY.bh m (hold m hm kj);exact h1.trans (ck.mono h1.size)
       ·by_cases kj:m= j
        ·subst kj
         have bd:hN≠m:=fun h=>eg h.symm
         have h1:=aY.bh hN (hold hN CH bd)
         simp only [if_true,if_neg bd]
         exact .inr h1.size
        ·by_cases Ox:hN= j
         ·subst Ox
          have h1:=aY.bh m (hold m hm kj)
          simp only [if_true,if_neg kj]
          exact .inl h1.size
         ·simp only [if_neg kj,if_neg Ox]
          exact aY.apart m (hold m hm kj) hN (hold hN CH Ox) eg
      ·intro m hm sA hT kR
       rcases (xz m).1 sA with h1 | h1
       ·exact (xz hT).2 (.inl (OG m hm h1 hT kR))
       ·subst h1;exact (xz hT).2 (.inl (uG hT kR))
      ·intro bu JL
       have akn:bu j= q:=by have:=JL j Oj Oz;simpa using this
       obtain⟨anz,OE,_,Az⟩:=IC fx p a js (bN bu (fun m hm sA=>by
        have:=JL m hm ((xz m).2 (.inl sA))
        rw [this,if_neg (Pc m sA)]))
       obtain rfl:=Option.some.inj (hd.symm.trans OE)
       rw [akn] at Az
       exact Az
  ·have h0:∀x ∈ r,x.2= 0∨x.2= 6:=fun x ay=>by
    rcases Om x ay with h | h | ⟨h,_⟩
    ·exact .inl h
    ·exact .inr h
    ·exact absurd ⟨x.1,by rw [← h];exact ay⟩ lj
   have nx:(ms.filter fun m=>decide ((m,1) ∉ r))= ms:=by
    rw [List.filter_eq_self]
    intro m _
    exact decide_eq_true fun h=>lj ⟨m,h⟩
   rw [nx] at aY
   have h1:=bN pX (fun _ _ _=>rfl);have h2:gx P ops C Q (r ++ r2) a W:=SF (fun a' aj=>aj cY V W aY eS) r a h0 h1
   have aT:(r ++ r2).length= n + 1 + r2.length:=by simp [bd]
   rw [← aT]
   refine DF fx _ (r ++ r2) listed a W rfl (fun x ay=>?_) hf (.inr eS) h2
   rcases List.mem_append.1 ay with h | h
   ·have:=h0 x h;omega
   ·have:=lC x h;omega
def ig (dP eh:Nat):List (List Nat×Nat)→List Nat→List (Nat×Nat)
 | [],s=>s.map (·,dP)
 | (s,e) ::r,cj=>s.map (·,dP) ++ (e,eh) ::ig dP eh r cj
def cls (C:World→Prop):World→Prop:=fun ah=>∃k:cP C,ah= k.world
def XR (md:Region.Mode) (ops:Array Oper) (par:Nat→List Nat) (dz:List (List Nat×Nat)) (s1:List Nat) (r2:List (List Nat×Nat)) (s2:List Nat):Bool:=
 let hO:=ig 0 1 dz s1;let fg:=ig 2 3 r2 s2;let ms:=dz.map (·.2)
 Region.noSelect ops && HM md ops && Dj md ops (hO ++ fg) && (hO ++ fg).all (fun x=>decide (x.1 < ops.size)) && (List.range ops.size).all (fun i=>(hO ++ fg).any fun x=>x.1 == i) &&
  (hO ++ fg).all (fun x=>x.2 == 1 || x.2 == 3 || pV ops x.1) && ms.all (fun e=>(par e).all fun m=>ms.contains m && te md ops e m) && (hO ++ fg).all (fun x=>!(ms.contains x.1) || x.2 == 1) &&
  decide (hO.length + fg.length= ops.size)
def xh (l:List Oper) (e:Nat):Option Tmp:=match l[e]? with | some o=>o.dst | none=>none
def wK (P:Program) (l:List Oper) (C:World→Prop) (S:lu α) (bu:Nat→α) (F:Act→Prop):List (List Nat×Nat)→List Nat→Act→Prop
 | [],s,a=>wpQuiet P l.toArray C F (gm l s) a
 | (s,e) ::r,cj,a=>wpQuiet P l.toArray C (fun a'=>
   (∀W,C W→(∀m ∈ S.par e,ED S bu m W)→wpList P l.toArray (hQ fun fa eF=>∃p,fa= a'.put (xh l e) (S.val e p)∧Below W.heap.size W eF∧S.post e (qX (S.par e) bu) p W eF) (gm l [e]) a' W)∧
   wK P l C S bu F r cj (a'.put (xh l e) (S.val e (bu e)))) (gm l s) a
theorem lx.pB {o:Oper} {v:Value} {a:Act} {k:Nat} (ax:Bg k= false) (h:lx P ops C o v a):lx P ops (pB C k) o v a:=by
 have e:Go.G9.pB C k= C:=by
  funext w;unfold Go.G9.pB;rw [ax];exact propext ⟨fun h=>h.resolve_left (by decide),.inr⟩
 rw [e];exact h
theorem yd {l:List Oper} {X:Act→Prop} {R:List (Nat×Nat)→Act→Prop} {kk:Nat} {r:List (Nat×Nat)}
  (bN:∀(i:Nat) (r:List (Nat×Nat)) (a:Act),(∃dT v,l.toArray[i]? =some dT∧lx P l.toArray C dT v a∧R r (a.put dT.dst v))→R ((i,kk) ::r) a) (aO:∀a,X a→R r a):
  ∀(s:List Nat) (a:Act),(∀i ∈ s,i < l.length∧pV l.toArray i= true)→wpQuiet P l.toArray C X (gm l s) a→R (s.map (·,kk) ++ r) a
 | [],a,_,h=>aO a h
 | i ::s,a,aZ,h=>by
  have hi:=aZ i (by simp)
  have aR:gm l (i ::s)= l[i]'hi.1 ::gm l s:=by simp [gm,hi.1]
  rw [aR] at h
  have h1:l.toArray[i]? =some (l[i]'hi.1):=by simp [hi.1]
  have dv:qOp P l.toArray C i (wpQuiet P l.toArray C X (gm l s)) a:=by
   unfold qOp;simp only [h1];exact h
  obtain⟨v,hy,gg⟩:=yieldsIn_of_qOp h1 dv
  have ax:wE (l[i]'hi.1).op= true:=by have:=hi.2;simpa [pV,h1] using this
  exact bN i _ a ⟨_,v,h1,YieldsIn.QI ax hy,yd bN aO s _ (fun j bI=>aZ j (by simp [bI])) gg⟩
theorem SG {l:List Oper}:∀(r:List (List Nat×Nat)) (cj:List Nat) (a:Act) (w:World),(∀x ∈ ig 2 3 r cj,x.1 < l.length∧(x.2= 3∨pV l.toArray x.1= true))→vv P l C Q r cj a w→gx P l.toArray C Q (ig 2 3 r cj) a w
 | [],cj,a,w,aT,h=>by
  have:=yd (P:=P) (C:=C) (l:=l) (R:=fun r a=>gx P l.toArray C Q r a w) (kk:=2) (r:=[]) (fun i r a h=>by
   obtain⟨dT,v,h1,h2,h3⟩:=h
   simp only [gx];rw [if_neg (by decide),if_neg (by decide)];exact⟨dT,v,h1,h2.pB rfl,h3⟩) (fun a h=>h) cj a (fun i hi=>by
   have:=aT (i,2) (by simp [ig,hi]);exact⟨this.1,this.2.resolve_left (by simp)⟩) h
  simpa [ig] using this
 | (s,e) ::r,cj,a,w,aT,h=>by
  refine yd (P:=P) (C:=C) (l:=l) (R:=fun r a=>gx P l.toArray C Q r a w) (kk:=2) (fun i r a h=>by
   obtain⟨dT,v,h1,h2,h3⟩:=h
   simp only [gx];rw [if_neg (by decide),if_neg (by decide)];exact⟨dT,v,h1,h2.pB rfl,h3⟩) (fun a' dv=>?_) s a (fun i hi=>by
   have:=aT (i,2) (by simp [ig,hi]);exact⟨this.1,this.2.resolve_left (by simp)⟩) h
  have he:e < l.length:=(aT (e,3) (by simp [ig])).1
  have aR:gm l [e]= [l[e]]:=by simp [gm,he]
  rw [aR] at dv
  simp only [gx,if_true]
  unfold wpOp
  have h1:l.toArray[e]? =some l[e]:=by simp [he]
  simp only [h1]
  unfold wpList at dv
  have iU:∀fa eK,wpList P l.toArray (hQ fun fa eK=>C eK∧vv P l C Q r cj fa eK) [] fa eK→C eK∧gx P l.toArray C Q (ig 2 3 r cj) fa eK:=fun fa eK h2=>
   ⟨h2.2.1,SG r cj fa eK (fun x ay=>aT x (by simp [ig,ay])) h2.2.2⟩
  exact Le
theorem Mn {l:List Oper} {S:lu α} {bu:Nat→α} {F HZ:Act→Prop} (aj:∀a,F a→HZ a):∀(r:List (List Nat×Nat)) (cj:List Nat) (a:Act),(∀x ∈ ig 0 1 r cj,x.1 < l.length∧(x.2= 1∨pV l.toArray x.1= true))→wK P l C S bu F r cj a→lL P l.toArray C Q S bu HZ (ig 0 1 r cj) a
 | [],cj,a,aT,h=>by
  have:=yd (P:=P) (C:=C) (l:=l) (R:=fun r a=>lL P l.toArray C Q S bu HZ r a) (kk:=0) (r:=[]) (fun i r a h=>by
   obtain⟨dT,v,h1,h2,h3⟩:=h
   simp only [lL];rw [if_neg (by decide)];exact⟨dT,v,h1,h2.pB rfl,h3⟩) (fun a h=>aj a h) cj a (fun i hi=>by
   have:=aT (i,0) (by simp [ig,hi]);exact⟨this.1,this.2.resolve_left (by simp)⟩) h
  simpa [ig] using this
 | (s,e) ::r,cj,a,aT,h=>by
  refine yd (P:=P) (C:=C) (l:=l) (R:=fun r a=>lL P l.toArray C Q S bu HZ r a) (kk:=0) (fun i r a h=>by
   obtain⟨dT,v,h1,h2,h3⟩:=h
   simp only [lL];rw [if_neg (by decide)];exact⟨dT,v,h1,h2.pB rfl,h3⟩) (fun a' dv=>?_) s a (fun i hi=>by
   have:=aT (i,0) (by simp [ig,hi]);exact⟨this.1,this.2.resolve_left (by simp)⟩) h
  have he:e < l.length:=(aT (e,1) (by simp [ig])).1
  have aR:gm l [e]= [l[e]]:=by simp [gm,he]
  have bS:xh l e= (l[e]).dst:=by unfold xh;simp [he]
  rw [aR,bS] at dv
  simp only [lL,if_true]
  have h1:l.toArray[e]? =some l[e]:=by simp [he]
  refine⟨l[e],h1,fun W eS fO L ib=>?_,Mn aj r cj _ (fun x ay=>aT x (by simp [ig,ay])) dv.2⟩
  have h2:=dv.1 W eS fO
  unfold wpList at h2
  unfold wpOp
  simp only [h1]
  have iU:∀fa eK,wpList P l.toArray (hQ fun fa eF=>∃p,fa= a'.put (l[e]).dst (S.val e p)∧Below W W eF∧S.post e (qX (S.par e) bu) p W eF) [] fa eK→L fa eK:=fun fa eK h3=>by
   obtain⟨_,p,rfl,aE,bf⟩:=h3
   exact ib _ _ ⟨p,rfl,aE,bf⟩
  split
  ·rename_i hw
   simp only [hw,if_true] at h2
   exact h2.elim (fun h3=> .inl (Oper.QQ iU h3)) (fun h3=>absurd h3.2 yD)
  ·rename_i hw
   simp only [hw] at h2
   exact iU _ _ h2
theorem AU {dP eh:Nat}:∀(r:List (List Nat×Nat)) (cj:List Nat),∀x ∈ ig dP eh r cj,x.2= dP∨(x.2= eh∧x.1 ∈ r.map (·.2))
 | [],cj,x,ay=>by
  simp [ig] at ay
  obtain⟨_,_,rfl⟩:=ay
  exact .inl rfl
 | (s,e) ::r,cj,x,ay=>by
  simp only [ig,List.mem_append,List.mem_cons,List.mem_map] at ay
  rcases ay with ⟨_,_,rfl⟩ | rfl | ay
  ·exact .inl rfl
  ·exact .inr ⟨rfl,by simp⟩
  ·rcases AU r cj x ay with h | ⟨h,h2⟩
   ·exact .inl h
   ·exact .inr ⟨h,by simp only [List.map_cons,List.mem_cons];exact .inr h2⟩
theorem Hj {dP eh:Nat}:∀(r:List (List Nat×Nat)) (cj:List Nat),∀m ∈ r.map (·.2),(m,eh) ∈ ig dP eh r cj
 | [],_,m,hm=>by simp at hm
 | (s,e) ::r,cj,m,hm=>by
  simp only [List.map_cons,List.mem_cons] at hm
  simp only [ig,List.mem_append,List.mem_cons]
  rcases hm with rfl | hm
  ·exact .inr (.inl rfl)
  ·exact .inr (.inr (Hj r cj m hm))
theorem iF {l:List Oper} {S:lu α} {bu:Nat→α} {F:Act→Prop} {s cj:List Nat} {e:Nat} {r:List (List Nat×Nat)} {a:Act} (D:Option Tmp) (yO:xh l e= D) (v:Value) (az:S.val e (bu e)= v)
  (h:∀K:Act→Prop,(∀a',wK P l (fun ah=>∃k:cP C,ah= k.world) S bu F r cj (a'.put D v)→K a')→wpQuiet P l.toArray (fun ah=>∃k:cP C,ah= k.world) (fun a'=>
   (∀k:cP C,(∀m ∈ S.par e,ED S bu m k.world)→wpList P l.toArray (hQ fun fa eF=>∃p,fa= a'.put D (S.val e p)∧Below k.world.heap.size k.world eF∧S.post e (qX (S.par e) bu) p k.world eF) (gm l [e]) a' k.world)∧K a') (gm l s) a):
  wK P l (fun ah=>∃k:cP C,ah= k.world) S bu F ((s,e) ::r) cj a:=by
 subst yO az
 have H:=h _ (fun _ h=>h);have e1:(fun a':Act=>(∀W,(∃k:cP C,W= k.world)→(∀m ∈ S.par e,ED S bu m W)→wpList P l.toArray (hQ fun fa eF=>∃p,fa= a'.put (xh l e) (S.val e p)∧Below W W eF∧S.post e (qX (S.par e) bu) p W eF) (gm l [e]) a' W)∧wK P l (fun ah=>∃k:cP C,ah= k.world) S bu F r cj (a'.put (xh l e) (S.val e (bu e))))
   =fun a'=>(∀k:cP C,(∀m ∈ S.par e,ED S bu m k.world)→wpList P l.toArray (hQ fun fa eF=>∃p,fa= a'.put (xh l e) (S.val e p)∧Below k.world.heap.size k.world eF∧S.post e (qX (S.par e) bu) p k.world eF) (gm l [e]) a' k.world)∧wK P l (fun ah=>∃k:cP C,ah= k.world) S bu F r cj (a'.put (xh l e) (S.val e (bu e))):=by
  funext a'
  exact propext ⟨fun ⟨h1,h2⟩=>⟨fun k=>h1 _ ⟨k,rfl⟩,h2⟩,fun ⟨h1,h2⟩=>⟨fun W ⟨k,ax⟩=>ax ▸ h1 k,h2⟩⟩
 unfold wK
 rw [e1]
 exact H
theorem tM {l:List Oper} {S:lu α} {bu:Nat→α} {F:Act→Prop} {cj:List Nat} {a:Act} (h:wpQuiet P l.toArray C F (gm l cj) a):wK P l C S bu F [] cj a:=h
theorem hZ {Y:Act→World→Prop} {a:Act} {w:World} (h:Y a w):hQ Y .normal a w:=⟨rfl,h⟩
theorem aaS {p:Prop} (h:p:=by
 have h1:=fm x (List.mem_append_left _ ay);have h2:=ia x (List.mem_append_left _ ay)
 refine⟨by simpa using h1,?_⟩
 rcases AU dz s1 x ay with h3 | ⟨h3,_⟩
 ·right;simpa [h3] using h2
 ·exact .inl h3):p:=h
theorem Rp {p:Prop} (h:p:=by
 refine⟨du,by simp,fun i hi=>?_,fun x ay=>fm x ay,Yr ew,fun x y he _=>by
  obtain⟨o,dd,_⟩:=Jd.1 he
  have hy:=(Array.getElem?_eq_some_iff.1 dd).1
  have akj:y < l.length:=by simpa using hy
  simp [Array.getD_eq_getD_getElem?,akj]⟩
 have h1:=hJ i (List.mem_range.2 hi)
 rw [List.any_eq_true] at h1
 obtain⟨x,ay,akh⟩:=h1
 refine⟨fun _=>⟨x.2,?_⟩,fun _=>?_⟩
 ·have:x.1= i:=by simpa using akh
  rw [← this];exact ay
 ·have:i < l.length:=by simpa using hi
  simp [Array.getD_eq_getD_getElem?,this]):p:=h
theorem Rf {p:Prop} (h:p:=by
 rw [si] at H
 have mo:(Code.region id l.toArray true).wp P (hQ fun a' ah=>Q .normal a' ah) a w:=wp_region_any hm H
 exact Code.wp_mono (fun e a w h=>by obtain⟨rfl,h⟩:=h;exact h) mo):p:=h
theorem Bv {id:Nat} {Q:Exit→Act→World→Prop} {a:Act} {w:World} {l:List Oper} (S:lu α) (C:World→Prop) (dz:List (List Nat×Nat)) (s1:List Nat) (r2:List (List Nat×Nat)) (s2:List Nat) (hm:P.follows .mixedOrders= true)
  (bp:XR .any l.toArray S.par dz s1 r2 s2= true) (eS:C w.drew) (iM:∀W eF,C W→Below W W eF→C eF)
  (h:∀bu:Nat→α,wK P l (fun ah=>∃k:cP C,ah= k.world) S bu (fun a'=>∀cY V W,Made S w.drew (dz.map (·.2)) bu cY V W→C W→vv P l (fun ah=>∃k:cP C,ah= k.world) (fun a' ah=>Q .normal a' ah) r2 s2 a' W) dz s1 a):(Code.region id l.toArray true).wp P Q a w:=by
 simp only [XR,Bool.and_eq_true,List.all_eq_true,decide_eq_true_eq] at bp
 obtain⟨⟨⟨⟨⟨⟨⟨⟨ds,du⟩,ew⟩,fm⟩,hJ⟩,ia⟩,fW⟩,td⟩,si⟩:=bp
 have OW:∀W eF,cls C W→Below W W eF→cls C eF:=fun W eF ⟨k,ax⟩ aE=>⟨⟨eF,iM W eF (ax ▸ k.holds) aE⟩,rfl⟩
 have uN:∀x ∈ ig 0 1 dz s1,x.1 < l.length∧(x.2= 1∨pV l.toArray x.1= true):=fun x ay=>by
  exact aaS
 have lC:∀x ∈ ig 2 3 r2 s2,x.1 < l.length∧(x.2= 3∨pV l.toArray x.1= true):=fun x ay=>by
  have h1:=fm x (List.mem_append_right _ ay);have h2:=ia x (List.mem_append_right _ ay)
  refine⟨by simpa using h1,?_⟩
  rcases AU r2 s2 x ay with h3 | ⟨h3,_⟩
  ·right;simpa [h3] using h2
  ·exact .inl h3
 have nx:∀m ∈ dz.map (·.2),∀k,(m,k) ∈ ig 0 1 dz s1 ++ ig 2 3 r2 s2→(m,k) ∈ ig 0 1 dz s1∧k= 1:=by
  intro m hm k ax
  have h1:=td _ ax;have aG:(dz.map (·.2)).contains m= true:=List.contains_iff_mem.2 hm
  simp only [aG,Bool.not_true,Bool.false_or,beq_iff_eq] at h1
  refine⟨?_,h1⟩
  rcases List.mem_append.1 ax with h2 | h2
  ·exact h2
  ·exfalso
   rcases AU r2 s2 _ h2 with h3 | ⟨h3,_⟩ <;> simp at h3 <;> omega
 have xx:Fit .any l.toArray (ig 0 1 dz s1 ++ ig 2 3 r2 s2) (Array.replicate l.toArray.size false):=by
  exact Rp
 have H:=aaC (P:=P) (md:= .any) (ops:=l.toArray) (C:=cls C) (Q:=fun a' ah=>Q .normal a' ah) (S:=S) (w0:=w.drew) (r2:=ig 2 3 r2 s2) (ms:=dz.map (·.2)) ds OW
  (fun e he m hm=>by
   have h1:=fW e he m hm
   exact⟨List.contains_iff_mem.1 h1.1,h1.2⟩)
  (fun x ay=>by
   rcases AU r2 s2 x ay with h | ⟨h,_⟩
   ·exact .inl h
   ·exact .inr (.inl h))
  _ (ig 0 1 dz s1) _ a w.drew (fun _=>default) (fun _=>w) (fun _=>w) rfl (fun x ay=>(AU dz s1 x ay).imp_right .inr) xx nx ⟨⟨_,eS⟩,rfl⟩ (Below.refl _ _)
  (by
   have:((dz.map (·.2)).filter fun m=>decide ((m,1) ∉ ig 0 1 dz s1))= []:=by
    rw [List.filter_eq_nil_iff]
    intro m hm
    simp [Hj dz s1 m hm]
   rw [this]
   exact⟨fun m h=>(by cases h),fun m h=>(by cases h),fun m h=>(by cases h),fun m h=>(by cases h),fun m h=>(by cases h)⟩)
  (fun m hm bd=>absurd (Hj dz s1 m hm) bd)
  (fun bu _=>Mn (fun a' aj cY V W aY ⟨k,No⟩=>SG r2 s2 a' W lC (aj cY V W aY (by rw [No];exact k.holds))) dz s1 a uN (h bu))
 exact Rf
theorem lx.mono {o:Oper} {v:Value} {a:Act} {RH RI:World→Prop} (aZ:∀w,RI w→RH w) (h:lx P ops RH o v a):lx P ops RI o v a:=by
 rcases h with ⟨h1,h2⟩ | h
 ·exact .inl ⟨h1,fun w hw=>h2 w (aZ w hw)⟩
 ·exact .inr h
def IN:World→Prop:=fun ah=>∃k:cP (fun _=>True),ah= k.world
def ll:List (List Nat×List Nat×Nat×Bool)→List Nat→List Nat→List (Nat×Nat)
 | [],s,p=>s.map (·,2) ++ p.map (·,4)
 | (s,p,e,d) ::r,cj,dw=>s.map (·,2) ++ (p.map (·,4) ++ (e,if d= true then 5 else 3) ::ll r cj dw)
def BO (d:Bool) (C:World→Prop) (w:World):Prop:=d= false→C w
def wL (P:Program) (l:List Oper) (C:World→Prop) (Q:Act→World→Prop):List (List Nat×List Nat×Nat×Bool)→List Nat→List Nat→Act→World→Prop
 | [],s,p,a,w=>wpQuiet P l.toArray C (fun a'=>wpQuiet P l.toArray IN (fun fa=>Q fa w) (gm l p) a') (gm l s) a
 | (s,p,e,d) ::r,cj,dw,a,w=>wpQuiet P l.toArray C (fun a'=>wpQuiet P l.toArray IN (fun fa=>wpList P l.toArray (hQ fun fa eK=>BO d C eK∧wL P l C Q r cj dw fa eK) (gm l [e]) fa w) (gm l p) a') (gm l s) a
theorem Mo {l:List Oper}:∀(r:List (List Nat×List Nat×Nat×Bool)) (cj dw:List Nat) (a:Act) (w:World),(∀x ∈ ll r cj dw,x.1 < l.length∧(x.2= 3∨x.2= 5∨pV l.toArray x.1= true))→wL P l C Q r cj dw a w→gx P l.toArray C Q (ll r cj dw) a w
 | [],cj,dw,a,w,aT,h=>by
  refine yd (P:=P) (C:=C) (l:=l) (R:=fun r a=>gx P l.toArray C Q r a w) (kk:=2) (fun i r a h=>by
   obtain⟨dT,v,h1,h2,h3⟩:=h
   simp only [gx];rw [if_neg (by decide),if_neg (by decide)];exact⟨dT,v,h1,h2.pB rfl,h3⟩) (fun a' dv=>?_) cj a (fun i hi=>by
   have:=aT (i,2) (by simp [ll,hi]);exact⟨this.1,(this.2.resolve_left (by simp)).resolve_left (by simp)⟩) h
  have:=yd (P:=P) (C:=IN) (l:=l) (R:=fun r a=>gx P l.toArray C Q r a w) (kk:=4) (r:=[]) (fun i r a h=>by
   obtain⟨dT,v,h1,h2,h3⟩:=h
   simp only [gx];rw [if_neg (by decide),if_neg (by decide)];exact⟨dT,v,h1,h2.mono (fun w _=>⟨⟨w,trivial⟩,rfl⟩),h3⟩) (fun a h=>h) dw a' (fun i hi=>by
   have:=aT (i,4) (by simp [ll,hi]);exact⟨this.1,(this.2.resolve_left (by simp)).resolve_left (by simp)⟩) dv
  simpa using this
 | (s,p,e,d) ::r,cj,dw,a,w,aT,h=>by
  refine yd (P:=P) (C:=C) (l:=l) (R:=fun r a=>gx P l.toArray C Q r a w) (kk:=2) (fun i r a h=>by
   obtain⟨dT,v,h1,h2,h3⟩:=h
   simp only [gx];rw [if_neg (by decide),if_neg (by decide)];exact⟨dT,v,h1,h2.pB rfl,h3⟩) (fun a' dv=>?_) s a (fun i hi=>by
   have:=aT (i,2) (by simp [ll,hi]);exact⟨this.1,(this.2.resolve_left (by simp)).resolve_left (by simp)⟩) h
  refine yd (P:=P) (C:=IN) (l:=l) (R:=fun r a=>gx P l.toArray C Q r a w) (kk:=4) (fun i r a h=>by
   obtain⟨dT,v,h1,h2,h3⟩:=h
   simp only [gx];rw [if_neg (by decide),if_neg (by decide)];exact⟨dT,v,h1,h2.mono (fun w _=>⟨⟨w,trivial⟩,rfl⟩),h3⟩) (fun a' dv=>?_) p a' (fun i hi=>by
   have:=aT (i,4) (by simp [ll,hi]);exact⟨this.1,(this.2.resolve_left (by simp)).resolve_left (by simp)⟩) dv
  have he:e < l.length:=(aT (e,if d= true then 5 else 3) (by simp [ll])).1
  have aR:gm l [e]= [l[e]]:=by simp [gm,he]
  rw [aR] at dv
  have h1:l.toArray[e]? =some l[e]:=by simp [he]
  have Wk:∀fa eK,wL P l C Q r cj dw fa eK→gx P l.toArray C Q (ll r cj dw) fa eK:=fun fa eK h2=>Mo r cj dw fa eK (fun x ay=>aT x (by simp [ll,ay])) h2
  unfold wpList at dv
  cases d with
  | false=>
   simp only [gx,Bool.false_eq_true,if_false,if_true]
   unfold wpOp
   simp only [h1]
   have iU:∀fa eK,wpList P l.toArray (hQ fun fa eK=>BO false C eK∧wL P l C Q r cj dw fa eK) [] fa eK→C eK∧gx P l.toArray C Q (ll r cj dw) fa eK:=fun fa eK h2=>
    ⟨h2.2.1 rfl,Wk _ _ h2.2.2⟩
   exact Le
  | true=>
   simp only [gx,if_true]
   rw [if_neg (by decide)]
   unfold wpOp
   simp only [h1]
   have iU:∀fa eK,wpList P l.toArray (hQ fun fa eK=>BO true C eK∧wL P l C Q r cj dw fa eK) [] fa eK→gx P l.toArray C Q (ll r cj dw) fa eK:=fun fa eK h2=>
    Wk _ _ h2.2.2
   exact Le
theorem Ye:∀(r:List (List Nat×List Nat×Nat×Bool)) (cj dw:List Nat),∀x ∈ ll r cj dw,x.2≠1∧x.2≤6
 | [],cj,dw,x,ay=>by
  simp [ll] at ay
  rcases ay with ⟨_,_,rfl⟩ | ⟨_,_,rfl⟩ <;> simp
 | (s,p,e,d) ::r,cj,dw,x,ay=>by
  simp only [ll,List.mem_append,List.mem_cons,List.mem_map] at ay
  rcases ay with ⟨_,_,rfl⟩ | ⟨_,_,rfl⟩ | rfl | ay
  ·simp
  ·simp
  ·cases d <;> simp
  ·exact Ye r cj dw x ay
def Yd (md:Region.Mode) (ops:Array Oper) (r:List (List Nat×List Nat×Nat×Bool)) (s p:List Nat):Bool:=
 let o:=ll r s p
 Region.noSelect ops && HM md ops && Dj md ops o && o.all (fun x=>decide (x.1 < ops.size)) && (List.range ops.size).all (fun i=>o.any fun x=>x.1 == i) &&
  o.all (fun x=>x.2 == 3 || x.2 == 5 || pV ops x.1) && decide (o.length= ops.size)
theorem HR {id:Nat} {Q:Exit→Act→World→Prop} {a:Act} {w:World} {l:List Oper} (C:World→Prop) (r:List (List Nat×List Nat×Nat×Bool)) (s p:List Nat) (hm:P.follows .mixedOrders= true)
  (bp:Yd .any l.toArray r s p= true) (eS:C w.drew)
  (h:wL P l (fun ah=>∃k:cP C,ah= k.world) (fun a' ah=>Q .normal a' ah) r s p a w.drew):(Code.region id l.toArray true).wp P Q a w:=by
 simp only [Yd,Bool.and_eq_true,List.all_eq_true,decide_eq_true_eq] at bp
 obtain⟨⟨⟨⟨⟨⟨ds,du⟩,ew⟩,fm⟩,hJ⟩,ia⟩,si⟩:=bp
 have xx:Fit .any l.toArray (ll r s p) (Array.replicate l.toArray.size false):=by
  exact Rp
 have ax:∀x ∈ ll r s p,x.1 < l.length∧(x.2= 3∨x.2= 5∨pV l.toArray x.1= true):=fun x ay=>by
  have h1:=fm x ay;have h2:=ia x ay
  refine⟨by simpa using h1,?_⟩
  simpa [or_assoc] using h2
 have H:=DF (P:=P) (md:= .any) (ops:=l.toArray) (C:=fun ah=>∃k:cP C,ah= k.world) (Q:=fun a' ah=>Q .normal a' ah) ds _ (ll r s p) _ a w.drew rfl (Ye r s p) xx (.inr ⟨⟨_,eS⟩,rfl⟩) (Mo r s p a w.drew ax h)
 exact Rf
theorem pn {l:List Oper} {s p cj dw:List Nat} {e:Nat} {d:Bool} {r:List (List Nat×List Nat×Nat×Bool)} {a:Act} {w:World}
  (h:∀K:Act→World→Prop,(∀a w,wL P l C Q r cj dw a w→K a w)→wpQuiet P l.toArray C (fun a'=>wpQuiet P l.toArray (fun ah=>∃k:cP (fun _=>True),ah= k.world) (fun fa=>wpList P l.toArray (hQ fun fa eK=>BO d C eK∧K fa eK) (gm l [e]) fa w) (gm l p) a') (gm l s) a):wL P l C Q ((s,p,e,d) ::r) cj dw a w:=
 h _ (fun _ _ h=>h)
theorem zC {l:List Oper} {cj dw:List Nat} {a:Act} {w:World} (h:wpQuiet P l.toArray C (fun a'=>wpQuiet P l.toArray (fun ah=>∃k:cP (fun _=>True),ah= k.world) (fun fa=>Q fa w) (gm l dw) a') (gm l cj) a):wL P l C Q [] cj dw a w:=h
theorem yC {C:World→Prop} {K:Act→World→Prop} {a:Act} {w:World} (eS:C w) (h:K a w):hQ (fun fa eK=>BO false (fun ah=>∃k:cP C,ah= k.world) eK∧K fa eK) .normal a w:=⟨rfl,fun _=>⟨⟨w,eS⟩,rfl⟩,h⟩
theorem yB {X:World→Prop} {K:Act→World→Prop} {a:Act} {w:World} (h:K a w):hQ (fun fa eK=>BO true X eK∧K fa eK) .normal a w:=⟨rfl,fun h=>(by cases h),h⟩
end
open Go.RowKit
section
variable {P:Program} {ops:Array Oper} {md:Region.Mode} {C:World→Prop} {α:Type} [Inhabited α]
def XU (md:Region.Mode) (ops:Array Oper) (par:Nat→List Nat) (dz:List (List Nat×Nat)) (s1:List Nat) (r2:List (List Nat×List Nat×Nat×Bool)) (s2 di:List Nat):Bool:=
 let hO:=ig 0 1 dz s1;let fg:=ll r2 s2 di;let ms:=dz.map (·.2)
 Region.noSelect ops && HM md ops && Dj md ops (hO ++ fg) && (hO ++ fg).all (fun x=>decide (x.1 < ops.size)) && (List.range ops.size).all (fun i=>(hO ++ fg).any fun x=>x.1 == i) &&
  (hO ++ fg).all (fun x=>x.2 == 1 || x.2 == 3 || x.2 == 5 || pV ops x.1) && ms.all (fun e=>(par e).all fun m=>ms.contains m && te md ops e m) && (hO ++ fg).all (fun x=>!(ms.contains x.1) || x.2 == 1) &&
  decide (hO.length + fg.length= ops.size)
theorem Ke:∀(r:List (List Nat×List Nat×Nat×Bool)) (cj dw:List Nat),∀x ∈ ll r cj dw,x.2= 2∨x.2= 3∨x.2= 4∨x.2= 5
 | [],cj,dw,x,ay=>by
  simp [ll] at ay
  rcases ay with ⟨_,_,rfl⟩ | ⟨_,_,rfl⟩ <;> simp
 | (s,p,e,d) ::r,cj,dw,x,ay=>by
  simp only [ll,List.mem_append,List.mem_cons,List.mem_map] at ay
  rcases ay with ⟨_,_,rfl⟩ | ⟨_,_,rfl⟩ | rfl | ay
  ·simp
  ·simp
  ·cases d <;> simp
  ·exact Ke r cj dw x ay
theorem HQ {id:Nat} {Q:Exit→Act→World→Prop} {a:Act} {w:World} {l:List Oper} (S:lu α) (C:World→Prop) (dz:List (List Nat×Nat)) (s1:List Nat) (r2:List (List Nat×List Nat×Nat×Bool)) (s2 di:List Nat) (hm:P.follows .mixedOrders= true)
  (bp:XU .any l.toArray S.par dz s1 r2 s2 di= true) (eS:C w.drew) (iM:∀W eF,C W→Below W W eF→C eF)
  (h:∀bu:Nat→α,wK P l (fun ah=>∃k:cP C,ah= k.world) S bu (fun a'=>∀cY V W,Made S w.drew (dz.map (·.2)) bu cY V W→C W→wL P l (fun ah=>∃k:cP C,ah= k.world) (fun a' ah=>Q .normal a' ah) r2 s2 di a' W) dz s1 a):(Code.region id l.toArray true).wp P Q a w:=by
 simp only [XU,Bool.and_eq_true,List.all_eq_true,decide_eq_true_eq] at bp
 obtain⟨⟨⟨⟨⟨⟨⟨⟨ds,du⟩,ew⟩,fm⟩,hJ⟩,ia⟩,fW⟩,td⟩,si⟩:=bp
 have OW:∀W eF,cls C W→Below W W eF→cls C eF:=fun W eF ⟨k,ax⟩ aE=>⟨⟨eF,iM W eF (ax ▸ k.holds) aE⟩,rfl⟩
 have uN:∀x ∈ ig 0 1 dz s1,x.1 < l.length∧(x.2= 1∨pV l.toArray x.1= true):=fun x ay=>by
  exact aaS
 have lC:∀x ∈ ll r2 s2 di,x.1 < l.length∧(x.2= 3∨x.2= 5∨pV l.toArray x.1= true):=fun x ay=>by
  have h1:=fm x (List.mem_append_right _ ay);have h2:=ia x (List.mem_append_right _ ay)
  refine⟨by simpa using h1,?_⟩
  have h3:=Ke r2 s2 di x ay
  have h4:x.2≠1:=by omega
  simpa [h4,or_assoc] using h2
 have nx:∀m ∈ dz.map (·.2),∀k,(m,k) ∈ ig 0 1 dz s1 ++ ll r2 s2 di→(m,k) ∈ ig 0 1 dz s1∧k= 1:=by
  intro m hm k ax
  have h1:=td _ ax;have aG:(dz.map (·.2)).contains m= true:=List.contains_iff_mem.2 hm
  simp only [aG,Bool.not_true,Bool.false_or,beq_iff_eq] at h1
  refine⟨?_,h1⟩
  rcases List.mem_append.1 ax with h2 | h2
  ·exact h2
  ·exfalso
   have h3:=Ke r2 s2 di _ h2
   simp only at h3;omega
 have xx:Fit .any l.toArray (ig 0 1 dz s1 ++ ll r2 s2 di) (Array.replicate l.toArray.size false):=by
  exact Rp
 have H:=aaC (P:=P) (md:= .any) (ops:=l.toArray) (C:=cls C) (Q:=fun a' ah=>Q .normal a' ah) (S:=S) (w0:=w.drew) (r2:=ll r2 s2 di) (ms:=dz.map (·.2)) ds OW
  (fun e he m hm=>by
   have h1:=fW e he m hm
   exact⟨List.contains_iff_mem.1 h1.1,h1.2⟩)
  (fun x ay=>Ke r2 s2 di x ay)
  _ (ig 0 1 dz s1) _ a w.drew (fun _=>default) (fun _=>w) (fun _=>w) rfl (fun x ay=>(AU dz s1 x ay).imp_right .inr) xx nx ⟨⟨_,eS⟩,rfl⟩ (Below.refl _ _)
  (by
   have:((dz.map (·.2)).filter fun m=>decide ((m,1) ∉ ig 0 1 dz s1))= []:=by
    rw [List.filter_eq_nil_iff]
    intro m hm
    simp [Hj dz s1 m hm]
   rw [this]
   exact⟨fun m h=>(by cases h),fun m h=>(by cases h),fun m h=>(by cases h),fun m h=>(by cases h),fun m h=>(by cases h)⟩)
  (fun m hm bd=>absurd (Hj dz s1 m hm) bd)
  (fun bu _=>Mn (fun a' aj cY V W aY ⟨k,No⟩=>Mo r2 s2 di a' W lC (aj cY V W aY (by rw [No];exact k.holds))) dz s1 a uN (h bu))
 exact Rf
end
end Go.G9
namespace Go.Proofs.YtlaaemmmbodaaaaGreatDoor
open Go.RowKit Go.G9
def fc (n a b:Int):Bool:=decide (a≤n) && decide (n≤b)
theorem rH {n a b:Int}:fc n a b= true↔a≤n∧n≤b:=by simp [fc]
def tu (l:List UInt8):Bool:=l.all fun c=>decide (97≤c.toNat) && decide (c.toNat≤122)
def wJ (s:ByteArray):Bool:=tu s.data.toList && fc s.size 1 10
theorem je (n a b:Int) (v:Bool) (az:fc n a b= v) (w:World):Calls Tryz.prog 79 #[n,a,b] w fun e ah=>e= .returned v∧ah= w:=by
 subst az
 go_in
 go_wp2
 all_goals go_ret;exact⟨by simp [fc, *] <;> omega,rfl⟩
theorem jv (n a b:Int) (v:Bool) (az:fc n a b= v) (w:World):Calls Tryz.prog 186 #[n,a,b] w fun e ah=>e= .returned v∧ah= w:=by
 subst az
 go_in
 go_wp2
 all_goals go_ret;exact⟨by simp [fc, *] <;> omega,rfl⟩
theorem XE (s:ByteArray) (k:Nat) (h:k < s.size):tu (s.data.toList.take (k+1))= (tu (s.data.toList.take k) && (decide (97≤s[k].toNat) && decide (s[k].toNat≤122))):=by
 unfold tu
 rw [List.take_succ_eq_append_getElem (by simpa using h),List.all_append];simp;rfl
theorem XD (s:ByteArray) (k:Nat) (h:k < s.size) (h1:(decide (97≤s[k].toNat) && decide (s[k].toNat≤122))= false):tu s.data.toList= false:=by
 have:tu s.data.toList= (tu (s.data.toList.take (k+1)) && tu (s.data.toList.drop (k+1))):=by
  unfold tu;rw [← List.all_append,List.take_append_drop]
 rw [this,XE s k h,h1];simp
theorem adm {p:Prop} (h:p:=by
 by_cases h1:s[k].toNat < 97
 ·go_wp2
  go_ret
  exact⟨by simp [wJ,XD s k bn (by simp;omega)],rfl⟩
 ·by_cases h2:122 < s[k].toNat
  ·go_wp2
   go_ret
   exact⟨by simp [wJ,XD s k bn (by simp;omega)],rfl⟩
  ·go_wp2
   go_round
   case rel=>exact⟨k + 1,by omega,by go_num,by rw [XE s k bn,cJ.out];simp;omega⟩
   case measure=>simp [intOf];omega):p:=h
theorem ach {p:Prop} (h:p:=by
 go_ret
 have:=cJ.out
 rw [List.take_of_length_le (by simp)] at this
 exact⟨by simp [wJ,this],rfl⟩):p:=h
theorem alT (s:ByteArray) (aZ:s.size≤maxLen) (v:Bool) (az:wJ s= v) (w:World):Calls Tryz.prog 281 #[s] w fun e ah=>e= .returned v∧ah= w:=by
 subst az
 unfold maxLen at aZ
 go_in
 go_wp2
 go_loop [3] (fun i=>∃k:Nat,k≤s.size∧i= .int .i64 k∧tu (s.data.toList.take k)= true) (fun i=>s.size - (intOf i).toNat)
 case atStart=>exact⟨0,Nat.zero_le _,rfl,rfl⟩
 case round=>
  obtain⟨k,ax,rfl,aT⟩:=hrel
  have cJ:=J aT;clear aT
  by_cases bn:k < s.size
  ·exact adm
  ·obtain rfl:k= s.size:=by omega
   go_wp2_with (go_at_call 79;refine (je _ _ _ _ rfl _).mono ?_;rintro e ah ⟨rfl,rfl⟩)
   exact ach
theorem amr (s:ByteArray) (aZ:s.size≤maxLen) (v:Bool) (az:wJ s= v) (w:World):Calls Tryz.prog 283 #[s] w fun e ah=>e= .returned v∧ah= w:=by
 subst az
 unfold maxLen at aZ
 go_in
 go_wp2
 go_loop [3] (fun i=>∃k:Nat,k≤s.size∧i= .int .i64 k∧tu (s.data.toList.take k)= true) (fun i=>s.size - (intOf i).toNat)
 case atStart=>exact⟨0,Nat.zero_le _,rfl,rfl⟩
 case round=>
  obtain⟨k,ax,rfl,aT⟩:=hrel
  have cJ:=J aT;clear aT
  by_cases bn:k < s.size
  ·exact adm
  ·obtain rfl:k= s.size:=by omega
   go_wp2_with (go_at_call 186;refine (jv _ _ _ _ rfl _).mono ?_;rintro e ah ⟨rfl,rfl⟩)
   exact ach
end Go.Proofs.YtlaaemmmbodaaaaGreatDoor
