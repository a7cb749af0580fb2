/- Parts. -/
import Derived.BigQuiet
import Derived.Deep.Draws
import Derived.Lib.Hide
import Derived.WalkKit
import Derived.WalkLawsBesides
import Derived.WalkSpells
import Derived.Laws.AppendOwnNone
import Derived.StillTail
import Derived.Test.YtlaaemmmbodaaaaGreatDoorProg
set_option maxHeartbeats 16000000
set_option maxRecDepth 100000
set_option linter.unnecessarySimpa false
set_option linter.unusedSimpArgs false
set_option linter.unusedVariables false
namespace Go.G9
open Go.RowKit
instance asF:Coe Int Value:=⟨fun x=> .int .i64 x⟩
instance asH:Coe Nat Value:=⟨fun n=> .int .i64 (n:Int)⟩
instance asI:Coe ByteArray Value:=⟨fun x=> .string x⟩
instance asE:Coe Bool Value:=⟨fun x=> .bool x⟩
instance asD:Coe Nat (Option Addr):=⟨fun g=>some ⟨g,0,none⟩⟩
instance asG {α:Type}:CoeOut (List α) Nat:=⟨List.length⟩
instance asJ:Coe World Nat:=⟨fun w=>w.heap.size⟩
structure ax (B:Nat) (w:World) where
  world:World
  below:Below B w world
instance {B:Nat} {w:World}:Nonempty (ax B w):=⟨⟨w,Below.refl _ _⟩⟩
theorem ax.cell {B:Nat} {w:World} (k:ax B w) {p:Addr} (h:p.block < B):k.world.cell? p= w.cell? p:=k.below.cell h
theorem ax.frozen {B:Nat} {w:World} (k:ax B w) {p:Addr} (h:p.block < B):k.world.frozen? p= w.frozen? p:=k.below.frozen h
theorem ax.call {P:Program} {f:FuncId} {args:Array Value} {B:Nat} {w:World} {v:Value} (k:ax B w) (bm:B≤w.heap.size)
    (h:Calls P f args k.world fun e ag=>e= .returned v∧Below k.world.heap.size k.world ag):
    Calls P f args k.world fun e eI=>e= .returned v∧∃hS:ax B w,eI= hS.world:=
  h.mono fun _ ag ⟨he,aB⟩=>⟨he,⟨ag,k.below.trans (aB.mono (Nat.le_trans bm k.below.size))⟩,rfl⟩
theorem ax.same {P:Program} {f:FuncId} {args:Array Value} {B:Nat} {w:World} {v:Value} (k:ax B w)
    (h:Calls P f args k.world fun e ag=>e= .returned v∧ag= k.world):
    Calls P f args k.world fun e eI=>e= .returned v∧∃hS:ax B w,eI= hS.world:=
  h.mono fun _ _ ⟨he,aB⟩=>⟨he,k,aB⟩
theorem aca {p:Prop} (h:p:=by
 funext a';exact propext ⟨fun h ag ⟨k,az⟩=>az ▸ h k,fun h k=>h _ ⟨k,rfl⟩⟩):p:=h
theorem ew {P:Program} {id:Nat} {Q:Exit→Act→World→Prop} {a:Act} {w:World} {l:List Oper} (hm:P.follows .mixedOrders= true) (bm:Region.lexB .any l.toArray= true)
    (h:wpQuiet P l.toArray (fun ag=>∃k:ax w.heap.size w,ag= k.world) (fun a'=>∀k:ax w.heap.size w,Q .normal a' k.world) l a):(Code.region id l.toArray true).wp P Q a w:=
  wp_region_quiet (C:=fun ag=>∃k:ax w.heap.size w,ag= k.world) hm bm ⟨⟨w.drew,(Below.refl _ _).drew⟩,rfl⟩
    (by
      have e:(fun a':Act=>∀k:ax w.heap.size w,Q .normal a' k.world)= (fun a'=>∀ag,(∃k:ax w.heap.size w,ag= k.world)→Q .normal a' ag):=by
        exact aca
      rw [e] at h;simpa using h)
theorem ah {w bd aM:World} (h:Below w w bd) (k:Below bd bd aM):Below w w aM:=h.trans (k.mono h.size)
def hH (p:Nat→Bool) (n:Nat):Bool:=(List.range n).all p
theorem afm (p:Nat→Bool) (n:Nat):hH p (n+1)= (hH p n && p n):=by simp [hH,List.range_succ]
theorem nz {p:Nat→Bool} {n:Nat} (h:hH p n= true) (aO:p n= true):hH p (n+1)= true:=by rw [afm,h,aO];rfl
theorem uy {p:Nat→Bool} {n k:Nat} (h:k < n) (aO:p k= false):hH p n= false:=by
  simp only [hH,List.all_eq_false,List.mem_range];exact⟨k,h,by simp [aO]⟩
theorem oZ {p:Nat→Bool} {n:Nat}:hH p n= true↔∀k,k < n→p k= true:=by simp [hH]
theorem ek {a b:Bool} (h:a= b):Ending.returned a= .returned b:=by rw [h]
theorem vp {k:IntKind} {a b:Int} (h:a= b):Ending.returned (.int k a)= .returned (.int k b):=by rw [h]
def aH {T:Type} (sz:Nat) (f:T→List Value) (w:World) (A:Option Addr) (xs:List T):Prop:=
  0 < xs.length→∃b off,A= some ⟨b,off,none⟩∧b < w.heap.size∧∀i x,xs[i]? =some x→∀j u,(f x)[j]? =some u→w.cell? ⟨b,off + i * sz + j,none⟩ =some u
theorem aH.nil {T:Type} {sz:Nat} {f:T→List Value} {w:World} {A:Option Addr}:aH sz f w A []:=fun h=>absurd h (by simp)
theorem aH.below {T:Type} {sz:Nat} {f:T→List Value} {w ag:World} {A:Option Addr} {xs:List T} (h:aH sz f w A xs) (aB:Below w w ag):aH sz f ag A xs:=fun aY=>by
  obtain⟨b,off,aR,bl,aE⟩:=h aY
  exact⟨b,off,aR,Nat.lt_of_lt_of_le bl aB.size,fun i x ay j u hu=>(aB.cell (p:=⟨b,_,none⟩) bl).trans (aE i x ay j u hu)⟩
theorem aH.at_ {T:Type} {sz:Nat} {f:T→List Value} {w wr:World} {A:Option Addr} {xs:List T} (h:aH sz f w A xs) (aB:Below w w wr) {k:Nat} (az:k < xs.length):
    ∃b off x,A= some ⟨b,off,none⟩∧b < wr.heap.size∧xs[k]? =some x∧∀j u,(f x)[j]? =some u→∀K:ax wr.heap.size wr,K.world.cell? ⟨b,off + k * sz + j,none⟩ =some u:=by
  obtain⟨b,off,aR,bl,aE⟩:=h (by omega)
  have Dc:=Nat.lt_of_lt_of_le bl aB.size
  exact⟨b,off,xs[k],aR,Dc,List.getElem?_eq_getElem az,fun j u hu K=>(K.cell (p:=⟨b,_,none⟩) Dc).trans ((aB.cell (p:=⟨b,_,none⟩) bl).trans (aE k _ (List.getElem?_eq_getElem az) j u hu))⟩
def ax.self (w:World):ax w.heap.size w:=⟨w,Below.refl _ _⟩
theorem bZ (w:World) (a:Obj):Below w w (w.alloc a):=(Below.refl _ _).alloc (Nat.le_refl _) _
theorem xf (w:World) (a b:Obj):Below w w ((w.alloc a).alloc b):=(bZ w a).alloc (by simp) _
theorem Ms (w:World) (a b c:Obj):Below w w (((w.alloc a).alloc b).alloc c):=(xf w a b).alloc (by simp;omega) _
theorem HB {P:Program} (t e:TypeId) (i:TypeInfo) (z:Value) (cE:P.underlying t= some (.slice e)) (hi:P.info? e= some i) (cc:i.zero= some z)
    (WY ga:IntKind) (n c:Nat) (nj:n≤c) (uO:i.bytes * c≤281474976710656) (h63:c≤9223372036854775807) (w:World):
    (Instr.makeSlice t (.int WY (n:Int)) (.int ga (c:Int))).run P w= .ok (.slice w.heap.size n c) (w.alloc (.cells (madeCells z.cells (c * i.size)) e)):=by
  have aB:(i.bytes:Int) * (c:Int)≤281474976710656:=by
    have h:((i.bytes * c:Nat):Int)≤281474976710656:=by omega
    rwa [Int.natCast_mul] at h
  have bu:=run_make (P:=P) w t e i z cE hi cc WY ga n c (by omega) (by omega) aB (by omega)
  simp only [Int.toNat_natCast] at bu
  exact bu
def aq (w:World) (g:Nat) (t:TypeId) (cs:Array Value):Prop:=w.heap[g]? =some (.cells cs t (0,0))
section
variable {w ag:World} {g:Nat} {t:TypeId} {cs:Array Value}
theorem aq.lt (h:aq w g t cs):g < w.heap.size:=by
  rcases Nat.lt_or_ge g w.heap.size with bl | wh
  · exact bl
  · unfold aq at h;rw [Array.getElem?_eq_none wh] at h;cases h
theorem aq.cell (h:aq w g t cs) (i:Nat):w.cell? ⟨g,i,none⟩ =cs[i]?:=cell_of_row w g i cs t (0,0) h
theorem aq.frozen (h:aq w g t cs) (i:Nat):w.frozen? ⟨g,i,none⟩ =false:=by
  unfold aq at h
  simp [World.frozen?,h]
theorem aq.new (w:World) (t:TypeId) (cs:Array Value):aq (w.alloc (.cells cs t)) w.heap.size t cs:=heap_alloc_new w _
theorem aq.alloc (h:aq w g t cs) (o:Obj):aq (w.alloc o) g t cs:=(Below.heap_alloc w o g h.lt).trans h
theorem aq.gH (h:aq w g t cs) (i:Nat) (u:Value):aq (w.setCell ⟨g,i,none⟩ u) g t (cs.setIfInBounds i u):=by
  unfold aq at h ⊢
  simp [World.setCell,Array.getElem?_modify,h]
theorem aq.below {B:Nat} (h:aq w g t cs) (aB:Below B w ag) (cw:g < B):aq ag g t cs:=(aB.block g cw).trans h
end
def Own {T:Type} (B:Nat) (sz:Nat) (f:T→List Value) (t:TypeId) (w:World) (A:Option Addr) (xs:List T):Prop:=
  ∃g cs,A= some ⟨g,0,none⟩∧B≤g∧aq w g t cs∧∀i x,xs[i]? =some x→∀j u,(f x)[j]? =some u→cs[i * sz + j]? =some u
theorem Own.dE {T:Type} {B sz:Nat} {f:T→List Value} {t:TypeId} {w:World} {A:Option Addr} {xs:List T} (h:Own B sz f t w A xs):aH sz f w A xs:=fun _=>by
  obtain⟨g,cs,aR,_,aB,aE⟩:=h
  exact⟨g,0,aR,aB.lt,fun i x ay j u hu=>by rw [aB.cell,Nat.zero_add];exact aE i x ay j u hu⟩
def lh {T:Type} (sz:Nat) (f:T→List Value) (xs:List T) (k:Nat) (cs:Array Value):Prop:=
  ∀i x,i < k→xs[i]? =some x→∀j u,(f x)[j]? =some u→cs[i * sz + j]? =some u
theorem lh.zero {T:Type} {sz:Nat} {f:T→List Value} {xs:List T} {cs:Array Value}:lh sz f xs 0 cs:=fun _ _ h=>absurd h (Nat.not_lt_zero _)
theorem aq.some_ {w:World} {g:Nat} {t:TypeId} {cs:Array Value} (h:aq w g t cs) (i:Nat) (hi:i < cs.size):∃v,w.cell? ⟨g,i,none⟩ =some v:=⟨cs[i],by rw [h.cell];exact Array.getElem?_eq_getElem hi⟩
def gQ:Array Value→Nat→List Value→Array Value
  | cs,_,[]=>cs
  | cs,i,u ::us=>gQ (cs.setIfInBounds i u) (i + 1) us
def setCells:World→Nat→Nat→List Value→World
  | w,_,_,[]=>w
  | w,g,i,u ::us=>setCells (w.setCell ⟨g,i,none⟩ u) g (i + 1) us
theorem pV:∀(us:List Value) (cs:Array Value) (i:Nat),(gQ cs i us).size= cs.size
  | [],_,_=>rfl
  | u ::us,cs,i=>by rw [gQ,pV us];simp
theorem aq.gQ {g:Nat} {t:TypeId}:∀(i:Nat) (us:List Value) {w:World} {cs:Array Value},aq w g t cs→aq (setCells w g i us) g t (Go.G9.gQ cs i us)
  | _,[],_,_,h=>h
  | i,u ::us,_,_,h=>aq.gQ (i + 1) us (h.gH i u)
theorem Qd:∀(us:List Value) (cs:Array Value) (i j:Nat),j < i→(gQ cs i us)[j]? =cs[j]?
  | [],_,_,_,_=>rfl
  | u ::us,cs,i,j,h=>by rw [gQ,Qd us _ _ _ (by omega),Array.getElem?_setIfInBounds_ne (by omega)]
theorem Zr:∀(us:List Value) (cs:Array Value) (i j:Nat) (u:Value),i + us.length≤cs.size→us[j]? =some u→(gQ cs i us)[i + j]? =some u
  | [],_,_,_,_,_,h=>by simp at h
  | v ::us,cs,i,0,u,aX,h=>by
    simp only [List.length_cons] at aX
    simp at h;subst h
    rw [gQ,Qd us _ _ _ (by omega),Nat.add_zero,Array.getElem?_setIfInBounds_self_of_lt (by omega)]
  | v ::us,cs,i,j + 1,u,aX,h=>by
    simp only [List.length_cons] at aX
    simp at h
    rw [gQ,show i + (j + 1)= (i + 1) + j from by omega]
    exact Zr us _ _ j u (by simp;omega) h
theorem lh.put {T:Type} {sz:Nat} {f:T→List Value} {xs:List T} {k:Nat} {cs:Array Value} {x:T} (h:lh sz f xs k cs) (ay:xs[k]? =some x) (aX:k * sz + (f x).length≤cs.size)
    (hf:∀y,(f y).length= sz:=by intro y;rfl):lh sz f xs (k + 1) (Go.G9.gQ cs (k * sz) (f x)):=by
  intro i y hi hy j u hu
  have bH:j < sz:=by have:=hf y;have h2:=(List.getElem?_eq_some_iff.1 hu).1;omega
  by_cases he:i= k
  · subst he
    obtain rfl:x= y:=Option.some.inj (ay.symm.trans hy)
    exact Zr _ _ _ _ _ aX hu
  · rw [Qd _ _ _ _ (by
      have:i + 1≤k:=by omega
      have:=Nat.mul_le_mul_right sz this
      rw [Nat.add_mul,Nat.one_mul] at this;omega)]
    exact h i y (by omega) hy j u hu
theorem lh.all {T:Type} {sz:Nat} {f:T→List Value} {xs:List T} {cs:Array Value} (h:lh sz f xs xs.length cs):∀i x,xs[i]? =some x→∀j u,(f x)[j]? =some u→cs[i * sz + j]? =some u:=
  fun i x ay=>h i x (List.getElem?_eq_some_iff.1 ay).1 ay
theorem boxed (w:World) (cs:Array Value) (t:TypeId) (j:Nat) (u:Value) (h:cs[j]? =some u) (K:ax (w.alloc (.cells cs t)).heap.size (w.alloc (.cells cs t))):K.world.cell? ⟨w.heap.size,j,none⟩ =some u:=
  (K.cell (p:=⟨w.heap.size,j,none⟩) (by simp)).trans (((aq.new w t cs).cell j).trans h)
def ax.drop {w bd:World} (K:ax bd.heap.size bd) (h:Below w.heap.size w bd):ax w.heap.size w:=⟨K.world,ah h K.below⟩
open Go.RowKit
theorem aq.vY {w:World} {g:Nat} {t:TypeId} {cs:Array Value} (h:aq w g t cs) {p:Addr} (aO:g≠p.block) (u:Value):aq (w.setCell p u) g t cs:=(Below.heap_setCell w p u g aO).trans h
theorem aq.fu (w:World) (a:Obj) (t:TypeId) (cs:Array Value):aq ((w.alloc a).alloc (.cells cs t)) (w.heap.size + 1) t cs:=by
  have h:=aq.new (w.alloc a) t cs
  rwa [show (w.alloc a).heap.size= w.heap.size + 1 from by simp] at h
theorem aq.fx (w:World) (a b:Obj) (t:TypeId) (cs:Array Value):aq (((w.alloc a).alloc b).alloc (.cells cs t)) (w.heap.size + 1 + 1) t cs:=by
  have h:=aq.new ((w.alloc a).alloc b) t cs
  rw [show ((w.alloc a).alloc b).heap.size= w.heap.size + 1 + 1 from by simp] at h
  exact h
theorem aq.gb (w:World) (a b c:Obj) (t:TypeId) (cs:Array Value):aq ((((w.alloc a).alloc b).alloc c).alloc (.cells cs t)) (w.heap.size + 1 + 1 + 1) t cs:=by
  have h:=aq.new (((w.alloc a).alloc b).alloc c) t cs
  rw [show (((w.alloc a).alloc b).alloc c).heap.size= w.heap.size + 1 + 1 + 1 from by simp] at h
  exact h
open Go.RowKit
def aV {T:Type} (B:Nat) (e:TypeId) (sz:Nat) (f:T→List Value) (w:World) (v:Value) (xs:List T):Prop:=w.ownsRow B e sz v xs.length (xs.flatMap f)
section
variable {T:Type} {B:Nat} {e:TypeId} {sz:Nat} {f:T→List Value} {w ag:World} {v:Value} {xs:List T}
theorem mq (hf:∀y,(f y).length= sz):∀xs:List T,(xs.flatMap f).length= xs.length * sz
  | []=>by simp
  | x ::xs=>by rw [List.flatMap_cons,List.length_append,mq hf xs,hf,List.length_cons,Nat.add_mul,Nat.one_mul,Nat.add_comm]
theorem CG (hf:∀y,(f y).length= sz):∀(xs:List T) (i:Nat) (x:T),xs[i]? =some x→∀(j:Nat) (u:Value),(f x)[j]? =some u→(xs.flatMap f)[i * sz + j]? =some u
  | [],_,_,h,_,_,_=>by simp at h
  | y ::xs,0,x,h,j,u,hu=>by
    simp at h;subst h
    rw [List.flatMap_cons,List.getElem?_append_left (by have:=(List.getElem?_eq_some_iff.1 hu).1;omega),Nat.zero_mul,Nat.zero_add];exact hu
  | y ::xs,i + 1,x,h,j,u,hu=>by
    simp at h
    have h2:=CG hf xs i x h j u hu
    rw [List.flatMap_cons,List.getElem?_append_right (by rw [hf,Nat.add_mul];omega),hf,show (i + 1) * sz + j - sz= i * sz + j from by rw [Nat.add_mul,Nat.one_mul];omega]
    exact h2
theorem Jc (hf:∀y,(f y).length= sz) (xs:List T) (k:Nat) (u:Value) (h:(xs.flatMap f)[k]? =some u):∃i j x,xs[i]? =some x∧(f x)[j]? =some u∧k= i * sz + j:=by
  induction xs generalizing k with
  | nil=>simp at h
  | cons y xs eM=>
    rw [List.flatMap_cons] at h
    by_cases az:k < (f y).length
    · rw [List.getElem?_append_left az] at h
      exact⟨0,k,y,rfl,h,by omega⟩
    · rw [List.getElem?_append_right (by omega)] at h
      obtain⟨i,j,x,ay,bH,e⟩:=eM _ h
      exact⟨i + 1,j,x,by simpa using ay,bH,by rw [Nat.add_mul,Nat.one_mul];have:=hf y;omega⟩
theorem aV.nil:aV B e sz f w (.slice none 0 0) []:=World.ownsRow_nil _ _ _ _
theorem aV.form (h:aV B e sz f w v xs) (hf:∀y,(f y).length= sz):∃A c,v= .slice A xs.length c∧xs.length≤c∧aH sz f w A xs∧(A= none→xs= []):=by
  obtain⟨aS,h⟩:=h
  rcases h with ⟨rfl,h0⟩ | ⟨g,cap,cur,rfl,bm,dQ,nj,kq,iy,wm⟩
  · have:xs= []:=List.length_eq_zero_iff.1 h0
    subst this
    exact⟨none,0,rfl,Nat.le_refl _,aH.nil,fun _=>rfl⟩
  · refine⟨some ⟨g,0,none⟩,cap,rfl,nj,fun _=>⟨g,0,rfl,(Array.getElem?_eq_some_iff.1 dQ).1,fun i x ay j u hu=>?_⟩,fun h=>by cases h⟩
    have h1:=CG hf xs i x ay j u hu
    rw [← wm,List.getElem?_take] at h1
    split at h1
    · rw [Nat.zero_add,cell_of_row w g _ cur e (0,0) dQ];simpa using h1
    · cases h1
theorem aV.dE {A:Option Addr} {n c:Nat} (h:aV B e sz f w (.slice A n c) xs) (hf:∀y,(f y).length= sz:=by intro y;rfl):aH sz f w A xs:=by
  obtain⟨hc,cM,aw,_,bL,_⟩:=h.form hf
  injection aw with h1 h2 h3;subst h1;exact bL
theorem aV.below (h:aV B e sz f w v xs) {B':Nat} (aB:Below B' w ag) (bl:∀k,v.ownBlock= some k→k < B'):aV B e sz f ag v xs:=by
  refine⟨h.1,?_⟩
  rcases h.2 with aY | ⟨g,cap,cur,rfl,bm,dQ,r⟩
  · exact .inl aY
  · exact .inr ⟨g,cap,cur,rfl,bm,by rw [aB.block g (bl g rfl)];exact dQ,r⟩
theorem aV.lt (h:aV B e sz f w v xs):∀k,v.ownBlock= some k→B≤k∧k < w.heap.size:=World.ownsRow.lt h
theorem aV.later (h:aV B e sz f w v xs) (aB:Below w w ag):aV B e sz f ag v xs:=h.below aB (fun k az=>(h.lt k az).2)
theorem aV.alloc (h:aV B e sz f w v xs) (o:Obj):aV B e sz f (w.alloc o) v xs:=World.ownsRow.alloc h o
theorem aV.kept {row:Option Nat} (h:aV B e sz f w v xs) (cw:w.grownBy ag row) (eP:∀k,v.ownBlock= some k→some k≠row):aV B e sz f ag v xs:=by
  refine⟨h.1,?_⟩
  rcases h.2 with aY | ⟨g,cap,cur,rfl,bm,dQ,r⟩
  · exact .inl aY
  · exact .inr ⟨g,cap,cur,rfl,bm,by rw [cw.block g (Array.getElem?_eq_some_iff.1 dQ).1 (eP g rfl)];exact dQ,r⟩
theorem aV.base {B':Nat} (h:aV B e sz f w v xs) (bm:B'≤B):aV B' e sz f w v xs:=by
  refine⟨h.1,?_⟩
  rcases h.2 with aY | ⟨g,cap,cur,rfl,cw,r⟩
  · exact .inl aY
  · exact .inr ⟨g,cap,cur,rfl,by omega,r⟩
theorem aV.filled {g:Nat} {cs:Array Value} (aB:aq w g e cs) (bm:B≤g) (eZ:cs.size= xs.length * sz) (hm:xs.length≤maxLen) (ai:∀i x,xs[i]? =some x→∀j u,(f x)[j]? =some u→cs[i * sz + j]? =some u)
    (hf:∀y,(f y).length= sz:=by intro y;rfl):aV B e sz f w (.slice (some ⟨g,0,none⟩) xs.length xs.length) xs:=by
  refine⟨mq hf xs,.inr ⟨g,xs.length,cs,rfl,bm,aB,Nat.le_refl _,hm,eZ,?_⟩⟩
  rw [List.take_of_length_le (by simp [eZ])]
  apply List.ext_getElem?
  intro k
  by_cases az:k < (xs.flatMap f).length
  · obtain⟨i,j,x,ay,bH,rfl⟩:=Jc hf xs k _ (List.getElem?_eq_getElem az)
    rw [List.getElem?_eq_getElem az,← ai i x ay j _ bH];simp
  · rw [mq hf] at az
    rw [List.getElem?_eq_none (by rw [Array.length_toList];omega),List.getElem?_eq_none (by rw [mq hf];omega)]
theorem aH.flat {jf:Addr} {ys:List T} (h:aH sz f w (some jf) ys) (hf:∀y,(f y).length= sz) (j:Nat) (u:Value) (hu:(ys.flatMap f)[j]? =some u):w.cell? (jf.add j)= some u:=by
  obtain⟨i,rO,y,hy,bH,rfl⟩:=Jc hf ys j u hu
  obtain⟨b,off,aR,_,aE⟩:=h (by have:=(List.getElem?_eq_some_iff.1 hy).1;omega)
  injection aR with aR;subst aR
  rw [← aE i y hy rO u bH]
  congr 1
  unfold Addr.add
  split <;> simp_all [Nat.add_assoc]
theorem aH.one (x:T) (t:TypeId):aH sz f (w.alloc (.cells (f x).toArray t)) (some ⟨w.heap.size,0,none⟩) [x]:=fun _=>
  ⟨w.heap.size,0,rfl,by simp,fun i y hy j u hu=>by
    have h0:i= 0:=by have:=(List.getElem?_eq_some_iff.1 hy).1;simp at this;omega
    subst h0;simp at hy;subst hy
    rw [Nat.zero_mul,Nat.zero_add]
    exact ((aq.new w t _).cell j).trans (by simpa using hu)⟩
theorem aH.alloc {A:Option Addr} (h:aH sz f w A xs) (o:Obj):aH sz f (w.alloc o) A xs:=h.below (bZ w o)
end
section
variable {T:Type} {B:Nat} {e:TypeId} {sz:Nat} {f:T→List Value} {w ag:World} {v:Value} {xs:List T}
theorem aV.made (w:World) (bm:B≤w.heap.size) (e:TypeId):aV B e sz f (w.alloc (.cells #[] e)) (.slice w.heap.size 0 0) ([]:List T):=
  World.ownsRow_made w #[] 0 bm (by simp) (by simp)
theorem aV.mS {A:Option Addr} {n c:Nat} (h:aV B e sz f w (.slice A n c) xs):A= none→xs= []∧c= 0:=by
  rintro rfl
  rcases h.2 with ⟨aw,h0⟩ | ⟨g,cap,cur,aw,_⟩
  · injection aw with _ _ h3;exact⟨List.length_eq_zero_iff.1 h0,h3⟩
  · injection aw with h1;cases h1
theorem Yh {n:Nat} {cells:List Value} {g j:Nat} {u:Value} (h:w.ownsRow B e sz v n cells) (cw:v.ownBlock= some g):(w.setCell ⟨g,j,none⟩ u).ownsRow B e sz v n (cells.set j u):=by
  obtain⟨aS,h⟩:=h
  refine⟨by simpa using aS,?_⟩
  rcases h with ⟨rfl,_⟩ | ⟨bo,cap,cur,rfl,bm,dQ,nj,kq,iy,wm⟩
  · simp [Value.ownBlock] at cw
  · simp [Value.ownBlock] at cw;subst cw
    refine .inr ⟨bo,cap,cur.setIfInBounds j u,rfl,bm,(aq.gH (w:=w) (g:=bo) (t:=e) (cs:=cur) dQ j u),nj,kq,by simpa using iy,?_⟩
    rw [Array.toList_setIfInBounds,← wm,List.take_set]
theorem Yg {n:Nat} {cells:List Value} {g j:Nat} (h:w.ownsRow B e sz v n cells) (cw:v.ownBlock= some g) (bH:j < cells.length):w.cell? ⟨g,j,none⟩ =some cells[j]∧w.frozen? ⟨g,j,none⟩ =false:=by
  obtain⟨aS,h⟩:=h
  rcases h with ⟨rfl,_⟩ | ⟨bo,cap,cur,rfl,bm,dQ,nj,kq,iy,wm⟩
  · simp [Value.ownBlock] at cw
  · simp [Value.ownBlock] at cw;subst cw
    refine⟨?_,aq.frozen (w:=w) (g:=bo) (t:=e) (cs:=cur) dQ j⟩
    rw [cell_of_row w bo j cur e (0,0) dQ]
    have h1:(cur.toList.take (n * sz))[j]? =some cells[j]:=by rw [wm];exact List.getElem?_eq_getElem bH
    rw [List.getElem?_take] at h1
    split at h1
    · simpa using h1
    · cases h1
theorem qP (w:World) (row:Option Nat):w.grownBy w row:=⟨rfl,rfl,rfl,Nat.le_refl _,fun _ _ _=>rfl⟩
theorem lp {a w:World} {g j:Nat} (h:a.grownBy w (some g)) (u:Value):a.grownBy (w.setCell ⟨g,j,none⟩ u) (some g):=
  ⟨h.os,h.tape,h.output,by simpa [World.setCell] using h.size,fun i hi eP=>(Below.heap_setCell w _ u i (by rintro rfl;exact eP rfl)).trans (h.block i hi eP)⟩
theorem qg {a b c:World} {row:Option Nat} (h:a.grownBy b row) (k:b.grownBy c row):a.grownBy c row:=
  ⟨k.os.trans h.os,k.tape.trans h.tape,k.output.trans h.output,Nat.le_trans h.size k.size,fun i hi eP=>(k.block i (Nat.lt_of_lt_of_le hi h.size) eP).trans (h.block i hi eP)⟩
theorem Na {a b:World} {row:Option Nat} {B:Nat} (h:a.grownBy b row) (bm:B≤a.heap.size) (bu:∀k,row= some k→B≤k):Below B a b:=(Below.refl B a).grown h bm bu
theorem lU {a b:World} (h:Below a a b) (row:Option Nat):a.grownBy b row:=⟨h.os,h.tape,h.output,h.size,fun i hi _=>h.block i hi⟩
theorem aH.grown {A:Option Addr} {row:Option Nat} (h:aH sz f w A xs) (cw:w.grownBy ag row) (eP:∀jf,A= some jf→some jf.block≠row):aH sz f ag A xs:=fun aY=>by
  obtain⟨b,off,aR,bl,aE⟩:=h aY
  exact⟨b,off,aR,Nat.lt_of_lt_of_le bl cw.size,fun i x ay j u hu=>(World.cell?_of_block (cw.block b bl (eP _ aR))).trans (aE i x ay j u hu)⟩
end
theorem KP {P:Program} {w:World} {ops:Array Oper} {rest:List Oper} {o:Oper} {a:Act} {Q:Exit→Act→World→Prop} (nF:o.guard= none) (s x:Operand) (t:TypeId)
    (cY:o.op= .call {callee:= .builtin .append,args:=#[s,x],argTypes:=#[t,t]})
    (B:Nat) (e:TypeId) (i:TypeInfo) (z:Value) (sz bytes:Nat) (cE:P.underlying t= some (.slice e)) (hi:P.info? e= some i) (cc:i.zero= some z)
    (va:i.size= sz) (uN:i.bytes= bytes) (vi:z.cells.size= sz) (eZ:0 < sz) {T:Type} (f:T→List Value) (hf:∀y,(f y).length= sz) (ks:∀y u,u ∈ f y→u.oneCell'= true)
    (v:Value) (xs:List T) (aX:a.eval s= v) (GD:aV B e sz f w v xs) (aj:Option Addr) (c2:Nat) (ys:List T) (ay:a.eval x= .slice aj ys c2) (bL:aH sz f w aj ys)
    (aR:aj= none→ys= []∧c2= 0) (h63:xs.length + ys.length≤maxLen) (uO:(xs.length + ys.length) * bytes≤140737488355328) (Gf:B≤w.heap.size)
    (h:∀mf ag,aV B e sz f ag mf (xs ++ ys)→w.grownBy ag v.ownBlock→wpList P ops Q rest (a.put o.dst mf) ag):wpList P ops Q (o ::rest) a w:=by
  cases aj with
  | some jf=>
    refine wpList_append_own w nF s x t cY B e i z sz bytes cE hi cc va uN vi eZ v xs.length (xs.flatMap f) aX GD jf ys.length c2 (ys.flatMap f) ay (mq hf ys) (fun j u hu=>aH.flat bL hf j u hu)
      (fun u hu=>by obtain⟨y,_,hy⟩:=List.mem_flatMap.1 hu;exact ks y u hy) h63 uO Gf (fun mf ag h1 h2 _=>h mf ag ?_ h2)
    unfold aV;rw [List.length_append,List.flatMap_append];exact h1
  | none=>
    obtain⟨rfl,rfl⟩:=aR rfl
    exact wpList_append_own_none nF s x t cY B e i sz cE hi v xs.length (xs.flatMap f) aX GD ay (h v w (by simpa using GD) ⟨rfl,rfl,rfl,Nat.le_refl _,fun _ _ _=>rfl⟩)
open Go.RowKit
instance asy (w:World):Nonempty (PLift (Below w.heap.size w w)):=⟨⟨Below.refl _ _⟩⟩
instance asx (w W:World) (o:Obj) [h:Nonempty (PLift (Below w.heap.size w W))]:Nonempty (PLift (Below w.heap.size w (W.alloc o))):=⟨⟨h.elim fun x=>x.down.alloc x.down.size _⟩⟩
theorem av {w W:World} [h:Nonempty (PLift (Below w w W))]:Below w w W:=h.elim fun x=>x.down
section
variable {w W:World} {g:Nat} {t:TypeId}
theorem aq.mI {a0 a1:Value} (h:aq w g t #[a0,a1]):w.cell? ⟨g,0,none⟩ =some a0∧w.cell? ⟨g,1,none⟩ =some a1:=⟨h.cell 0,h.cell 1⟩
theorem aq.IU {vC:Sort _} {V:vC→World} {a0 a1:Value} (h:∀k,aq (V k) g t #[a0,a1]):(∀k,(V k).cell? ⟨g,0,none⟩ =some a0)∧(∀k,(V k).cell? ⟨g,1,none⟩ =some a1):=⟨fun k=>(h k).cell 0,fun k=>(h k).cell 1⟩
theorem aq.xq {cs:Array Value} (h:aq w g t cs):w.frozen? ⟨g,0,none⟩ =false∧w.frozen? ⟨g,1,none⟩ =false:=⟨h.frozen 0,h.frozen 1⟩
theorem aq.cC {a0 a1 a2:Value} (h:aq w g t #[a0,a1,a2]):w.cell? ⟨g,0,none⟩ =some a0∧w.cell? ⟨g,1,none⟩ =some a1∧w.cell? ⟨g,2,none⟩ =some a2:=⟨h.cell 0,h.cell 1,h.cell 2⟩
theorem aq.jV {vC:Sort _} {V:vC→World} {a0 a1 a2:Value} (h:∀k,aq (V k) g t #[a0,a1,a2]):(∀k,(V k).cell? ⟨g,0,none⟩ =some a0)∧(∀k,(V k).cell? ⟨g,1,none⟩ =some a1)∧(∀k,(V k).cell? ⟨g,2,none⟩ =some a2):=⟨fun k=>(h k).cell 0,fun k=>(h k).cell 1,fun k=>(h k).cell 2⟩
theorem aq.og {cs:Array Value} (h:aq w g t cs):w.frozen? ⟨g,0,none⟩ =false∧w.frozen? ⟨g,1,none⟩ =false∧w.frozen? ⟨g,2,none⟩ =false:=⟨h.frozen 0,h.frozen 1,h.frozen 2⟩
theorem aq.aP {a0 a1 a2 a3 a4:Value} (h:aq w g t #[a0,a1,a2,a3,a4]):w.cell? ⟨g,0,none⟩ =some a0∧w.cell? ⟨g,1,none⟩ =some a1∧w.cell? ⟨g,2,none⟩ =some a2∧w.cell? ⟨g,3,none⟩ =some a3∧w.cell? ⟨g,4,none⟩ =some a4:=⟨h.cell 0,h.cell 1,h.cell 2,h.cell 3,h.cell 4⟩
theorem aq.kE {vC:Sort _} {V:vC→World} {a0 a1 a2 a3 a4:Value} (h:∀k,aq (V k) g t #[a0,a1,a2,a3,a4]):(∀k,(V k).cell? ⟨g,0,none⟩ =some a0)∧(∀k,(V k).cell? ⟨g,1,none⟩ =some a1)∧(∀k,(V k).cell? ⟨g,2,none⟩ =some a2)∧(∀k,(V k).cell? ⟨g,3,none⟩ =some a3)∧(∀k,(V k).cell? ⟨g,4,none⟩ =some a4):=⟨fun k=>(h k).cell 0,fun k=>(h k).cell 1,fun k=>(h k).cell 2,fun k=>(h k).cell 3,fun k=>(h k).cell 4⟩
theorem aq.jn {cs:Array Value} (h:aq w g t cs):w.frozen? ⟨g,0,none⟩ =false∧w.frozen? ⟨g,1,none⟩ =false∧w.frozen? ⟨g,2,none⟩ =false∧w.frozen? ⟨g,3,none⟩ =false∧w.frozen? ⟨g,4,none⟩ =false:=⟨h.frozen 0,h.frozen 1,h.frozen 2,h.frozen 3,h.frozen 4⟩
theorem aq.da {a0 a1 a2 a3 a4 a5:Value} (h:aq w g t #[a0,a1,a2,a3,a4,a5]):w.cell? ⟨g,0,none⟩ =some a0∧w.cell? ⟨g,1,none⟩ =some a1∧w.cell? ⟨g,2,none⟩ =some a2∧w.cell? ⟨g,3,none⟩ =some a3∧w.cell? ⟨g,4,none⟩ =some a4∧w.cell? ⟨g,5,none⟩ =some a5:=⟨h.cell 0,h.cell 1,h.cell 2,h.cell 3,h.cell 4,h.cell 5⟩
theorem aq.MC {vC:Sort _} {V:vC→World} {a0 a1 a2 a3 a4 a5:Value} (h:∀k,aq (V k) g t #[a0,a1,a2,a3,a4,a5]):(∀k,(V k).cell? ⟨g,0,none⟩ =some a0)∧(∀k,(V k).cell? ⟨g,1,none⟩ =some a1)∧(∀k,(V k).cell? ⟨g,2,none⟩ =some a2)∧(∀k,(V k).cell? ⟨g,3,none⟩ =some a3)∧(∀k,(V k).cell? ⟨g,4,none⟩ =some a4)∧(∀k,(V k).cell? ⟨g,5,none⟩ =some a5):=⟨fun k=>(h k).cell 0,fun k=>(h k).cell 1,fun k=>(h k).cell 2,fun k=>(h k).cell 3,fun k=>(h k).cell 4,fun k=>(h k).cell 5⟩
theorem aq.tr {cs:Array Value} (h:aq w g t cs):w.frozen? ⟨g,0,none⟩ =false∧w.frozen? ⟨g,1,none⟩ =false∧w.frozen? ⟨g,2,none⟩ =false∧w.frozen? ⟨g,3,none⟩ =false∧w.frozen? ⟨g,4,none⟩ =false∧w.frozen? ⟨g,5,none⟩ =false:=⟨h.frozen 0,h.frozen 1,h.frozen 2,h.frozen 3,h.frozen 4,h.frozen 5⟩
theorem aq.qK {a0 a1 a2 a3 a4 a5 a6:Value} (h:aq w g t #[a0,a1,a2,a3,a4,a5,a6]):w.cell? ⟨g,0,none⟩ =some a0∧w.cell? ⟨g,1,none⟩ =some a1∧w.cell? ⟨g,2,none⟩ =some a2∧w.cell? ⟨g,3,none⟩ =some a3∧w.cell? ⟨g,4,none⟩ =some a4∧w.cell? ⟨g,5,none⟩ =some a5∧w.cell? ⟨g,6,none⟩ =some a6:=⟨h.cell 0,h.cell 1,h.cell 2,h.cell 3,h.cell 4,h.cell 5,h.cell 6⟩
theorem aq.FF {cs:Array Value} (h:aq w g t cs):w.frozen? ⟨g,0,none⟩ =false∧w.frozen? ⟨g,1,none⟩ =false∧w.frozen? ⟨g,2,none⟩ =false∧w.frozen? ⟨g,3,none⟩ =false∧w.frozen? ⟨g,4,none⟩ =false∧w.frozen? ⟨g,5,none⟩ =false∧w.frozen? ⟨g,6,none⟩ =false:=⟨h.frozen 0,h.frozen 1,h.frozen 2,h.frozen 3,h.frozen 4,h.frozen 5,h.frozen 6⟩
theorem aq.aG {a0 a1 a2 a3 a4 a5 a6 a7:Value} (h:aq w g t #[a0,a1,a2,a3,a4,a5,a6,a7]):w.cell? ⟨g,0,none⟩ =some a0∧w.cell? ⟨g,1,none⟩ =some a1∧w.cell? ⟨g,2,none⟩ =some a2∧w.cell? ⟨g,3,none⟩ =some a3∧w.cell? ⟨g,4,none⟩ =some a4∧w.cell? ⟨g,5,none⟩ =some a5∧w.cell? ⟨g,6,none⟩ =some a6∧w.cell? ⟨g,7,none⟩ =some a7:=⟨h.cell 0,h.cell 1,h.cell 2,h.cell 3,h.cell 4,h.cell 5,h.cell 6,h.cell 7⟩
theorem aq.qd {vC:Sort _} {V:vC→World} {a0 a1 a2 a3 a4 a5 a6 a7:Value} (h:∀k,aq (V k) g t #[a0,a1,a2,a3,a4,a5,a6,a7]):(∀k,(V k).cell? ⟨g,0,none⟩ =some a0)∧(∀k,(V k).cell? ⟨g,1,none⟩ =some a1)∧(∀k,(V k).cell? ⟨g,2,none⟩ =some a2)∧(∀k,(V k).cell? ⟨g,3,none⟩ =some a3)∧(∀k,(V k).cell? ⟨g,4,none⟩ =some a4)∧(∀k,(V k).cell? ⟨g,5,none⟩ =some a5)∧(∀k,(V k).cell? ⟨g,6,none⟩ =some a6)∧(∀k,(V k).cell? ⟨g,7,none⟩ =some a7):=⟨fun k=>(h k).cell 0,fun k=>(h k).cell 1,fun k=>(h k).cell 2,fun k=>(h k).cell 3,fun k=>(h k).cell 4,fun k=>(h k).cell 5,fun k=>(h k).cell 6,fun k=>(h k).cell 7⟩
theorem aq.jh {cs:Array Value} (h:aq w g t cs):w.frozen? ⟨g,0,none⟩ =false∧w.frozen? ⟨g,1,none⟩ =false∧w.frozen? ⟨g,2,none⟩ =false∧w.frozen? ⟨g,3,none⟩ =false∧w.frozen? ⟨g,4,none⟩ =false∧w.frozen? ⟨g,5,none⟩ =false∧w.frozen? ⟨g,6,none⟩ =false∧w.frozen? ⟨g,7,none⟩ =false:=⟨h.frozen 0,h.frozen 1,h.frozen 2,h.frozen 3,h.frozen 4,h.frozen 5,h.frozen 6,h.frozen 7⟩
theorem aq.Je {cs:Array Value} (h:aq w g t cs):w.frozen? ⟨g,0,none⟩ =false∧w.frozen? ⟨g,1,none⟩ =false∧w.frozen? ⟨g,2,none⟩ =false∧w.frozen? ⟨g,3,none⟩ =false∧w.frozen? ⟨g,4,none⟩ =false∧w.frozen? ⟨g,5,none⟩ =false∧w.frozen? ⟨g,6,none⟩ =false∧w.frozen? ⟨g,7,none⟩ =false∧w.frozen? ⟨g,8,none⟩ =false:=⟨h.frozen 0,h.frozen 1,h.frozen 2,h.frozen 3,h.frozen 4,h.frozen 5,h.frozen 6,h.frozen 7,h.frozen 8⟩
theorem aq.bM {a0 a1 a2 a3 a4 a5 a6 a7 a8 a9 a10:Value} (h:aq w g t #[a0,a1,a2,a3,a4,a5,a6,a7,a8,a9,a10]):w.cell? ⟨g,0,none⟩ =some a0∧w.cell? ⟨g,1,none⟩ =some a1∧w.cell? ⟨g,2,none⟩ =some a2∧w.cell? ⟨g,3,none⟩ =some a3∧w.cell? ⟨g,4,none⟩ =some a4∧w.cell? ⟨g,5,none⟩ =some a5∧w.cell? ⟨g,6,none⟩ =some a6∧w.cell? ⟨g,7,none⟩ =some a7∧w.cell? ⟨g,8,none⟩ =some a8∧w.cell? ⟨g,9,none⟩ =some a9∧w.cell? ⟨g,10,none⟩ =some a10:=⟨h.cell 0,h.cell 1,h.cell 2,h.cell 3,h.cell 4,h.cell 5,h.cell 6,h.cell 7,h.cell 8,h.cell 9,h.cell 10⟩
theorem aq.sr {vC:Sort _} {V:vC→World} {a0 a1 a2 a3 a4 a5 a6 a7 a8 a9 a10:Value} (h:∀k,aq (V k) g t #[a0,a1,a2,a3,a4,a5,a6,a7,a8,a9,a10]):(∀k,(V k).cell? ⟨g,0,none⟩ =some a0)∧(∀k,(V k).cell? ⟨g,1,none⟩ =some a1)∧(∀k,(V k).cell? ⟨g,2,none⟩ =some a2)∧(∀k,(V k).cell? ⟨g,3,none⟩ =some a3)∧(∀k,(V k).cell? ⟨g,4,none⟩ =some a4)∧(∀k,(V k).cell? ⟨g,5,none⟩ =some a5)∧(∀k,(V k).cell? ⟨g,6,none⟩ =some a6)∧(∀k,(V k).cell? ⟨g,7,none⟩ =some a7)∧(∀k,(V k).cell? ⟨g,8,none⟩ =some a8)∧(∀k,(V k).cell? ⟨g,9,none⟩ =some a9)∧(∀k,(V k).cell? ⟨g,10,none⟩ =some a10):=⟨fun k=>(h k).cell 0,fun k=>(h k).cell 1,fun k=>(h k).cell 2,fun k=>(h k).cell 3,fun k=>(h k).cell 4,fun k=>(h k).cell 5,fun k=>(h k).cell 6,fun k=>(h k).cell 7,fun k=>(h k).cell 8,fun k=>(h k).cell 9,fun k=>(h k).cell 10⟩
theorem aq.hh {cs:Array Value} (h:aq w g t cs):w.frozen? ⟨g,0,none⟩ =false∧w.frozen? ⟨g,1,none⟩ =false∧w.frozen? ⟨g,2,none⟩ =false∧w.frozen? ⟨g,3,none⟩ =false∧w.frozen? ⟨g,4,none⟩ =false∧w.frozen? ⟨g,5,none⟩ =false∧w.frozen? ⟨g,6,none⟩ =false∧w.frozen? ⟨g,7,none⟩ =false∧w.frozen? ⟨g,8,none⟩ =false∧w.frozen? ⟨g,9,none⟩ =false∧w.frozen? ⟨g,10,none⟩ =false:=⟨h.frozen 0,h.frozen 1,h.frozen 2,h.frozen 3,h.frozen 4,h.frozen 5,h.frozen 6,h.frozen 7,h.frozen 8,h.frozen 9,h.frozen 10⟩
end
def wE:List Value→Nat→List Value→List Value
  | [],_,_=>[]
  | c ::cs,0,[]=>c ::cs
  | _ ::cs,0,v ::vs=>v ::wE cs 0 vs
  | c ::cs,k + 1,vs=>c ::wE cs k vs
theorem Zu:∀(l:List Value) (k:Nat),wE l k []= l
  | [],_=>rfl
  | _ ::_,0=>rfl
  | c ::cs,k + 1=>by rw [wE,Zu cs k]
theorem Zv:∀(l:List Value) (k:Nat) (v:Value) (vs:List Value),wE (l.set k v) (k + 1) vs= wE l k (v ::vs)
  | [],_,_,_=>by simp [wE]
  | c ::cs,0,v,vs=>by simp [wE]
  | c ::cs,k + 1,v,vs=>by simp [wE,Zv cs k v vs]
structure dA (w:World) (g k:Nat) (vs:List Value) (W:World):Prop where
  gi:w.grownBy W (some g)
  sz:W.heap.size= w.heap.size
  own:∀{t:TypeId} {l:List Value},aq w g t ⟨l⟩→aq W g t ⟨wE l k vs⟩
  MJ:∀{p:Nat} {t:TypeId} {cs:Array Value},aq w p t cs→p≠g→aq W p t cs
  aB:∀{n:Nat} {w0:World},Below n w0 w→n≤g→Below n w0 W
theorem dA.dM {w W:World} {g k p:Nat} {vs:List Value} {t:TypeId} {cs:Array Value} (h:dA w g k vs W) (b:aq w p t cs) (eP:p≠g:=by omega):aq W p t cs:=h.MJ b eP
theorem dA.aE {w W w0:World} {g k n:Nat} {vs:List Value} (h:dA w g k vs W) (b:Below n w0 w) (aY:n≤g:=by omega):Below n w0 W:=h.aB b aY
theorem be (w:World) {b W:World} [Nonempty (PLift (Below w w b))] (h:Below b b W):Below w w W:=ah av h
theorem hg {P:Program} {fn:Func} {R:Ending→World→Prop} {a:Act} {w:World} {v:Value} (bL:R (.returned v) w) (bu:(results fn a.tmps).run P w= .ok v w) (bO:a.defers= []:=by rfl):bodyPost P fn R .ret a w:=⟨bO,v,bu,bL⟩
theorem dA.nil {w:World} {g k:Nat}:dA w g k [] w:=⟨qP _ _,rfl,fun {_ l} h=>by rw [Zu l k];exact h,fun h _=>h,fun h _=>h⟩
theorem dA.cons {w W:World} {g k:Nat} {v:Value} {vs:List Value} (h:dA (w.setCell ⟨g,k,none⟩ v) g (k + 1) vs W):dA w g k (v ::vs) W:=
  ⟨qg (lp (qP w (some g)) v) h.gi,h.sz.trans (by simp [World.setCell]),fun {_ l} b=>by rw [← Zv l k v vs];exact h.own (by simpa using b.gH k v),fun b aY=>h.MJ (b.vY (p:=⟨g,k,none⟩) aY v) aY,fun b aY=>h.aB (b.setCell (p:=⟨g,k,none⟩) aY v) aY⟩
theorem aq.to {w W:World} {g:Nat} {t:TypeId} {cs:Array Value} (h:aq w g t cs) (aB:Below w w W):aq W g t cs:=h.below aB h.lt
theorem J {p:Prop} (h:p):Hid p:=Lib.hid h
theorem aV.bW {T:Type} {B sz:Nat} {f:T→List Value} {e:TypeId} {w W:World} {v:Value} {xs:List T} {g k:Nat} {vs:List Value} (h:aV B e sz f w v xs) (s:dA w g k vs W) (eP:∀q,v.ownBlock= some q→¬q= g):aV B e sz f W v xs:=h.kept s.gi (fun q aZ e=>eP q aZ (Option.some.inj e))
section
variable {w W:World} {g:Nat} {t:TypeId} {Q:World→Prop}
theorem kN (k:Nat) {a0:Value} (h:∀W,dA w g k [a0] W→Q W):Q (World.setCell w ⟨g,k,none⟩ a0):=h _ (dA.cons dA.nil)
theorem sT (k:Nat) {a0 a1 a2:Value} (h:∀W,dA w g k [a0,a1,a2] W→Q W):Q (World.setCell (World.setCell (World.setCell w ⟨g,k,none⟩ a0) ⟨g,k + 1,none⟩ a1) ⟨g,k + 2,none⟩ a2):=h _ (dA.cons (dA.cons (dA.cons dA.nil)))
theorem dA.vS {a0 a1 a2 eb dx dz:Value} (h:dA w g 0 [a0,a1,a2] W) (b:aq w g t #[eb,dx,dz]):aq W g t #[a0,a1,a2]:=h.own b
theorem gR (k:Nat) {a0 a1 a2 a3 a4:Value} (h:∀W,dA w g k [a0,a1,a2,a3,a4] W→Q W):Q (World.setCell (World.setCell (World.setCell (World.setCell (World.setCell w ⟨g,k,none⟩ a0) ⟨g,k + 1,none⟩ a1) ⟨g,k + 2,none⟩ a2) ⟨g,k + 3,none⟩ a3) ⟨g,k + 4,none⟩ a4):=h _ (dA.cons (dA.cons (dA.cons (dA.cons (dA.cons dA.nil)))))
theorem dA.iP {a0 a1 a2 a3 a4 eb dx dz eu fo:Value} (h:dA w g 0 [a0,a1,a2,a3,a4] W) (b:aq w g t #[eb,dx,dz,eu,fo]):aq W g t #[a0,a1,a2,a3,a4]:=h.own b
theorem tN (k:Nat) {a0 a1 a2 a3 a4 a5:Value} (h:∀W,dA w g k [a0,a1,a2,a3,a4,a5] W→Q W):Q (World.setCell (World.setCell (World.setCell (World.setCell (World.setCell (World.setCell w ⟨g,k,none⟩ a0) ⟨g,k + 1,none⟩ a1) ⟨g,k + 2,none⟩ a2) ⟨g,k + 3,none⟩ a3) ⟨g,k + 4,none⟩ a4) ⟨g,k + 5,none⟩ a5):=h _ (dA.cons (dA.cons (dA.cons (dA.cons (dA.cons (dA.cons dA.nil))))))
theorem dA.tl {a0 a1 a2 a3 a4 a5 eb dx dz eu fo ib:Value} (h:dA w g 0 [a0,a1,a2,a3,a4,a5] W) (b:aq w g t #[eb,dx,dz,eu,fo,ib]):aq W g t #[a0,a1,a2,a3,a4,a5]:=h.own b
theorem HI (k:Nat) {a0 a1 a2 a3 a4 a5 a6:Value} (h:∀W,dA w g k [a0,a1,a2,a3,a4,a5,a6] W→Q W):Q (World.setCell (World.setCell (World.setCell (World.setCell (World.setCell (World.setCell (World.setCell w ⟨g,k,none⟩ a0) ⟨g,k + 1,none⟩ a1) ⟨g,k + 2,none⟩ a2) ⟨g,k + 3,none⟩ a3) ⟨g,k + 4,none⟩ a4) ⟨g,k + 5,none⟩ a5) ⟨g,k + 6,none⟩ a6):=h _ (dA.cons (dA.cons (dA.cons (dA.cons (dA.cons (dA.cons (dA.cons dA.nil)))))))
theorem dA.Fi {a0 a1 a2 a3 a4 a5 a6 eb dx dz eu fo ib iR:Value} (h:dA w g 0 [a0,a1,a2,a3,a4,a5,a6] W) (b:aq w g t #[eb,dx,dz,eu,fo,ib,iR]):aq W g t #[a0,a1,a2,a3,a4,a5,a6]:=h.own b
theorem iK (k:Nat) {a0 a1 a2 a3 a4 a5 a6 a7:Value} (h:∀W,dA w g k [a0,a1,a2,a3,a4,a5,a6,a7] W→Q W):Q (World.setCell (World.setCell (World.setCell (World.setCell (World.setCell (World.setCell (World.setCell (World.setCell w ⟨g,k,none⟩ a0) ⟨g,k + 1,none⟩ a1) ⟨g,k + 2,none⟩ a2) ⟨g,k + 3,none⟩ a3) ⟨g,k + 4,none⟩ a4) ⟨g,k + 5,none⟩ a5) ⟨g,k + 6,none⟩ a6) ⟨g,k + 7,none⟩ a7):=h _ (dA.cons (dA.cons (dA.cons (dA.cons (dA.cons (dA.cons (dA.cons (dA.cons dA.nil))))))))
theorem dA.jg {a0 a1 a2 a3 a4 a5 a6 a7 eb dx dz eu fo ib iR gh:Value} (h:dA w g 0 [a0,a1,a2,a3,a4,a5,a6,a7] W) (b:aq w g t #[eb,dx,dz,eu,fo,ib,iR,gh]):aq W g t #[a0,a1,a2,a3,a4,a5,a6,a7]:=h.own b
theorem dA.anX {w W:World} {g:Nat} {t:TypeId} {a0 eb dx dz eu fo:Value} (h:dA w g 0 [a0] W) (b:aq w g t #[eb,dx,dz,eu,fo]):aq W g t #[a0,dx,dz,eu,fo]:=h.own b
theorem dA.anY {w W:World} {g:Nat} {t:TypeId} {a0 eb dx dz eu fo ib iR gh:Value} (h:dA w g 0 [a0] W) (b:aq w g t #[eb,dx,dz,eu,fo,ib,iR,gh]):aq W g t #[a0,dx,dz,eu,fo,ib,iR,gh]:=h.own b
theorem dA.PH {w W:World} {g:Nat} {t:TypeId} {a0 a1 a2 a3 a4 a5 a6 a7 eb dx dz eu fo ib iR gh vT uB Cm:Value} (h:dA w g 0 [a0,a1,a2,a3,a4,a5,a6,a7] W) (b:aq w g t #[eb,dx,dz,eu,fo,ib,iR,gh,vT,uB,Cm]):aq W g t #[a0,a1,a2,a3,a4,a5,a6,a7,vT,uB,Cm]:=h.own b
theorem dA.hV {w W:World} {g:Nat} {t:TypeId} {a0 a1 a2 a3 a4 a5 a6 a7 a8 a9 a10 eb dx dz eu fo ib iR gh vT uB Cm:Value} (h:dA w g 0 [a0,a1,a2,a3,a4,a5,a6,a7,a8,a9,a10] W) (b:aq w g t #[eb,dx,dz,eu,fo,ib,iR,gh,vT,uB,Cm]):aq W g t #[a0,a1,a2,a3,a4,a5,a6,a7,a8,a9,a10]:=h.own b
theorem dA.Yr {w W:World} {g:Nat} {t:TypeId} {a0 eb dx dz:Value} (h:dA w g 1 [a0] W) (b:aq w g t #[eb,dx,dz]):aq W g t #[eb,a0,dz]:=h.own b
theorem dA.anZ {w W:World} {g:Nat} {t:TypeId} {a0 eb dx dz eu fo:Value} (h:dA w g 1 [a0] W) (b:aq w g t #[eb,dx,dz,eu,fo]):aq W g t #[eb,a0,dz,eu,fo]:=h.own b
theorem dA.Hs {w W:World} {g:Nat} {t:TypeId} {a0 eb dx dz eu fo ib iR gh:Value} (h:dA w g 1 [a0] W) (b:aq w g t #[eb,dx,dz,eu,fo,ib,iR,gh]):aq W g t #[eb,a0,dz,eu,fo,ib,iR,gh]:=h.own b
theorem dA.PI {w W:World} {g:Nat} {t:TypeId} {a0 eb dx dz:Value} (h:dA w g 2 [a0] W) (b:aq w g t #[eb,dx,dz]):aq W g t #[eb,dx,a0]:=h.own b
theorem dA.Kp {w W:World} {g:Nat} {t:TypeId} {a0 eb dx dz eu fo:Value} (h:dA w g 2 [a0] W) (b:aq w g t #[eb,dx,dz,eu,fo]):aq W g t #[eb,dx,a0,eu,fo]:=h.own b
theorem dA.DC {w W:World} {g:Nat} {t:TypeId} {a0 a1 a2 a3 a4 eb dx dz eu fo ib iR gh:Value} (h:dA w g 2 [a0,a1,a2,a3,a4] W) (b:aq w g t #[eb,dx,dz,eu,fo,ib,iR,gh]):aq W g t #[eb,dx,a0,a1,a2,a3,a4,gh]:=h.own b
theorem dA.DD {w W:World} {g:Nat} {t:TypeId} {a0 eb dx dz eu fo:Value} (h:dA w g 3 [a0] W) (b:aq w g t #[eb,dx,dz,eu,fo]):aq W g t #[eb,dx,dz,a0,fo]:=h.own b
theorem dA.PJ {w W:World} {g:Nat} {t:TypeId} {a0 eb dx dz eu fo:Value} (h:dA w g 4 [a0] W) (b:aq w g t #[eb,dx,dz,eu,fo]):aq W g t #[eb,dx,dz,eu,a0]:=h.own b
theorem dA.PK {w W:World} {g:Nat} {t:TypeId} {a0 eb dx dz eu fo ib iR gh:Value} (h:dA w g 7 [a0] W) (b:aq w g t #[eb,dx,dz,eu,fo,ib,iR,gh]):aq W g t #[eb,dx,dz,eu,fo,ib,iR,a0]:=h.own b
theorem dA.PL {w W:World} {g:Nat} {t:TypeId} {a0 a1 a2 eb dx dz eu fo ib iR gh vT uB Cm:Value} (h:dA w g 8 [a0,a1,a2] W) (b:aq w g t #[eb,dx,dz,eu,fo,ib,iR,gh,vT,uB,Cm]):aq W g t #[eb,dx,dz,eu,fo,ib,iR,gh,a0,a1,a2]:=h.own b
theorem cR {c0:Array Value} {t0:TypeId} (h:∀W,Below w w W→aq W (w.heap.size) t0 c0→Q W):Q (World.alloc w (.cells c0 t0)):=h _ (bZ _ _) (aq.new _ _ _)
theorem fm {c0 c1:Array Value} {t0 t1:TypeId} (h:∀W,Below w w W→aq W (w.heap.size) t0 c0→aq W (w.heap.size + 1) t1 c1→Q W):Q (World.alloc (World.alloc w (.cells c0 t0)) (.cells c1 t1)):=h _ (xf _ _ _) ((aq.new _ _ _).alloc _) (aq.fu _ _ _ _)
theorem fr {c0 c1 c2:Array Value} {t0 t1 t2:TypeId} (h:∀W,Below w w W→aq W (w.heap.size) t0 c0→aq W (w.heap.size + 1) t1 c1→aq W (w.heap.size + 1 + 1) t2 c2→Q W):Q (World.alloc (World.alloc (World.alloc w (.cells c0 t0)) (.cells c1 t1)) (.cells c2 t2)):=h _ (Ms _ _ _ _) (((aq.new _ _ _).alloc _).alloc _) ((aq.fu _ _ _ _).alloc _) (aq.fx _ _ _ _ _)
end
open Go.RowKit
section
variable {P:Program} {ops:Array Oper} {md:Region.Mode} {C:World→Prop}
def HO (P:Program) (md:Region.Mode) (ops:Array Oper) (C:World→Prop) (n:Nat) (L:Array Bool→Act→Prop):Nat→Array Bool→Act→Prop
 | 0,listed,a=>L listed a
 | f + 1,listed,a=>
  Region.ready md ops listed≠[]∧∀i ∈ Region.ready md ops listed,i < n∧qOp P ops C i (HO P md ops C n L f (listed.setIfInBounds i true)) a
theorem aaq {n g:Nat} {L:Array Bool→Act→Prop} {Q':Exit→Act→World→Prop} (jq:∀listed a,L listed a→∀w,C w→wpAny P md ops Q' g listed a w):
  ∀(f:Nat) (listed:Array Bool) (a:Act),HO P md ops C n L f listed a→∀w,C w→wpAny P md ops Q' (f + g) listed a w
 | 0,listed,a,h=>by rw [Nat.zero_add];exact jq _ _ h
 | f + 1,listed,a,h=>fun w hw=>by
  rw [show f + 1 + g= (f + g) + 1 by omega]
  exact⟨fun h0=>absurd h0 h.1,fun i hi=>wpOp_of_qOp hw (fun a' ag vf du=>aaq jq f _ a' du ag vf) (h.2 i hi).2⟩
theorem abK {p:Prop} (h:p:=by
 rcases Nat.lt_or_ge j n with h | h
 ·exact h
 ·exact absurd bH (tail_waits aX aE aY inv _ i rfl iY vd j h)):p:=h
theorem arK {n i:Nat} {dS:Oper} {v:Value} {L:Array Bool→Act→Prop} (hi:ops[i]? =some dS) (ft:∀(j:Nat) (o:Oper) cs b,ops[j]? =some o→o.op≠.select cs b)
  (aX:Region.sinkB md ops n= true) (aE:Region.chainB md ops n= true) (aY:n < ops.size) (iY:i < n)
  (uQ:∀listed a,L listed a→∀j ∈ Region.ready md ops listed,n≤j):
  ∀(f:Nat) (listed:Array Bool) (a:Act),HeadInv md ops n listed→
   (∀j fe,ops[j]? =some fe→j≠i→listed.getD j true= false→(∀e ∈ fe.after,Region.binds md e= true→e.on≠i)→dS.apart ops fe= true)→
   i ∈ Region.ready md ops listed→YieldsIn P ops C dS v a→
   HO P md ops C n L f (listed.setIfInBounds i true) (a.put dS.dst v)→HO P md ops C n L (f + 1) listed a:=by
 intro f
 induction f with
 | zero=>
  intro listed a inv _ bu hy H
  have vd:=(mem_ready.1 bu).1
  refine⟨fun h=>(by rw [h] at bu;cases bu),fun j bH=>?_⟩
  have Jt:j < n:=by
   exact abK
  refine⟨Jt,?_⟩
  by_cases pF:j= i
  ·subst pF;exact hy.qOp hi H
  ·have:=uQ _ _ H j (ready_mono bH pF)
   omega
 | succ f eM=>
  intro listed a inv Gp bu hy H
  have vd:=(mem_ready.1 bu).1
  refine⟨fun h=>(by rw [h] at bu;cases bu),fun j bH=>?_⟩
  have Jt:j < n:=by
   exact abK
  refine⟨Jt,?_⟩
  by_cases pF:j= i
  ·subst pF;exact hy.qOp hi H
  ·have h1:=(H.2 j (ready_mono bH pF)).2
   obtain⟨Gs,fe,hj,lY⟩:=mem_ready.1 bH
   have On:∀e ∈ fe.after,Region.binds md e= true→e.on≠i:=fun e he aB heq=>by
    have h1:=lY e he aB
    rw [heq,getD_both vd] at h1
    cases h1
   have h2:=qOp_put hj (Gp j fe hj pF Gs On) (fun cs b=>ft i dS cs b hi) (fun cs b=>ft j fe cs b hj) hy h1;have NR:∀k ok,ops[k]? =some ok→k≠i→(listed.setIfInBounds j true).getD k true= false→
     (∀e ∈ ok.after,Region.binds md e= true→e.on≠i)→dS.apart ops ok= true:=fun k ok az Ob vd hM=>by
    refine Gp k ok az Ob ?_ hM
    by_cases xD:j= k
    ·subst xD;exact Gs
    ·rw [getD_set_ne true xD] at vd;exact vd
   refine qOp_mono (fun a' h3=>eM (listed.setIfInBounds j true) a' (inv.set bH Jt) NR (ready_mono bu (Ne.symm pF)) h3.1 ?_) h2
   rw [Array.setIfInBounds_comm _ _ pF]
   exact h3.2
theorem aao {n g:Nat} {LX:Act→Prop} (ft:Region.noSelect ops= true) (aX:Region.sinkB md ops n= true) (aE:Region.chainB md ops n= true) (aY:n < ops.size):
  ∀(l:List Oper) (k:Nat) (listed:Array Bool) (a:Act),(∀j,j < l.length→l[j]? =ops[k + j]?)→k + l.length= n→HeadInv md ops n listed→
  Region.lexHead md ops g l.length k listed= true→wpQuiet P ops C LX l a→
  HO P md ops C n (fun Xn a'=>Region.seqB md ops g n Xn= true∧LX a') l.length listed a
 | [],k,listed,a,_,az,_,bm,h=>by
  have:k= n:=by simpa using az
  subst this
  exact⟨by simpa [Region.lexHead] using bm,h⟩
 | o ::l,k,listed,a,aS,az,inv,bm,h=>by
  have h0:ops[k]? =some o:=by simpa using (aS 0 (by simp)).symm
  simp only [List.length_cons,Region.lexHead,Bool.and_eq_true] at bm
  obtain⟨⟨bu,hf⟩,hI⟩:=bm
  have Ju:k < n:=by simp only [List.length_cons] at az;omega
  have pg:k ∈ Region.ready md ops listed:=by simpa using bu
  have iS:qOp P ops C k (wpQuiet P ops C LX l) a:=by unfold qOp;simp only [h0];exact h
  obtain⟨v,hy,gj⟩:=yieldsIn_of_qOp h0 iS
  exact arK h0 (Region.noSelect_spec ft) aX aE aY Ju (fun Xn a' jq=>seqB_ready jq.1) l.length listed a inv (Region.free_spec h0 hf) pg hy
   (aao ft aX aE aY l (k + 1) _ _ (fun j bH=>by have:=aS (j + 1) (by simp;omega);simpa [Nat.add_assoc,Nat.add_comm 1 j] using this) (by simp only [List.length_cons] at az;omega) (inv.set pg Ju) hI gj)
theorem arP {id:Nat} {Q:Exit→Act→World→Prop} {a:Act} {w:World} {l:List Oper} (n:Nat) (hm:P.follows .mixedOrders= true) (bm:Region.lexTailB .any l.toArray n= true) (eU:C {w with drawn:=w.drawn + 1})
  (h:wpQuiet P l.toArray C (fun a'=>∀ag,C ag→wpList P l.toArray Q (l.drop n) a' ag) (l.take n) a):(Code.region id l.toArray true).wp P Q a w:=by
 simp only [Region.lexTailB,Bool.and_eq_true,decide_eq_true_eq] at bm
 obtain⟨⟨⟨⟨ft,aY⟩,aX⟩,aE⟩,ajw⟩:=bm
 have VR:n < l.length:=by simpa using aY
 have vc:(l.take n).length= n:=by simp;omega
 have oP:(l.drop n).length= l.toArray.size - n:=by simp
 have alT:HeadInv .any l.toArray n (Array.replicate l.toArray.size false):=
  ⟨by simp,fun j fe _ aS=>(by rw [getD_replicate_false] at aS;cases aS),fun t _ cE=>getD_in (by simpa using cE) (getD_replicate_false _ _)⟩
 have H:=aao (md:= .any) (g:=l.toArray.size - n) ft aX aE aY (l.take n) 0 _ a (fun j bH=>by
  have ajm:j < n:=by rw [vc] at bH;exact bH
  simp [ajm]) (by simpa using vc) alT (by rw [vc];exact ajw) h
 refine wp_region_any hm ?_
 have:=aaq (Q':=Q) (g:=l.toArray.size - n) (fun listed a' jq ag vf=>by
  have:=wpAny_of_seq (md:= .any) (Q':=Q) (l.drop n) n listed a' ag (fun j=>by simp [List.getElem?_drop]) (by rw [oP];exact jq.1) (jq.2 ag vf)
  rwa [oP] at this) _ _ _ H _ eU
 rw [vc,show n + (l.toArray.size - n)= l.toArray.size by omega] at this
 exact this
theorem HP {id:Nat} {Q:Exit→Act→World→Prop} {a:Act} {w:World} {l:List Oper} (n:Nat) (hm:P.follows .mixedOrders= true) (bm:Region.lexTailB .any l.toArray n= true)
  (h:wpQuiet P l.toArray (fun ag=>∃k:ax w.heap.size w,ag= k.world) (fun a'=>∀k:ax w.heap.size w,wpList P l.toArray Q (l.drop n) a' k.world) (l.take n) a):(Code.region id l.toArray true).wp P Q a w:=
 arP (C:=fun ag=>∃k:ax w.heap.size w,ag= k.world) n hm bm ⟨⟨w.drew,(Below.refl _ _).drew⟩,rfl⟩
  (by
   have e:(fun a':Act=>∀k:ax w.heap.size w,wpList P l.toArray Q (l.drop n) a' k.world)= (fun a'=>∀ag,(∃k:ax w.heap.size w,ag= k.world)→wpList P l.toArray Q (l.drop n) a' ag):=by
    exact aca
   rw [e] at h;exact h)
end
open Go.RowKit
section
variable {P:Program} {ops:Array Oper} {md:Region.Mode} {C:World→Prop} {Q:Act→World→Prop}
def wJ:Op→Bool
 | .move _ | .assign _ | .pick _ _ _ | .load _ _ | .binOp _ _ _ _ _ | .unOp _ _ _ | .convert _ _ _ | .fieldAddr _ _ _ | .field _ _ _ | .indexAddr _ _ _ | .extract _ _ | .slice _ _ _ _ _ | .build _ _ | .index _ _ _ | .nilCheck _=>true
 | .call {callee:= .builtin .len,args:=_,argTypes:=_}=>true
 | .call {callee:= .builtin .cap,args:=_,argTypes:=_}=>true
 | _=>false
theorem SL {s:Result Value} {f:FuncId} {args:Array Value} {ag:World}:(s.andThen fun x w=>(.ok (.value x) w:Result Next))≠.ok (.enter f args) ag:=by
 cases s <;> simp [Result.andThen]
theorem SS {α:Type} {x:Sem α} {k:α→Sem Next} {w:World} {f:FuncId} {args:Array Value} {ag:World} (h:∀a bd,(k a).run P bd≠.ok (.enter f args) ag):(x >>= k).run P w≠.ok (.enter f args) ag:=by
 simp only [Sem.run_bind]
 cases x.run P w with
 | ok a bd=>exact h a bd
 | halt e bd=>intro h2;simp [Result.andThen] at h2
theorem ans {o:Oper} {x:Operand} (cY:o.op= .nilCheck x) (Ld:Operand→Value) (w:World) (f:FuncId) (args:Array Value) (ag:World):(execOp Ld o).run P w≠.ok (.enter f args) ag:=by
 unfold execOp
 simp only [cY]
 have aO:∀(v:Value) (bd:World),(pure (Next.value v):Sem Next).run P bd≠.ok (.enter f args) ag:=fun v bd h=>by simp only [Sem.run_pure] at h;injection h with h _;cases h
 have aY:∀bd,(runtimePanic .nilDeref:Sem Next).run P bd≠.ok (.enter f args) ag:=fun bd h=>by unfold runtimePanic at h;simp at h
 split
 ·exact aY _
 ·exact aY _
 ·exact aY _
 ·split
  ·exact aY _
  ·refine SS fun a bd=>SS fun b aM=>?_
   split
   ·intro h;simp at h
   ·exact aO _ _
  ·exact aO _ _
 ·exact aO _ _
theorem aqE {o:Oper} (h:wJ o.op= true) (Ld:Operand→Value) (w:World) (f:FuncId) (args:Array Value) (ag:World):(execOp Ld o).run P w≠.ok (.enter f args) ag:=by
 cases cY:o.op
 case nilCheck x=>exact ans cY Ld w f args ag
 case call c=>
  rw [cY] at h
  unfold execOp
  simp only [cY]
  obtain⟨Cs,asu,at_⟩:=c
  cases Cs with
  | builtin b=>
   cases b <;> first | (simp [wJ] at h;done) | skip
   all_goals simp only [resolve,invoke,builtin,Sem.run_bind,Sem.run_pure,Result.andThen_ok]
   all_goals exact SL
  | value f=>simp [wJ] at h
  | invoke r n=>simp [wJ] at h
 all_goals unfold execOp
 all_goals rw [cY] at h
 all_goals first | (simp [wJ] at h;done) | skip
 all_goals simp only [cY,Sem.run_bind,Sem.run_pure]
 all_goals first | exact SL | (intro h2;cases h2;done) | skip
 all_goals (intro h2;revert h2;generalize Sem.run P _ w= s;cases s <;> simp [Result.andThen])
def hQ (Q:Act→World→Prop):Exit→Act→World→Prop:=fun e a w=>e= .normal∧Q a w
theorem yF:¬LetsOut (hQ Q):=fun ⟨_,_,h⟩=>by have:=h.1;cases this
def lE (P:Program) (ops:Array Oper) (C:World→Prop) (o:Oper) (v:Value) (a:Act):Prop:=
 (Region.wanted o (yielded ops a.tmps)= true∧∀w,C w→((execOp a.eval o).run P w= .ok (.value v) w∨((execOp a.eval o).run P w= .ok .skip w∧v= undef)))∨
 (Region.wanted o (yielded ops a.tmps)= false∧v= undef)
theorem lE.of_same {o:Oper} {v:Value} {a a':Act} (hy:lE P ops C o v a) (he:execOp a'.eval o= execOp a.eval o)
  (hw:Region.wanted o (yielded ops a'.tmps)= Region.wanted o (yielded ops a.tmps)):lE P ops C o v a':=by
 unfold lE at *
 rw [he,hw]
 exact hy
theorem YieldsIn.Qt {o:Oper} {v:Value} {a:Act} (az:wJ o.op= true) (hy:YieldsIn P ops C o v a):lE P ops C o v a:=by
 rcases hy with ⟨h1,h2⟩ | h
 ·refine .inl ⟨h1,fun w hw=>?_⟩
  have h3:=h2 w hw
  unfold Oper.quietAt at h3
  have h4:=aqE (P:=P) az a.eval w
  generalize (execOp a.eval o).run P w= r at h3 h4
  cases r with
  | ok n ag=>
   cases n <;> simp only [Oper.quietUpon] at h3
   case value u=>obtain⟨rfl,rfl⟩:=h3;exact .inl rfl
   case skip=>obtain⟨rfl,rfl⟩:=h3;exact .inr ⟨rfl,rfl⟩
   case enter f args=>exact absurd rfl (h4 f args ag)
  | halt x ag=>simp only [Oper.quietUpon] at h3
 ·exact .inr h
theorem lE.wpOp {i:Nat} {o:Oper} {v:Value} {a:Act} {w:World} {Q':Exit→Act→World→Prop} (hi:ops[i]? =some o) (hy:lE P ops C o v a) (eU:C w) {K:Act→World→Prop} (h:K (a.put o.dst v) w):wpOp P ops Q' i K a w:=by
 unfold Go.wpOp
 simp only [hi]
 rcases hy with ⟨hw,aw⟩ | ⟨hw,rfl⟩
 ·simp only [hw,if_true]
  refine .inl ?_
  unfold Oper.wp
  rcases aw w eU with bu | ⟨bu,rfl⟩ <;> rw [bu] <;> simp only [Oper.upon] <;> exact h
 ·simp only [hw,Bool.false_eq_true,if_false];exact h
theorem put_defers (a:Act) (x:Option Tmp) (v:Value) (d:Deferred):({a.put x v with defers:=d ::(a.put x v).defers}:Act)= ({a with defers:=d ::a.defers}:Act).put x v:=by
 cases x <;> rfl
theorem wpOp_put {j:Nat} {dS fe:Oper} {v:Value} (bH:ops[j]? =some fe) (jC:dS.apart ops fe= true)
  (ajV:∀cs b,dS.op≠.select cs b) (ajW:∀cs b,fe.op≠.select cs b) {K:Act→World→Prop} {a:Act} {w:World}
  (hy:lE P ops C dS v a) (h:wpOp P ops (hQ Q) j K (a.put dS.dst v) w):
  wpOp P ops (hQ Q) j (fun a' ag=>lE P ops C dS v a'∧K (a'.put dS.dst v) ag) a w:=by
 obtain⟨h1,h2,h3⟩:=Oper.apart_spec jC
 have keep:∀(a:Act),lE P ops C dS v a→∀u,lE P ops C dS v (a.put fe.dst u):=fun a hy u=>
  hy.of_same (execOp_put dS ajV a fe.dst u h3) (wanted_put dS a fe.dst u h3)
 unfold wpOp at *
 simp only [bH] at *
 rw [wanted_put fe a dS.dst v h1] at h
 split
 ·rename_i hw
  simp only [hw,if_true] at h
  rcases h with h | h
  ·refine .inl ?_
   unfold Oper.wp at *
   rw [execOp_put fe ajW a dS.dst v h1] at h
   generalize (execOp a.eval fe).run P w= r at *
   cases r with
   | ok n ag=>
    cases n <;> simp only [Oper.upon] at h ⊢
    case value u=>exact⟨keep a hy u,by rw [← Act.put_comm a v u h2];exact h⟩
    case skip=>exact⟨keep a hy _,by rw [← Act.put_comm a v undef h2];exact h⟩
    case defer d=>
     refine⟨keep {a with defers:=d ::a.defers} hy undef,?_⟩
     rw [put_defers,Act.put_comm _ v undef h2] at h
     exact h
    case enter f args=>
     refine h.mono fun e eI he=>?_
     cases e with
     | returned u=>exact⟨keep a hy u,by rw [← Act.put_comm a v u h2];exact he⟩
     | panicked c=>exact absurd he.1 (by intro h;cases h)
     | outgrown=>exact absurd he yF
    case row row args=>exact h.mono fun u eI he=>⟨keep a hy u,by rw [← Act.put_comm a v u h2];exact he⟩
   | halt x ag=>cases x <;> simp only [Oper.upon] at h ⊢ <;> exact absurd h.1 (by intro h;cases h)
  ·exact absurd h.2 yF
 ·rename_i hw
  simp only [hw] at h
  exact⟨keep a hy _,by rw [← Act.put_comm a v undef h2];exact h⟩
def rv (P:Program) (md:Region.Mode) (ops:Array Oper) (C:World→Prop) (Q:Act→World→Prop):Nat→Array Bool→Act→World→Prop
 | 0,listed,a,w=>C w∧Region.ready md ops listed= []∧Q a w
 | f + 1,listed,a,w=>C w∧Region.ready md ops listed≠[]∧∀i ∈ Region.ready md ops listed,wpOp P ops (hQ Q) i (rv P md ops C Q f (listed.setIfInBounds i true)) a w
theorem rv.alI:∀{f:Nat} {listed:Array Bool} {a:Act} {w:World},rv P md ops C Q f listed a w→C w
 | 0,_,_,_,h=>h.1
 | _ + 1,_,_,_,h=>h.1
theorem QA:∀(f:Nat) (listed:Array Bool) (a:Act) (w:World),rv P md ops C Q f listed a w→wpAny P md ops (hQ Q) f listed a w
 | 0,_,_,_,h=>⟨h.2.1,rfl,h.2.2⟩
 | f + 1,_,_,_,h=>⟨fun h0=>absurd h0 h.2.1,fun i hi=>wpOp_mono (fun a' ag du=>QA f _ a' ag du) (h.2.2 i hi)⟩
theorem aan {i:Nat} {dS:Oper} {v:Value} (hi:ops[i]? =some dS) (ft:∀(j:Nat) (o:Oper) cs b,ops[j]? =some o→o.op≠.select cs b):
  ∀(f:Nat) (listed:Array Bool) (a:Act) (w:World),
   (∀j fe,ops[j]? =some fe→j≠i→listed.getD j true= false→(∀e ∈ fe.after,Region.binds md e= true→e.on≠i)→dS.apart ops fe= true)→
   i ∈ Region.ready md ops listed→lE P ops C dS v a→C w→
   rv P md ops C Q f (listed.setIfInBounds i true) (a.put dS.dst v) w→rv P md ops C Q (f + 1) listed a w:=by
 intro f
 induction f with
 | zero=>
  intro listed a w _ bu hy eU H
  refine⟨eU,fun h=>(by rw [h] at bu;cases bu),fun j bH=>?_⟩
  by_cases pF:j= i
  ·subst pF;exact hy.wpOp hi eU H
  ·have:=ready_mono bH pF
   rw [H.2.1] at this;cases this
 | succ f eM=>
  intro listed a w Gp bu hy eU H
  have vd:=(mem_ready.1 bu).1
  refine⟨eU,fun h=>(by rw [h] at bu;cases bu),fun j bH=>?_⟩
  by_cases pF:j= i
  ·subst pF;exact hy.wpOp hi eU H
  ·have h1:=H.2.2 j (ready_mono bH pF)
   obtain⟨Gs,fe,hj,lY⟩:=mem_ready.1 bH
   have On:∀e ∈ fe.after,Region.binds md e= true→e.on≠i:=fun e he aB heq=>by
    have h1:=lY e he aB
    rw [heq,getD_both vd] at h1
    cases h1
   have h2:=wpOp_put hj (Gp j fe hj pF Gs On) (fun cs b=>ft i dS cs b hi) (fun cs b=>ft j fe cs b hj) hy h1;have NR:∀k ok,ops[k]? =some ok→k≠i→(listed.setIfInBounds j true).getD k true= false→
     (∀e ∈ ok.after,Region.binds md e= true→e.on≠i)→dS.apart ops ok= true:=fun k ok az Ob vd hM=>by
    refine Gp k ok az Ob ?_ hM
    by_cases xD:j= k
    ·subst xD;exact Gs
    ·rw [getD_set_ne true xD] at vd;exact vd
   refine wpOp_mono (fun a' ag h3=>eM (listed.setIfInBounds j true) a' ag NR (ready_mono bu (Ne.symm pF)) h3.1 h3.2.alI ?_) h2
   rw [Array.setIfInBounds_comm _ _ pF]
   exact h3.2
theorem arJ {i f:Nat} {listed:Array Bool} {a:Act} {w:World} (bu:Region.ready md ops listed= [i]) (eU:C w)
    (h:wpOp P ops (hQ Q) i (rv P md ops C Q f (listed.setIfInBounds i true)) a w):rv P md ops C Q (f + 1) listed a w:=
  ⟨eU,by rw [bu];simp,fun j bH=>by rw [bu] at bH;have:j= i:=by simpa using bH
                                   subst this;exact h⟩
def pW (ops:Array Oper) (i:Nat):Bool:=match ops[i]? with | some o=>wJ o.op | none=>false
def zu (md:Region.Mode) (ops:Array Oper):List (Nat×Bool)→Array Bool→Bool
 | [],listed=>(Region.ready md ops listed).isEmpty
 | (i,false) ::r,listed=>(Region.ready md ops listed).contains i && Region.free md ops listed i && pW ops i && zu md ops r (listed.setIfInBounds i true)
 | (i,true) ::r,listed=>decide (Region.ready md ops listed= [i]) && zu md ops r (listed.setIfInBounds i true)
def BA (P:Program) (ops:Array Oper) (C:World→Prop) (Q:Act→World→Prop):List (Nat×Bool)→Act→World→Prop
 | [],a,w=>Q a w
 | (i,false) ::r,a,w=>qOp P ops C i (fun a'=>BA P ops C Q r a' w) a
 | (i,true) ::r,a,w=>wpOp P ops (hQ Q) i (fun a' ag=>C ag∧BA P ops C Q r a' ag) a w
theorem Qz (ft:Region.noSelect ops= true):∀(r:List (Nat×Bool)) (listed:Array Bool) (a:Act) (w:World),zu md ops r listed= true→C w→BA P ops C Q r a w→rv P md ops C Q r.length listed a w
 | [],listed,a,w,bm,eU,h=>⟨eU,by simpa [zu] using bm,h⟩
 | (i,false) ::r,listed,a,w,bm,eU,h=>by
  simp only [zu,Bool.and_eq_true] at bm
  obtain⟨⟨⟨h1,h2⟩,h3⟩,h4⟩:=bm
  have bu:i ∈ Region.ready md ops listed:=by simpa using h1
  obtain⟨_,dS,iz,_⟩:=mem_ready.1 bu
  have az:wJ dS.op= true:=by simpa [pW,iz] using h3
  obtain⟨v,hy,gj⟩:=yieldsIn_of_qOp iz h
  exact aan iz (Region.noSelect_spec ft) r.length listed a w (Region.free_spec iz h2) bu (YieldsIn.Qt az hy) eU (Qz ft r _ _ _ h4 eU gj)
 | (i,true) ::r,listed,a,w,bm,eU,h=>by
  simp only [zu,Bool.and_eq_true,decide_eq_true_eq] at bm
  exact arJ bm.1 eU (wpOp_mono (fun a' ag du=>Qz ft r _ _ _ bm.2 du.1 du.2) h)
def gq (l:List Oper) (s:List Nat):List Oper:=s.filterMap fun i=>l[i]?
def vy (P:Program) (l:List Oper) (C:World→Prop) (Q:Act→World→Prop):List (List Nat×Nat)→List Nat→Act→World→Prop
 | [],s,a,w=>wpQuiet P l.toArray C (fun a'=>Q a' w) (gq l s) a
 | (s,e) ::r,cf,a,w=>wpQuiet P l.toArray C (fun a'=>wpList P l.toArray (hQ fun eY eI=>C eI∧vy P l C Q r cf eY eI) (gq l [e]) a' w) (gq l s) a
def rm:List (List Nat×Nat)→List Nat→List (Nat×Bool)
 | [],s=>s.map (·,false)
 | (s,e) ::r,cf=>s.map (·,false) ++ (e,true) ::rm r cf
theorem Oper.QB {o:Oper} {a:Act} {w:World} {K St:Act→World→Prop} {lR jS:Act→World→Prop} (h:∀a w,K a w→St a w) (dQ:o.wp P a w K (hQ lR)):o.wp P a w St (hQ jS):=by
 unfold Oper.wp at *
 generalize (execOp a.eval o).run P w= r at *
 cases r with
 | ok n ag=>
  cases n <;> simp only [Oper.upon] at dQ ⊢
  case enter f args=>
   refine dQ.mono fun e eI he=>?_
   cases e with
   | returned u=>exact h _ _ he
   | panicked c=>exact absurd he.1 (by intro h;cases h)
   | outgrown=>exact absurd he yF
  case row row args=>exact dQ.mono fun _ _ he=>h _ _ he
  all_goals exact h _ _ dQ
 | halt x ag=>cases x <;> simp only [Oper.upon] at dQ ⊢ <;> exact absurd dQ.1 (by intro h;cases h)
theorem Pq {l:List Oper} {r:List (Nat×Bool)} {w:World}:∀(s:List Nat) (a:Act),(∀i ∈ s,i < l.length)→∀K:Act→Prop,(∀a,K a→BA P l.toArray C Q r a w)→
  wpQuiet P l.toArray C K (gq l s) a→BA P l.toArray C Q (s.map (·,false) ++ r) a w
 | [],a,_,K,gj,h=>gj _ h
 | i ::s,a,aX,K,gj,h=>by
  have hi:i < l.length:=aX i (by simp)
  have aO:gq l (i ::s)= l[i] ::gq l s:=by simp [gq,hi]
  rw [aO] at h
  have du:qOp P l.toArray C i (wpQuiet P l.toArray C K (gq l s)) a:=by
   unfold qOp
   have:l.toArray[i]? =some l[i]:=by simp [hi]
   simp only [this]
   exact h
  exact qOp_mono (fun a' h2=>Pq s a' (fun j bH=>aX j (by simp [bH])) K gj h2) du
theorem KT {p:Prop} (h:p:=by
 split
 ·rename_i hw
  simp only [hw,if_true] at du
  exact du.elim (fun h2=> .inl (Oper.QB iZ h2)) (fun h2=>absurd h2.2 yF)
 ·rename_i hw
  simp only [hw] at du
  exact iZ _ _ du):p:=h
theorem XF:∀{l:List Oper} (r:List (List Nat×Nat)) (cf:List Nat) (a:Act) (w:World),(∀i ∈ (rm r cf),i.1 < l.length)→vy P l C Q r cf a w→BA P l.toArray C Q (rm r cf) a w
 | l,[],cf,a,w,aS,h=>by
  have:=Pq (Q:=Q) (r:=[]) cf a (fun i hi=>aS (i,false) (by simp [rm,hi])) _ (fun a' (du:Q a' w)=>du) h
  simpa [rm] using this
 | l,(s,e) ::r,cf,a,w,aS,h=>by
  refine Pq s a (fun i hi=>aS (i,false) (by simp [rm,hi])) _ (fun a' du=>?_) h
  have he:e < l.length:=aS (e,true) (by simp [rm])
  have aO:gq l [e]= [l[e]]:=by simp [gq,he]
  rw [aO] at du
  show wpOp P l.toArray (hQ Q) e _ a' w
  unfold wpOp
  have:l.toArray[e]? =some l[e]:=by simp [he]
  simp only [this]
  unfold wpList at du
  have iZ:∀eY eI,wpList P l.toArray (hQ fun eY eI=>C eI∧vy P l C Q r cf eY eI) [] eY eI→C eI∧BA P l.toArray C Q (rm r cf) eY eI:=fun eY eI h2=>
   ⟨h2.2.1,XF r cf eY eI (fun i hi=>aS i (by simp [rm,hi])) h2.2.2⟩
  exact KT
theorem aaK {p:Prop} (h:p:=by
 have mF:(Code.region id l.toArray true).wp P (hQ fun a' ag=>Q .normal a' ag) a w:=wp_region_any hm (by simpa using H)
 exact Code.wp_mono (fun e a w h=>by obtain⟨rfl,h⟩:=h;exact h) mF):p:=h
theorem arO {id:Nat} {Q:Exit→Act→World→Prop} {a:Act} {w:World} {l:List Oper} (C:World→Prop) (r:List (List Nat×Nat)) (cf:List Nat) (hm:P.follows .mixedOrders= true)
  (bm:(Region.noSelect l.toArray && zu .any l.toArray (rm r cf) (Array.replicate l.length false) && decide ((rm r cf).length= l.length) && (rm r cf).all (fun i=>decide (i.1 < l.length)))= true)
  (eU:C w.drew) (h:vy P l C (fun a' ag=>Q .normal a' ag) r cf a w.drew):(Code.region id l.toArray true).wp P Q a w:=by
 simp only [Bool.and_eq_true,decide_eq_true_eq,List.all_eq_true] at bm
 obtain⟨⟨⟨h1,h2⟩,h3⟩,h4⟩:=bm
 have H:=QA _ _ _ _ (Qz (md:= .any) h1 _ _ _ _ h2 eU (XF r cf a _ (fun i hi=>h4 i hi) h))
 rw [h3] at H
 exact aaK
structure cN (C:World→Prop) where
 world:World
 holds:C world
theorem oU {id:Nat} {Q:Exit→Act→World→Prop} {a:Act} {w:World} {l:List Oper} (C:World→Prop) (r:List (List Nat×Nat)) (cf:List Nat) (hm:P.follows .mixedOrders= true)
  (bm:(Region.noSelect l.toArray && zu .any l.toArray (rm r cf) (Array.replicate l.length false) && decide ((rm r cf).length= l.length) && (rm r cf).all (fun i=>decide (i.1 < l.length)))= true)
  (eU:C w.drew) (h:vy P l (fun ag=>∃k:cN C,ag= k.world) (fun a' ag=>Q .normal a' ag) r cf a w.drew):(Code.region id l.toArray true).wp P Q a w:=
 arO (fun ag=>∃k:cN C,ag= k.world) r cf hm bm ⟨⟨_,eU⟩,rfl⟩ h
theorem ha {l:List Oper} {s cf:List Nat} {e:Nat} {r:List (List Nat×Nat)} {a:Act} {w:World}
  (h:∀K:Act→World→Prop,(∀a w,vy P l C Q r cf a w→K a w)→wpQuiet P l.toArray C (fun a'=>wpList P l.toArray (hQ fun eY eI=>C eI∧K eY eI) (gq l [e]) a' w) (gq l s) a):vy P l C Q ((s,e) ::r) cf a w:=
 h _ (fun _ _ h=>h)
theorem mA {l:List Oper} {cf:List Nat} {a:Act} {w:World} (h:wpQuiet P l.toArray C (fun a'=>Q a' w) (gq l cf) a):vy P l C Q [] cf a w:=h
theorem hn {C:World→Prop} {K:Act→World→Prop} {a:Act} {w:World} (eU:C w) (h:K a w):hQ (fun eY eI=>(∃k:cN C,eI= k.world)∧K eY eI) .normal a w:=⟨rfl,⟨⟨w,eU⟩,rfl⟩,h⟩
end
open Go.RowKit
section
variable {P:Program} {md:Region.Mode} {C:World→Prop} {Q:Act→World→Prop}
def HJ (md:Region.Mode) (ops:Array Oper):List Nat→Array Bool→Bool
 | [],_=>true
 | i ::s,listed=>(Region.ready md ops listed).contains i && Region.free md ops listed i && pW ops i && HJ md ops s (listed.setIfInBounds i true)
def Kx:List Nat→Array Bool→Array Bool
 | [],L=>L
 | i ::s,L=>Kx s (L.setIfInBounds i true)
theorem Mo {l:List Oper} (ft:Region.noSelect l.toArray= true) {w:World} {f:Nat} (eU:C w) (K:Act→Prop):∀(s:List Nat) (listed:Array Bool) (a:Act),HJ md l.toArray s listed= true→(∀i ∈ s,i < l.length)→
  (∀a',K a'→rv P md l.toArray C Q f (Kx s listed) a' w)→wpQuiet P l.toArray C K (gq l s) a→rv P md l.toArray C Q (s.length + f) listed a w
 | [],listed,a,_,_,az,h=>by
  have du:rv P md l.toArray C Q f listed a w:=az a h
  rwa [List.length_nil,Nat.zero_add]
 | i ::s,listed,a,bm,aS,Db,h=>by
  simp only [HJ,Bool.and_eq_true] at bm
  obtain⟨⟨⟨h1,h2⟩,h3⟩,h4⟩:=bm
  have hi:i < l.length:=aS i (by simp)
  have bu:i ∈ Region.ready md l.toArray listed:=by simpa using h1
  obtain⟨_,dS,iz,_⟩:=mem_ready.1 bu
  have az:wJ dS.op= true:=by simpa [pW,iz] using h3
  have aO:gq l (i ::s)= l[i] ::gq l s:=by simp [gq,hi]
  rw [aO] at h
  have du:qOp P l.toArray C i (wpQuiet P l.toArray C K (gq l s)) a:=by
   unfold qOp
   have:l.toArray[i]? =some l[i]:=by simp [hi]
   simp only [this]
   exact h
  obtain⟨v,hy,gj⟩:=yieldsIn_of_qOp iz du
  have aid:=Mo ft eU K s (listed.setIfInBounds i true) _ h4 (fun j bH=>aS j (by simp [bH])) Db gj
  rw [List.length_cons,show s.length + 1 + f= (s.length + f) + 1 from by omega]
  exact aan iz (Region.noSelect_spec ft) (s.length + f) listed a w (Region.free_spec iz h2) bu (YieldsIn.Qt az hy) eU aid
theorem afn {l:List Oper} {e:Nat} {a:Act} {w:World} {K:Act→World→Prop} (he:e < l.length) (h:wpList P l.toArray (hQ K) (gq l [e]) a w):wpOp P l.toArray (hQ Q) e K a w:=by
 have aO:gq l [e]= [l[e]]:=by simp [gq,he]
 rw [aO] at h
 unfold wpOp
 have:l.toArray[e]? =some l[e]:=by simp [he]
 simp only [this]
 unfold wpList at h
 have iZ:∀eY eI,wpList P l.toArray (hQ K) [] eY eI→K eY eI:=fun eY eI h2=>h2.2
 split
 ·rename_i hw
  simp only [hw,if_true] at h
  exact h.elim (fun h2=> .inl (Oper.QB iZ h2)) (fun h2=>absurd h2.2 yF)
 ·rename_i hw
  simp only [hw] at h
  exact iZ _ _ h
def wD (L:Array Bool):Nat:=(L.toList.filter (fun b=>!b)).length
theorem arN {id:Nat} {Q:Exit→Act→World→Prop} {a:Act} {w:World} {l:List Oper} (C:World→Prop) (hm:P.follows .mixedOrders= true) (h:rv P .any l.toArray C (fun a' ag=>Q .normal a' ag) l.length (Array.replicate l.length false) a w.drew):(Code.region id l.toArray true).wp P Q a w:=by
 have H:=QA _ _ _ _ h
 exact aaK
end
open Go.RowKit
section
variable {P:Program} {lN:World→Prop} {Q:Act→World→Prop} {l:List Oper}
def Rest (P:Program) (l:List Oper) (lN:World→Prop) (Q:Act→World→Prop) (L:Array Bool) (a:Act) (w:World):Prop:=rv P .any l.toArray (fun ag=>∃k:cN lN,ag= k.world) Q (wD L) L a w
def IA (P:Program) (l:List Oper) (lN:World→Prop) (i:Nat) (s:List Nat) (a:Act) (w:World) (K:Act→World→Prop):Prop:=wpList P l.toArray (hQ fun eY eI=>lN eI∧wpQuiet P l.toArray (fun ag=>∃k:cN lN,ag= k.world) (fun a3=>K a3 eI) (gq l s) eY) (gq l [i]) a w
def Ao (l:List Oper) (L:Array Bool) (i:Nat) (s:List Nat) (Cb:Array Bool):Bool:=decide (i < l.length) && s.all (fun i=>decide (i < l.length)) && HJ .any l.toArray s (L.setIfInBounds i true) && decide (Kx s (L.setIfInBounds i true)= Cb) && decide (wD L= s.length + wD Cb + 1)
theorem PX (ft:Region.noSelect l.toArray= true) {L Cb:Array Bool} {i:Nat} {s:List Nat} {a:Act} {w:World} {f:Nat} (hf:wD L= f + 1) (bm:Ao l L i s Cb= true) (h:IA P l lN i s a w (Rest P l lN Q Cb)):
  wpOp P l.toArray (hQ Q) i (rv P .any l.toArray (fun ag=>∃k:cN lN,ag= k.world) Q f (L.setIfInBounds i true)) a w:=by
 simp only [Ao,Bool.and_eq_true,decide_eq_true_eq,List.all_eq_true] at bm
 obtain⟨⟨⟨⟨dx,dz⟩,eu⟩,fo⟩,ib⟩:=bm
 refine wpOp_mono (fun eY eI ahQ=>?_) (afn dx h)
 obtain⟨ahW,aZ⟩:=ahQ
 have cw:f= s.length + wD Cb:=by omega
 rw [cw]
 exact Mo ft ⟨⟨eI,ahW⟩,rfl⟩ _ s _ eY eu dz (fun a' At=>by rw [fo];exact At) aZ
theorem aoI (i1:Nat) (s1:List Nat) (ED:Array Bool) (i2:Nat) (s2:List Nat) (Su:Array Bool) {L:Array Bool} {a:Act} {w:World} (bm:(Region.noSelect l.toArray && decide (Region.ready .any l.toArray L= [i1,i2]) && Ao l L i1 s1 ED && Ao l L i2 s2 Su)= true) (eU:lN w)
  (h1:∀K:Act→World→Prop,(∀a w,Rest P l lN Q ED a w→K a w)→IA P l lN i1 s1 a w K) (h2:∀K:Act→World→Prop,(∀a w,Rest P l lN Q Su a w→K a w)→IA P l lN i2 s2 a w K):Rest P l lN Q L a w:=by
 simp only [Bool.and_eq_true,decide_eq_true_eq] at bm
 obtain⟨⟨⟨ft,bu⟩,e1⟩,e2⟩:=bm
 have Fy:=e1
 simp only [Ao,Bool.and_eq_true,decide_eq_true_eq] at Fy
 obtain⟨f,hf⟩ :∃f,wD L= f + 1:=⟨_,Fy.2⟩
 unfold Rest
 rw [hf]
 refine⟨⟨⟨w,eU⟩,rfl⟩,by rw [bu];simp,fun i hi=>?_⟩
 rw [bu] at hi
 simp only [List.mem_cons,List.not_mem_nil,or_false] at hi
 rcases hi with rfl | rfl
 ·exact PX ft hf e1 (h1 _ fun _ _ h=>h)
 ·exact PX ft hf e2 (h2 _ fun _ _ h=>h)
theorem PY (i1:Nat) (s1:List Nat) (ED:Array Bool) {L:Array Bool} {a:Act} {w:World} (bm:(Region.noSelect l.toArray && decide (Region.ready .any l.toArray L= [i1]) && Ao l L i1 s1 ED)= true) (eU:lN w)
  (h1:∀K:Act→World→Prop,(∀a w,Rest P l lN Q ED a w→K a w)→IA P l lN i1 s1 a w K):Rest P l lN Q L a w:=by
 simp only [Bool.and_eq_true,decide_eq_true_eq] at bm
 obtain⟨⟨ft,bu⟩,e1⟩:=bm
 have Fy:=e1
 simp only [Ao,Bool.and_eq_true,decide_eq_true_eq] at Fy
 obtain⟨f,hf⟩ :∃f,wD L= f + 1:=⟨_,Fy.2⟩
 unfold Rest
 rw [hf]
 refine⟨⟨⟨w,eU⟩,rfl⟩,by rw [bu];simp,fun i hi=>?_⟩
 rw [bu] at hi
 simp only [List.mem_cons,List.not_mem_nil,or_false] at hi
 subst hi
 exact PX ft hf e1 (h1 _ fun _ _ h=>h)
theorem aoH {L:Array Bool} {a:Act} {w:World} (bm:(decide (Region.ready .any l.toArray L= []) && decide (wD L= 0))= true) (eU:lN w) (h:Q a w):Rest P l lN Q L a w:=by
 simp only [Bool.and_eq_true,decide_eq_true_eq] at bm
 unfold Rest
 rw [bm.2]
 exact⟨⟨⟨w,eU⟩,rfl⟩,bm.1,h⟩
theorem arQ {id:Nat} {Q:Exit→Act→World→Prop} {a:Act} {w:World} (lN:World→Prop) (iU:List Nat) (Ix:Array Bool) (hm:P.follows .mixedOrders= true)
  (bm:(Region.noSelect l.toArray && HJ .any l.toArray iU (Array.replicate l.length false) && decide (Kx iU (Array.replicate l.length false)= Ix) && decide (l.length= iU.length + wD Ix) && iU.all (fun i=>decide (i < l.length)))= true)
  (eU:lN w.drew) (h:∀K:Act→World→Prop,(∀a w,Rest P l lN (fun a' ag=>Q .normal a' ag) Ix a w→K a w)→wpQuiet P l.toArray (fun ag=>∃k:cN lN,ag= k.world) (fun a'=>K a' w.drew) (gq l iU) a):(Code.region id l.toArray true).wp P Q a w:=by
 simp only [Bool.and_eq_true,decide_eq_true_eq,List.all_eq_true] at bm
 obtain⟨⟨⟨⟨dx,dz⟩,eu⟩,fo⟩,ib⟩:=bm
 refine arN (fun ag=>∃k:cN lN,ag= k.world) hm ?_
 have aX:=Mo (P:=P) (md:= .any) (Q:=fun a' ag=>Q .normal a' ag) (f:=wD Ix) dx (w:=w.drew) ⟨⟨_,eU⟩,rfl⟩ _ iU (Array.replicate l.length false) a dz ib (fun a' At=>by rw [eu];exact At) (h _ fun _ _ h=>h)
 rwa [← fo] at aX
end
open Go.RowKit
section
variable {P:Program} {ops:Array Oper} {md:Region.Mode} {C:World→Prop} {Q:Act→World→Prop}
def tp (md:Region.Mode) (ops:Array Oper) (y x:Nat):Bool:=match ops[y]? with | some o=>o.after.any (fun e=>Region.binds md e && e.on == x) | none=>false
def uz (ops:Array Oper) (x y:Nat):Bool:=match ops[x]?,ops[y]? with | some a,some b=>a.apart ops b | _,_=>false
def Bo (md:Region.Mode) (ops:Array Oper):Nat→Nat→Nat→Bool
 | 0,y,x=>tp md ops y x
 | n + 1,y,x=>tp md ops y x || (List.range ops.size).any fun m=>tp md ops y m && Bo md ops n m x
def Bk (k:Nat):Bool:=k == 4 || k == 6
def so (k:Nat):Bool:=k == 0 || k == 2
def zw (x y:Nat):Bool:=(so x && y != 5) || Bk x || (x == 1 && (y == 0 || y == 1 || y == 6))
def wx (md:Region.Mode) (ops:Array Oper) (x y:Nat×Nat):Bool:=
 !(tp md ops x.1 y.1) && !(x.1 == y.1) && !(x.2 == 5 && so y.2) && ((zw x.2 y.2 && uz ops x.1 y.1) || Bo md ops 3 y.1 x.1)
def DB (md:Region.Mode) (ops:Array Oper):List (Nat×Nat)→Bool
 | []=>true
 | x ::r=>r.all (wx md ops x) && DB md ops r
theorem Yi:∀{r:List (Nat×Nat)},DB md ops r= true→r.Pairwise fun x y=>wx md ops x y= true
 | [],_=> .nil
 | x ::r,h=>by
  simp only [DB,Bool.and_eq_true,List.all_eq_true] at h
  exact .cons (fun y hy=>h.1 y hy) (Yi h.2)
def HM (md:Region.Mode) (ops:Array Oper):Bool:=(List.range ops.size).all fun i=>match ops[i]? with | some o=>o.after.all (fun e=>!(Region.binds md e) || (decide (e.on < ops.size) && !(e.on == i))) | none=>true
theorem IY {x y:Nat}:tp md ops y x= true↔∃o,ops[y]? =some o∧∃e ∈ o.after,Region.binds md e= true∧e.on= x:=by
 unfold tp
 cases h:ops[y]? with
 | none=>simp
 | some o=>
  simp only [← Array.any_toList,List.any_eq_true]
  simp
theorem Fj {x y:Nat}:uz ops x y= true↔∃a b,ops[x]? =some a∧ops[y]? =some b∧a.apart ops b= true:=by
 unfold uz
 cases h:ops[x]? with
 | none=>simp
 | some a=>cases h2:ops[y]? with
  | none=>simp
  | some b=>simp
structure Fit (md:Region.Mode) (ops:Array Oper) (r:List (Nat×Nat)) (listed:Array Bool):Prop where
 wf:HM md ops= true
 size:listed.size= ops.size
 mem:∀i,i < ops.size→(listed.getD i true= false↔∃k,(i,k) ∈ r)
 lt:∀x ∈ r,x.1 < ops.size
 Bl:r.Pairwise fun x y=>wx md ops x y= true
 Cs:∀x y,tp md ops y x= true→listed.getD x true= false→listed.getD y true= false
theorem Fit.Kj {r:List (Nat×Nat)} {listed:Array Bool} (_:Fit md ops r listed) {j x:Nat} (he:tp md ops j x= true) (ay:listed.getD x true= false) (bH:j ∈ Region.ready md ops listed):False:=by
 obtain⟨_,o,cY,h2⟩:=mem_ready.1 bH
 obtain⟨mU,GC,e,hm,aB,ajH⟩:=IY.1 he
 have:o= mU:=Option.some.inj (cY.symm.trans GC)
 subst this
 have h3:=h2 e hm aB
 rw [ajH] at h3
 rw [getD_both ay] at h3;cases h3
theorem Fit.reach {r:List (Nat×Nat)} {listed:Array Bool} (h:Fit md ops r listed) {x:Nat} (ay:listed.getD x true= false):∀(n y:Nat),Bo md ops n y x= true→listed.getD y true= false
 | 0,y,he=>h.Cs x y he ay
 | n + 1,y,he=>by
  simp only [Bo,Bool.or_eq_true,List.any_eq_true,Bool.and_eq_true] at he
  rcases he with he | ⟨m,_,h1,h2⟩
  ·exact h.Cs x y he ay
  ·exact h.Cs m y h1 (h.reach ay n m h2)
theorem Fit.anv {r:List (Nat×Nat)} {listed:Array Bool} (h:Fit md ops r listed) {j x:Nat} (ay:listed.getD x true= false) (bH:j ∈ Region.ready md ops listed):∀n,Bo md ops n j x= false:=by
 intro n
 cases bu:Bo md ops n j x with
 | false=>rfl
 | true=>
  exfalso
  cases n with
  | zero=>exact h.Kj bu ay bH
  | succ n=>
   simp only [Bo,Bool.or_eq_true,List.any_eq_true,Bool.and_eq_true] at bu
   rcases bu with he | ⟨m,_,h1,h2⟩
   ·exact h.Kj he ay bH
   ·exact h.Kj h1 (h.reach ay n m h2) bH
theorem Fit.step {p s:List (Nat×Nat)} {j k:Nat} {listed:Array Bool} (h:Fit md ops (p ++ (j,k) ::s) listed) (ajr:j ∈ Region.ready md ops listed):Fit md ops (p ++ s) (listed.setIfInBounds j true):=by
 have xH:(p ++ s).Sublist (p ++ (j,k) ::s):=List.Sublist.append_left (List.sublist_cons_self _ _) p
 refine⟨h.wf,by simpa using h.size,fun i hi=>?_,fun x ay=>h.lt x (xH.subset ay),h.Bl.sublist xH,fun x y he ay=>?_⟩
 case refine_2=>
  have lf:listed.getD x true= false:=by
   by_cases VD:j= x
   ·subst VD
    exfalso
    by_cases aS:j < listed.size
    ·simp [Array.getD_eq_getD_getElem?,Array.getElem?_setIfInBounds_self_of_lt aS] at ay
    ·simp [Array.getD_eq_getD_getElem?,aS] at ay
   ·simpa [Array.getD_eq_getD_getElem?,Array.getElem?_setIfInBounds_ne VD] using ay
  by_cases VE:j= y
  ·subst VE
   exact (h.Kj he lf ajr).elim
  ·have:=h.Cs x y he lf
   simpa [Array.getD_eq_getD_getElem?,Array.getElem?_setIfInBounds_ne VE] using this
 by_cases ze:j= i
 ·subst ze
  have bH:j < listed.size:=by rw [h.size];exact hi
  have h1:(listed.setIfInBounds j true).getD j true= true:=by simp [Array.getD_eq_getD_getElem?,Array.getElem?_setIfInBounds_self_of_lt bH]
  rw [h1]
  refine⟨fun h2=>(by cases h2),fun ⟨hS,az⟩=>?_⟩
  exfalso
  rcases List.mem_append.1 az with az | az
  ·have:=(List.pairwise_append.1 h.Bl).2.2 _ az (j,k) (by simp)
   simp [wx] at this
  ·have:=(List.pairwise_cons.1 (List.pairwise_append.1 h.Bl).2.1).1 _ az
   simp [wx] at this
 ·have h1:(listed.setIfInBounds j true).getD i true= listed.getD i true:=by simp [Array.getD_eq_getD_getElem?,Array.getElem?_setIfInBounds_ne ze]
  rw [h1,h.mem i hi]
  constructor
  ·rintro ⟨hS,az⟩
   refine⟨hS,?_⟩
   rcases List.mem_append.1 az with az | az
   ·exact List.mem_append_left _ az
   ·rcases List.mem_cons.1 az with az | az
    ·exact absurd (congrArg Prod.fst az).symm ze
    ·exact List.mem_append_right _ az
  ·rintro ⟨hS,az⟩
   exact⟨hS,xH.subset az⟩
theorem ahN {listed:Array Bool} {i:Nat} (hi:i < listed.size) (h:¬listed.getD i true= false):listed.getD i false= true:=by
 simp only [Array.getD_eq_getD_getElem?,Array.getElem?_eq_getElem hi,Option.getD_some] at h ⊢
 cases dQ:listed[i] with
 | true=>rfl
 | false=>exact absurd dQ h
theorem Fit.head {x:Nat×Nat} {s:List (Nat×Nat)} {listed:Array Bool} (h:Fit md ops (x ::s) listed):x.1 ∈ Region.ready md ops listed:=by
 have ay:=h.lt x (by simp)
 refine mem_ready.2 ⟨(h.mem _ ay).2 ⟨x.2,by simp⟩,ops[x.1],Array.getElem?_eq_getElem ay,fun e he aB=>?_⟩
 have OW:=h.wf
 unfold HM at OW
 rw [List.all_eq_true] at OW
 have h1:=OW x.1 (List.mem_range.2 ay)
 simp only [Array.getElem?_eq_getElem ay,Array.all_eq_true_iff_forall_mem] at h1
 have h2:=h1 e he
 simp only [aB,Bool.not_true,Bool.false_or,Bool.and_eq_true,decide_eq_true_eq,Bool.not_eq_true',beq_eq_false_iff_ne] at h2
 refine ahN (by rw [h.size];exact h2.1) fun hf=>?_
 obtain⟨k,az⟩:=(h.mem _ h2.1).1 hf
 rcases List.mem_cons.1 az with az | az
 ·exact h2.2 (congrArg Prod.fst az)
 ·have:=(List.pairwise_cons.1 h.Bl).1 _ az
  simp only [wx,Bool.and_eq_true,Bool.not_eq_true'] at this
  have h3:tp md ops x.1 e.on= true:=IY.2 ⟨_,Array.getElem?_eq_getElem ay,e,he,aB,rfl⟩
  rw [this.1.1.1] at h3;cases h3
theorem Fit.ready {r:List (Nat×Nat)} {j:Nat} {listed:Array Bool} (h:Fit md ops r listed) (bH:j ∈ Region.ready md ops listed):
  ∃p k s,r= p ++ (j,k) ::s∧(∀x ∈ p,zw x.2 k= true∧uz ops x.1 j= true)∧(k= 5→∀x ∈ s,so x.2= false):=by
 obtain⟨h1,o,cY,h2⟩:=mem_ready.1 bH
 have bl:j < ops.size:=(Array.getElem?_eq_some_iff.1 cY).1
 obtain⟨k,az⟩:=(h.mem j bl).1 h1
 obtain⟨p,s,bu⟩:=List.append_of_mem az
 refine⟨p,k,s,bu,fun x ay=>?_,fun Oa x ay=>?_⟩
 case refine_2=>
  subst bu Oa
  have aO:=(List.pairwise_cons.1 (List.pairwise_append.1 h.Bl).2.1).1 x ay
  simp only [wx,Bool.and_eq_true,Bool.not_eq_true'] at aO
  simpa using aO.1.2
 subst bu
 have aO:=(List.pairwise_append.1 h.Bl).2.2 x ay (j,k) (by simp);have JC:=(h.mem x.1 (h.lt x (List.mem_append_left _ ay))).2 ⟨x.2,List.mem_append_left _ ay⟩;have eP:=h.anv JC bH 3
 simp only [wx,eP,Bool.or_false,Bool.and_eq_true] at aO
 exact aO.2
def pD (C:World→Prop) (k:Nat):World→Prop:=fun w=>Bk k= true∨C w
def gB (P:Program) (ops:Array Oper) (C:World→Prop) (Q:Act→World→Prop):List (Nat×Nat)→Act→World→Prop
 | [],a,w=>Q a w
 | (i,k) ::r,a,w=>if k= 3 then wpOp P ops (hQ Q) i (fun a' ag=>C ag∧gB P ops C Q r a' ag) a w
  else if k= 5 then wpOp P ops (hQ Q) i (fun a' ag=>gB P ops C Q r a' ag) a w
  else∃dS v,ops[i]? =some dS∧lE P ops (pD C k) dS v a∧gB P ops C Q r (a.put dS.dst v) w
theorem sR (ft:Region.noSelect ops= true) {i:Nat} {o:Oper} (h:ops[i]? =some o):∀cs b,o.op≠.select cs b:=fun cs b=>Region.noSelect_spec ft i o cs b h
theorem abb {p:Prop} (h:p:=by
 refine⟨dS,qw,iz,zo.of_same (execOp_put dS (sR ft iz) a fe.dst v h3) (wanted_put dS a fe.dst v h3),?_⟩
 rw [← Act.put_comm a qw v h2]
 exact aX):p:=h
theorem SB (ft:Region.noSelect ops= true) {j zq:Nat} {s:List (Nat×Nat)} (AB:zq≠3∧zq≠5):∀(p:List (Nat×Nat)) (a:Act) (w:World),(∀x ∈ p,(x.2≠3∧x.2≠5)∧uz ops x.1 j= true)→gB P ops C Q (p ++ (j,zq) ::s) a w→
  ∃fe v,ops[j]? =some fe∧lE P ops (pD C zq) fe v a∧gB P ops C Q (p ++ s) (a.put fe.dst v) w
 | [],a,w,_,h=>by
  simp only [List.nil_append,gB,if_neg AB.1,if_neg AB.2] at h
  exact h
 | (i,k) ::p,a,w,aO,h=>by
  have hi:=aO (i,k) (by simp)
  simp only [List.cons_append,gB,if_neg hi.1.1,if_neg hi.1.2] at h
  obtain⟨dS,qw,iz,zo,bu⟩:=h
  obtain⟨fe,v,hj,GU,aX⟩:=SB ft AB p _ w (fun x ay=>aO x (by simp [ay])) bu
  obtain⟨a1,dx,e1,e2,jC⟩:=Fj.1 hi.2
  obtain rfl:=Option.some.inj (iz.symm.trans e1)
  obtain rfl:=Option.some.inj (hj.symm.trans e2)
  obtain⟨h1,h2,h3⟩:=Oper.apart_spec jC
  refine⟨fe,v,hj,GU.of_same (execOp_put fe (sR ft hj) a dS.dst qw h1).symm (wanted_put fe a dS.dst qw h1).symm,?_⟩
  simp only [List.cons_append,gB,if_neg hi.1.1,if_neg hi.1.2]
  exact abb
theorem Sx (ft:Region.noSelect ops= true) {j:Nat} {fe:Oper} (hj:ops[j]? =some fe) {s:List (Nat×Nat)}:∀(p:List (Nat×Nat)) (a:Act) (w:World),(∀x ∈ p,(x.2≠3∧x.2≠5)∧uz ops x.1 j= true)→gB P ops C Q (p ++ (j,3) ::s) a w→
  wpOp P ops (hQ Q) j (fun a' ag=>C ag∧gB P ops C Q (p ++ s) a' ag) a w
 | [],a,w,_,h=>by
  simp only [List.nil_append,gB,if_true] at h
  exact h
 | (i,k) ::p,a,w,aO,h=>by
  have hi:=aO (i,k) (by simp)
  simp only [List.cons_append,gB,if_neg hi.1.1,if_neg hi.1.2] at h
  obtain⟨dS,qw,iz,zo,bu⟩:=h
  have eM:=Sx ft hj p _ w (fun x ay=>aO x (by simp [ay])) bu
  obtain⟨a1,dx,e1,e2,jC⟩:=Fj.1 hi.2
  obtain rfl:=Option.some.inj (iz.symm.trans e1)
  obtain rfl:=Option.some.inj (hj.symm.trans e2)
  refine wpOp_mono (fun a' ag du=>⟨du.2.1,?_⟩) (wpOp_put hj jC (sR ft iz) (sR ft hj) zo eM)
  simp only [List.cons_append,gB,if_neg hi.1.1,if_neg hi.1.2]
  exact⟨dS,qw,iz,du.1,du.2.2⟩
theorem Sy (ft:Region.noSelect ops= true) {j:Nat} {fe:Oper} (hj:ops[j]? =some fe) {s:List (Nat×Nat)}:∀(p:List (Nat×Nat)) (a:Act) (w:World),(∀x ∈ p,(x.2≠3∧x.2≠5)∧uz ops x.1 j= true)→gB P ops C Q (p ++ (j,5) ::s) a w→
  wpOp P ops (hQ Q) j (fun a' ag=>gB P ops C Q (p ++ s) a' ag) a w
 | [],a,w,_,h=>by
  simp only [List.nil_append,gB] at h
  exact h
 | (i,k) ::p,a,w,aO,h=>by
  have hi:=aO (i,k) (by simp)
  simp only [List.cons_append,gB,if_neg hi.1.1,if_neg hi.1.2] at h
  obtain⟨dS,qw,iz,zo,bu⟩:=h
  have eM:=Sy ft hj p _ w (fun x ay=>aO x (by simp [ay])) bu
  obtain⟨a1,dx,e1,e2,jC⟩:=Fj.1 hi.2
  obtain rfl:=Option.some.inj (iz.symm.trans e1)
  obtain rfl:=Option.some.inj (hj.symm.trans e2)
  refine wpOp_mono (fun a' ag du=>?_) (wpOp_put hj jC (sR ft iz) (sR ft hj) zo eM)
  simp only [List.cons_append,gB,if_neg hi.1.1,if_neg hi.1.2]
  exact⟨dS,qw,iz,du.1,du.2⟩
theorem anF {x k:Nat} (h:zw x k= true):x≠3∧x≠5:=by
 constructor
 ·rintro rfl;simp [zw,so,Bk] at h
 ·rintro rfl;simp [zw,so,Bk] at h
theorem anE {x:Nat} (h:zw x 5= true):so x= false:=by
 cases aE:so x with
 | false=>rfl
 | true=>
  simp only [so,Bool.or_eq_true,beq_iff_eq] at aE
  rcases aE with rfl | rfl <;> simp [zw,so,Bk] at h
theorem DS (ft:Region.noSelect ops= true):∀(n:Nat) (r:List (Nat×Nat)) (listed:Array Bool) (a:Act) (w:World),r.length= n→(∀x ∈ r,x.2≠1∧x.2≤6)→Fit md ops r listed→((∀x ∈ r,so x.2= false)∨C w)→gB P ops C Q r a w→wpAny P md ops (hQ Q) n listed a w
 | 0,r,listed,a,w,aY,_,hf,eU,h=>by
  obtain rfl:=List.length_eq_zero_iff.1 aY
  refine⟨List.eq_nil_iff_forall_not_mem.2 fun j bH=>?_,rfl,h⟩
  obtain⟨p,k,s,bu,_⟩:=hf.ready bH
  simp at bu
 | n + 1,r,listed,a,w,aY,h1,hf,eU,h=>by
  refine⟨fun h0=>?_,fun j bH=>?_⟩
  ·cases r with
   | nil=>simp at aY
   | cons x s=>have:=hf.head;rw [h0] at this;cases this
  ·obtain⟨p,k,s,rfl,aO,Oa⟩:=hf.ready bH
   have Ou:∀x ∈ p,(x.2≠3∧x.2≠5)∧uz ops x.1 j= true:=fun x ay=>⟨anF (aO x ay).1,(aO x ay).2⟩
   have hlen:(p ++ s).length= n:=by simp at aY ⊢;omega
   have xH:(p ++ s).Sublist (p ++ (j,k) ::s):=List.Sublist.append_left (List.sublist_cons_self _ _) p
   have qh:∀x ∈ p ++ s,x.2≠1∧x.2≤6:=fun x ay=>h1 x (xH.subset ay)
   have bl:=hf.lt (j,k) (by simp)
   by_cases az:k= 3
   ·subst az
    exact wpOp_mono (fun a' ag du=>DS ft n _ _ _ _ hlen qh (hf.step bH) (.inr du.1) du.2) (Sx ft (Array.getElem?_eq_getElem bl) p a w Ou h)
   ·by_cases lJ:k= 5
    ·subst lJ
     have hM:∀x ∈ p ++ s,so x.2= false:=fun x ay=>by
      rcases List.mem_append.1 ay with ay | ay
      ·exact anE (aO x ay).1
      ·exact Oa rfl x ay
     exact wpOp_mono (fun a' ag du=>DS ft n _ _ _ _ hlen qh (hf.step bH) (.inl hM) du) (Sy ft (Array.getElem?_eq_getElem bl) p a w Ou h)
    ·obtain⟨fe,v,hj,hy,aX⟩:=SB ft ⟨az,lJ⟩ p a w Ou h
     have Jq:pD C k w:=by
      have Db:=h1 (j,k) (by simp)
      simp only at Db
      unfold pD
      rcases eU with eU | eU
      ·have h3:=eU (j,k) (by simp)
       left
       simp only [so,Bool.or_eq_false_iff,beq_eq_false_iff_ne] at h3
       have:k= 4∨k= 6:=by omega
       rcases this with rfl | rfl <;> rfl
      ·exact .inr eU
     refine hy.wpOp hj Jq (DS ft n _ _ _ _ hlen qh (hf.step bH) ?_ aX)
     rcases eU with eU | eU
     ·exact .inl fun x ay=>eU x (xH.subset ay)
     ·exact .inr eU
theorem anW {a b:Act} {d:Option Tmp} {u v:Value} (aX:b.tmps.size= a.tmps.size) (h:b.put d u= b.put d v):a.put d u= a.put d v:=by
 cases d with
 | none=>rfl
 | some d=>
  simp only [Act.put] at h ⊢
  have h1:b.tmps.setIfInBounds d u= b.tmps.setIfInBounds d v:=by injection h
  by_cases bO:d < b.tmps.size
  ·have h2:u= v:=by
    have h3:=congrArg (fun t:Array Value=>t[d]?) h1
    simp only [Array.getElem?_setIfInBounds_self_of_lt bO] at h3
    exact Option.some.inj h3
   rw [h2]
  ·have hle:a.tmps.size≤d:=aX ▸ Nat.le_of_not_lt bO
   have h3:∀x,a.tmps.setIfInBounds d x= a.tmps:=fun x=>Array.setIfInBounds_eq_of_size_le hle
   rw [h3,h3]
theorem Ko (a:Act) (d:Option Tmp) (v:Value):(a.put d v).tmps.size= a.tmps.size:=by
 cases d <;> simp [Act.put]
theorem Yq (a:Act) (d:Option Tmp) (v:Value):(a.put d v).defers= a.defers:=by
 cases d <;> rfl
def Ll (P:Program) (ops:Array Oper) (Q:Act→World→Prop) (e:Nat) (mV:Oper) (K:Value→World→Prop) (a:Act) (W:World):Prop:=
 ∀L:Act→World→Prop,(∀v eE,K v eE→L (a.put mV.dst v) eE)→wpOp P ops (hQ Q) e L a W
theorem ahO {e:Nat} {mV:Oper} {K:Value→World→Prop} {a b:Act} {W:World} (he:ops[e]? =some mV) (bu:execOp a.eval mV= execOp b.eval mV)
  (hw:Region.wanted mV (yielded ops a.tmps)= Region.wanted mV (yielded ops b.tmps)) (aX:b.tmps.size= a.tmps.size) (h:Ll P ops Q e mV K b W):Ll P ops Q e mV K a W:=by
 intro L jq
 have H:=h (fun cL eE=>(∀u,cL= b.put mV.dst u→L (a.put mV.dst u) eE)∧∃u,cL= b.put mV.dst u) (fun v eE aw=>⟨fun u hu=>by rw [← anW aX hu];exact jq v eE aw,v,rfl⟩)
 unfold wpOp at H ⊢
 simp only [he] at H ⊢
 rw [← hw] at H
 split
 ·rename_i OX
  simp only [OX,if_true] at H
  rcases H with H | H
  ·refine .inl ?_
   unfold Oper.wp at H ⊢
   rw [← bu] at H
   generalize (execOp a.eval mV).run P W= r at *
   cases r with
   | ok n ag=>
    cases n <;> simp only [Oper.upon] at H ⊢
    case value u=>exact H.1 u rfl
    case skip=>exact H.1 undef rfl
    case defer d=>
     obtain⟨u,hu⟩:=H.2
     have h1:=congrArg Act.defers hu
     rw [Yq,Yq] at h1
     have h2:=congrArg List.length h1
     simp at h2
    case enter f args=>
     refine H.mono fun e eI dQ=>?_
     cases e with
     | returned u=>exact dQ.1 u rfl
     | panicked c=>exact absurd dQ.1 (by intro h;cases h)
     | outgrown=>exact absurd dQ yF
    case row row args=>exact H.mono fun u eI dQ=>dQ.1 u rfl
   | halt x ag=>cases x <;> simp only [Oper.upon] at H ⊢ <;> exact absurd H.1 (by intro h;cases h)
  ·exact absurd H.2 yF
 ·rename_i OX
  simp only [OX] at H
  exact H.1 undef rfl
structure lC (α:Type) where
 par:Nat→List Nat
 val:Nat→α→Value
 post:Nat→(Nat→α)→α→World→World→Prop
variable {α:Type} [Inhabited α]
def rp (ps:List Nat) (bp:Nat→α):Nat→α:=fun m=>if ps.contains m then bp m else default
theorem YP {ps:List Nat} {bp pY:Nat→α} (h:∀m ∈ ps,bp m= pY m):rp ps bp= rp ps pY:=by
 funext m
 unfold rp
 split
 ·rename_i hm;exact h m (List.contains_iff_mem.1 hm)
 ·rfl
def EI (S:lC α) (bp:Nat→α) (m:Nat) (W:World):Prop:=∃cW V,Below cW.heap.size cW V∧S.post m (rp (S.par m) bp) (bp m) cW V∧Below V.heap.size V W
def EJ (P:Program) (ops:Array Oper) (C:World→Prop) (Q:Act→World→Prop) (S:lC α) (bp:Nat→α) (e:Nat) (mV:Oper) (a:Act):Prop:=
 ∀W,C W→(∀m ∈ S.par e,EI S bp m W)→Ll P ops Q e mV (fun v eE=>∃p,v= S.val e p∧Below W.heap.size W eE∧S.post e (rp (S.par e) bp) p W eE) a W
def lS (P:Program) (ops:Array Oper) (C:World→Prop) (Q:Act→World→Prop) (S:lC α) (bp:Nat→α) (F:Act→Prop):List (Nat×Nat)→Act→Prop
 | [],a=>F a
 | (i,k) ::r,a=>if k= 1 then∃dS,ops[i]? =some dS∧EJ P ops C Q S bp i dS a∧lS P ops C Q S bp F r (a.put dS.dst (S.val i (bp i)))
  else∃dS v,ops[i]? =some dS∧lE P ops (pD C k) dS v a∧lS P ops C Q S bp F r (a.put dS.dst v)
theorem EJ.of_same {S:lC α} {bp:Nat→α} {e:Nat} {mV:Oper} {a b:Act} (he:ops[e]? =some mV) (bu:execOp a.eval mV= execOp b.eval mV)
  (hw:Region.wanted mV (yielded ops a.tmps)= Region.wanted mV (yielded ops b.tmps)) (aX:b.tmps.size= a.tmps.size) (h:EJ P ops C Q S bp e mV b):EJ P ops C Q S bp e mV a:=
 fun W eU aO=>ahO he bu hw aX (h W eU aO)
theorem Iz (ft:Region.noSelect ops= true) {S:lC α} {bp:Nat→α} {F:Act→Prop} {j zq:Nat} {s:List (Nat×Nat)} (AB:zq≠1):∀(p:List (Nat×Nat)) (a:Act),(∀x ∈ p,uz ops x.1 j= true)→lS P ops C Q S bp F (p ++ (j,zq) ::s) a→
  ∃fe v,ops[j]? =some fe∧lE P ops (pD C zq) fe v a∧lS P ops C Q S bp F (p ++ s) (a.put fe.dst v)
 | [],a,_,h=>by
  simp only [List.nil_append,lS,if_neg AB] at h
  exact h
 | (i,k) ::p,a,aO,h=>by
  have hi:=aO (i,k) (by simp)
  obtain⟨a1,dx,e1,e2,jC⟩:=Fj.1 hi
  obtain⟨h1,h2,h3⟩:=Oper.apart_spec jC
  by_cases az:k= 1
  ·subst az
   simp only [List.cons_append,lS,if_true] at h
   obtain⟨dS,iz,Oi,bu⟩:=h
   obtain⟨fe,v,hj,GU,aX⟩:=Iz ft AB p _ (fun x ay=>aO x (by simp [ay])) bu
   obtain rfl:=Option.some.inj (iz.symm.trans e1)
   obtain rfl:=Option.some.inj (hj.symm.trans e2)
   refine⟨fe,v,hj,GU.of_same (execOp_put fe (sR ft hj) a dS.dst _ h1).symm (wanted_put fe a dS.dst _ h1).symm,?_⟩
   simp only [List.cons_append,lS,if_true]
   refine⟨dS,iz,Oi.of_same iz (execOp_put dS (sR ft iz) a fe.dst v h3) (wanted_put dS a fe.dst v h3) (Ko _ _ _).symm,?_⟩
   rw [← Act.put_comm a _ v h2]
   exact aX
  ·simp only [List.cons_append,lS,if_neg az] at h
   obtain⟨dS,qw,iz,zo,bu⟩:=h
   obtain⟨fe,v,hj,GU,aX⟩:=Iz ft AB p _ (fun x ay=>aO x (by simp [ay])) bu
   obtain rfl:=Option.some.inj (iz.symm.trans e1)
   obtain rfl:=Option.some.inj (hj.symm.trans e2)
   refine⟨fe,v,hj,GU.of_same (execOp_put fe (sR ft hj) a dS.dst qw h1).symm (wanted_put fe a dS.dst qw h1).symm,?_⟩
   simp only [List.cons_append,lS,if_neg az]
   exact abb
theorem Iy (ft:Region.noSelect ops= true) {S:lC α} {bp:Nat→α} {F:Act→Prop} {j:Nat} {s:List (Nat×Nat)}:∀(p:List (Nat×Nat)) (a:Act),(∀x ∈ p,uz ops x.1 j= true)→lS P ops C Q S bp F (p ++ (j,1) ::s) a→
  ∃fe,ops[j]? =some fe∧EJ P ops C Q S bp j fe a∧lS P ops C Q S bp F (p ++ s) (a.put fe.dst (S.val j (bp j)))
 | [],a,_,h=>by
  simp only [List.nil_append,lS,if_true] at h
  exact h
 | (i,k) ::p,a,aO,h=>by
  have hi:=aO (i,k) (by simp)
  obtain⟨a1,dx,e1,e2,jC⟩:=Fj.1 hi
  obtain⟨h1,h2,h3⟩:=Oper.apart_spec jC
  by_cases az:k= 1
  ·subst az
   simp only [List.cons_append,lS,if_true] at h
   obtain⟨dS,iz,Oi,bu⟩:=h
   obtain⟨fe,hj,kr,aX⟩:=Iy ft p _ (fun x ay=>aO x (by simp [ay])) bu
   obtain rfl:=Option.some.inj (iz.symm.trans e1)
   obtain rfl:=Option.some.inj (hj.symm.trans e2)
   refine⟨fe,hj,kr.of_same hj (execOp_put fe (sR ft hj) a dS.dst _ h1).symm (wanted_put fe a dS.dst _ h1).symm (Ko _ _ _),?_⟩
   simp only [List.cons_append,lS,if_true]
   refine⟨dS,iz,Oi.of_same iz (execOp_put dS (sR ft iz) a fe.dst _ h3) (wanted_put dS a fe.dst _ h3) (Ko _ _ _).symm,?_⟩
   rw [← Act.put_comm a _ _ h2]
   exact aX
  ·simp only [List.cons_append,lS,if_neg az] at h
   obtain⟨dS,qw,iz,zo,bu⟩:=h
   obtain⟨fe,hj,kr,aX⟩:=Iy ft p _ (fun x ay=>aO x (by simp [ay])) bu
   obtain rfl:=Option.some.inj (iz.symm.trans e1)
   obtain rfl:=Option.some.inj (hj.symm.trans e2)
   refine⟨fe,hj,kr.of_same hj (execOp_put fe (sR ft hj) a dS.dst qw h1).symm (wanted_put fe a dS.dst qw h1).symm (Ko _ _ _),?_⟩
   simp only [List.cons_append,lS,if_neg az]
   refine⟨dS,qw,iz,zo.of_same (execOp_put dS (sR ft iz) a fe.dst _ h3) (wanted_put dS a fe.dst _ h3),?_⟩
   rw [← Act.put_comm a qw _ h2]
   exact aX
theorem lE.uniq {o:Oper} {v mf:Value} {a:Act} {W:World} (eU:C W) (h:lE P ops C o v a) (du:lE P ops C o mf a):v= mf:=by
 rcases h with ⟨hw,h⟩ | ⟨hw,h⟩ <;> rcases du with ⟨vf,du⟩ | ⟨vf,du⟩
 ·rcases h W eU with h1 | ⟨h1,rfl⟩ <;> rcases du W eU with h2 | ⟨h2,rfl⟩
  ·rw [h1] at h2;injection h2 with h3 _;injection h3
  ·rw [h1] at h2;injection h2 with h3 _;cases h3
  ·rw [h1] at h2;injection h2 with h3 _;cases h3
  ·rfl
 ·rw [hw] at vf;cases vf
 ·rw [hw] at vf;cases vf
 ·rw [h,du]
structure Made (S:lC α) (w0:World) (ms:List Nat) (bp:Nat→α) (cW V:Nat→World) (W:World):Prop where
 nC:∀m ∈ ms,Below w0.heap.size w0 (cW m)
 grow:∀m ∈ ms,Below (cW m).heap.size (cW m) (V m)
 post:∀m ∈ ms,S.post m (rp (S.par m) bp) (bp m) (cW m) (V m)
 later:∀m ∈ ms,Below (V m).heap.size (V m) W
 apart:∀m ∈ ms,∀n ∈ ms,m≠n→(V m).heap.size≤(cW n).heap.size∨(V n).heap.size≤(cW m).heap.size
theorem Made.whole {S:lC α} {w0:World} {ms:List Nat} {bp:Nat→α} {cW V:Nat→World} {W:World} (h:Made S w0 ms bp cW V W) (m:Nat) (hm:m ∈ ms):Below w0 w0 W:=ah (ah (h.nC m hm) (h.grow m hm)) (h.later m hm)
theorem _root_.Go.RowKit.Below.rr {w W:World} (h:Below w.drew.heap.size w.drew W):Below w w W:=⟨h.os,h.tape,h.output,h.size,h.block⟩
theorem Sz {S:lC α} {bp:Nat→α} {F:Act→Prop} {r2:List (Nat×Nat)} {W:World} (ai:∀a,F a→gB P ops C Q r2 a W):∀(r:List (Nat×Nat)) (a:Act),(∀x ∈ r,x.2= 0∨x.2= 6)→lS P ops C Q S bp F r a→gB P ops C Q (r ++ r2) a W
 | [],a,_,h=>ai a h
 | (i,k) ::r,a,h0,h=>by
  have az:k= 0∨k= 6:=h0 (i,k) (by simp)
  have n1:k≠1:=by omega
  have n3:k≠3:=by omega
  have n5:k≠5:=by omega
  simp only [lS,if_neg n1] at h
  simp only [List.cons_append,gB,if_neg n3,if_neg n5]
  obtain⟨dS,v,iz,hy,bu⟩:=h
  exact⟨dS,v,iz,hy,Sz ai r _ (fun x ay=>h0 x (by simp [ay])) bu⟩
variable {S:lC α} {w0:World} {r2:List (Nat×Nat)} {ms:List Nat}
def adP (P:Program) (ops:Array Oper) (C:World→Prop) (Q:Act→World→Prop) (S:lC α) (w0:World) (r2:List (Nat×Nat)) (ms:List Nat) (bp:Nat→α) (a:Act):Prop:=
 ∀cW V W,Made S w0 ms bp cW V W→C W→gB P ops C Q r2 a W
theorem abJ {p:Prop} (h:p:=by
 have:=lJ _ VC
 simp only at this h3
 rcases this with rfl | rfl | rfl | rfl <;> simp [zw,so,Bk] at h3):p:=h
theorem aap (ft:Region.noSelect ops= true) (iS:∀W eE,C W→Below W W eE→C eE)
  (fQ:∀e ∈ ms,∀m ∈ S.par e,m ∈ ms∧tp md ops e m= true) (lJ:∀x ∈ r2,x.2= 2∨x.2= 3∨x.2= 4∨x.2= 5):
  ∀(n:Nat) (r:List (Nat×Nat)) (listed:Array Bool) (a:Act) (W:World) (pY:Nat→α) (cW V:Nat→World),r.length= n→(∀x ∈ r,x.2= 0∨x.2= 6∨(x.2= 1∧x.1 ∈ ms))→Fit md ops (r ++ r2) listed→
   (∀m ∈ ms,∀k,(m,k) ∈ r ++ r2→(m,k) ∈ r∧k= 1)→
   C W→Below w0 w0 W→Made S w0 (ms.filter fun m=>decide ((m,1) ∉ r)) pY cW V W→(∀m ∈ ms,(m,1) ∉ r→∀k ∈ S.par m,(k,1) ∉ r)→
   (∀bp:Nat→α,(∀m ∈ ms,(m,1) ∉ r→bp m= pY m)→lS P ops C Q S bp (adP P ops C Q S w0 r2 ms bp) r a)→wpAny P md ops (hQ Q) (n + r2.length) listed a W:=by
 intro n
 induction n with
 | zero=>
  intro r listed a W pY cW V aY _ hf _ eU _ aW _ bL
  obtain rfl:=List.length_eq_zero_iff.1 aY
  have h1:=bL pY (fun _ _ _=>rfl)
  have qY:(ms.filter fun m=>decide ((m,1) ∉ ([]:List (Nat×Nat))))= ms:=by simp
  rw [qY] at aW
  rw [Nat.zero_add]
  exact DS ft _ r2 listed a W rfl (fun x ay=>by have:=lJ x ay;omega) hf (.inr eU) (h1 cW V W aW eU)
 | succ n eM=>
  intro r listed a W pY cW V aY Oc hf uW eU bI aW Ov bL
  by_cases lr:∃m,(m,1) ∈ r
  ·obtain⟨m0,Oh⟩:=lr
   rw [show n + 1 + r2.length= (n + r2.length) + 1 by omega]
   refine⟨fun h0=>?_,fun j bH=>?_⟩
   ·cases r with
    | nil=>simp at aY
    | cons x s=>have:=hf.head;rw [h0] at this;cases this
   ·obtain⟨p,k,s,bu,aO,_⟩:=hf.ready bH
    have iY:∃dv cf,r= dv ++ (j,k) ::cf∧p= dv∧s= cf ++ r2:=by
     rcases List.append_eq_append_iff.1 bu with ⟨q,au,ao⟩ | ⟨q,au,ao⟩
     ·exfalso
      have h3:=aO (m0,1) (by rw [au];exact List.mem_append_left _ Oh)
      have VC:(j,k) ∈ r2:=by rw [ao];simp
      exact abJ
     ·cases q with
      | nil=>
       exfalso
       simp at au ao
       have h3:=aO (m0,1) (by rw [← au];exact Oh)
       have VC:(j,k) ∈ r2:=by rw [← ao];simp
       exact abJ
      | cons y q=>
       simp only [List.cons_append,List.cons.injEq] at ao
       obtain⟨rfl,ao⟩:=ao
       exact⟨p,q,au,rfl,ao⟩
    obtain⟨dv,cf,rfl,rfl,rfl⟩:=iY
    have jC:∀x ∈ p,uz ops x.1 j= true:=fun x ay=>(aO x ay).2
    have Vu:Fit md ops ((p ++ cf) ++ r2) (listed.setIfInBounds j true):=by
     have:=hf
     rw [List.append_assoc,List.cons_append] at this
     have:=this.step bH
     rwa [← List.append_assoc] at this
    have hlen:(p ++ cf).length= n:=by simp at aY ⊢;omega
    have xH:(p ++ cf).Sublist (p ++ (j,k) ::cf):=List.Sublist.append_left (List.sublist_cons_self _ _) p
    have VH:∀x ∈ p ++ cf,x.2= 0∨x.2= 6∨(x.2= 1∧x.1 ∈ ms):=fun x ay=>Oc x (xH.subset ay)
    have ajp:=Oc (j,k) (by simp)
    obtain⟨atE,aui,ajG,ajb⟩:=mem_ready.1 bH
    have VQ:∀m ∈ ms,∀hS,(m,hS) ∈ (p ++ cf) ++ r2→(m,hS) ∈ p ++ cf∧hS= 1:=by
     intro m hm hS iY
     have h1:(m,hS) ∈ (p ++ (j,k) ::cf) ++ r2:=by
      rcases List.mem_append.1 iY with h | h
      ·exact List.mem_append_left _ (xH.subset h)
      ·exact List.mem_append_right _ h
     have h2:=uW m hm hS h1
     refine⟨?_,h2.2⟩
     rcases List.mem_append.1 iY with h | h
     ·exact h
     ·exfalso
      have h3:=lJ _ h;have h4:=h2.2
      simp at h3;omega
    by_cases uV:k≠1
    ·have xF:∀m,(m,1) ∉ p ++ cf↔(m,1) ∉ p ++ (j,k) ::cf:=fun m=>by simp [Ne.symm uV]
     obtain⟨fe,v,hj,hy,_⟩:=Iz ft uV p a jC (bL pY (fun _ _ _=>rfl))
     have Jq:pD C k W:= .inr eU
     refine hy.wpOp hj Jq (eM (p ++ cf) _ _ W pY cW V hlen VH Vu VQ eU bI ?_ ?_ ?_)
     ·have:(ms.filter fun m=>decide ((m,1) ∉ p ++ cf))= ms.filter fun m=>decide ((m,1) ∉ p ++ (j,k) ::cf):=by
       congr 1;funext m;exact decide_eq_decide.2 (xF m)
      rw [this];exact aW
     ·intro m hm sE hS kZ
      rw [xF] at sE ⊢
      exact Ov m hm sE hS kZ
     ·intro bp JH
      obtain⟨anB,v2,Ot,xN,AJ⟩:=Iz ft uV p a jC (bL bp (fun m hm sE=>JH m hm ((xF m).2 sE)))
      obtain rfl:=Option.some.inj (hj.symm.trans Ot)
      obtain rfl:=hy.uniq Jq xN
      exact AJ
    ·obtain rfl:k= 1:=Classical.byContradiction uV
     have NZ:j ∈ ms:=by
      rcases ajp with h | h | h
      ·cases h
      ·cases h
      ·exact h.2
     have uQ:∀hS ∈ S.par j,(hS,1) ∉ p ++ (j,1) ::cf:=by
      intro hS kZ iY
      have he:=(fQ j NZ hS kZ).2
      obtain⟨fk,ajF,e,ajd,aja,aje⟩:=IY.1 he
      obtain rfl:=Option.some.inj (ajG.symm.trans ajF)
      have h1:=ajb e ajd aja;have bl:=hf.lt (hS,1) (List.mem_append_left _ iY);have h2:=(hf.mem hS bl).2 ⟨1,List.mem_append_left _ iY⟩
      rw [aje,getD_both h2] at h1;cases h1
     have Ok:(j,1) ∉ p ++ cf:=by
      intro iY
      have OA:=hf.Bl
      rw [List.append_assoc,List.cons_append] at OA
      rcases List.mem_append.1 iY with h | h
      ·have:=(List.pairwise_append.1 OA).2.2 _ h (j,1) (by simp)
       simp [wx] at this
      ·have:=(List.pairwise_cons.1 (List.pairwise_append.1 OA).2.1).1 (j,1) (List.mem_append_left _ h)
       simp [wx] at this
     have xF:∀m,(m,1) ∉ p ++ cf↔(m,1) ∉ p ++ (j,1) ::cf∨m= j:=by
      intro m
      by_cases kr:m= j
      ·subst kr;simp [Ok]
      ·simp [kr]
     have ajJ:∀hS ∈ S.par j,hS ∈ ms:=fun hS kZ=>(fQ j NZ hS kZ).1
     obtain⟨fe,hj,lb,_⟩:=Iy ft p a jC (bL pY (fun _ _ _=>rfl))
     have la:∀m,m ∈ ms→(m,1) ∉ p ++ (j,1) ::cf→m ∈ ms.filter fun m=>decide ((m,1) ∉ p ++ (j,1) ::cf):=fun m h1 h2=>List.mem_filter.2 ⟨h1,by simpa using h2⟩
     refine lb W eU (fun m hm=>?_) _ ?_
     ·have iY:=la m (ajJ m hm) (uQ m hm)
      exact⟨cW m,V m,aW.grow m iY,aW.post m iY,aW.later m iY⟩
     ·rintro v eE ⟨q,rfl,cw,ajN⟩
      have OT:∀m,(m,1) ∉ p ++ (j,1) ::cf→m≠j:=fun m h1 h2=>h1 (by subst h2;simp)
      have ajK:∀m ∈ ms,(m,1) ∉ p ++ (j,1) ::cf→rp (S.par m) (fun i=>if i= j then q else pY i)= rp (S.par m) pY:=fun m hm sE=>
       YP fun hS kZ=>by rw [if_neg (OT hS (Ov m hm sE hS kZ))]
      have ajI:rp (S.par j) (fun i=>if i= j then q else pY i)= rp (S.par j) pY:=YP fun hS kZ=>by rw [if_neg (OT hS (uQ hS kZ))]
      have hold:∀m,m ∈ (ms.filter fun m=>decide ((m,1) ∉ p ++ cf))→m≠j→m ∈ ms.filter fun m=>decide ((m,1) ∉ p ++ (j,1) ::cf):=fun m hm eP=>by
       obtain⟨h1,h2⟩:=List.mem_filter.1 hm
       have h3:=(xF m).1 (of_decide_eq_true h2)
       exact la m h1 (h3.resolve_right eP)
      refine eM (p ++ cf) _ _ eE (fun i=>if i= j then q else pY i) (fun i=>if i= j then W else cW i) (fun i=>if i= j then eE else V i) hlen VH Vu VQ (iS W eE eU cw) (bI.trans (cw.mono bI.size)) ?_ ?_ ?_
      ·refine⟨fun m hm=>?_,fun m hm=>?_,fun m hm=>?_,fun m hm=>?_,fun m hm hN Dd eP=>?_⟩
       ·by_cases kr:m= j
        ·rw [if_pos kr];exact bI
        ·rw [if_neg kr];exact aW.nC m (hold m hm kr)
       ·by_cases kr:m= j
        ·rw [if_pos kr,if_pos kr];exact cw
        ·rw [if_neg kr,if_neg kr];exact aW.grow m (hold m hm kr)
       ·by_cases kr:m= j
        ·subst kr
         rw [ajI]
         simp only [if_true];exact ajN
        ·have h1:=hold m hm kr
         have h2:=List.mem_filter.1 h1
         rw [ajK m h2.1 (of_decide_eq_true h2.2)]
         simp only [if_neg kr]
         exact aW.post m h1
       ·by_cases kr:m= j
        ·rw [if_pos kr];exact Below.refl _ _
        ·rw [if_neg kr];have h1:=aW.later m (hold m hm kr);exact h1.trans (cw.mono h1.size)
       ·by_cases kr:m= j
        ·subst kr
         have aY:hN≠m:=fun h=>eP h.symm
         have h1:=aW.later hN (hold hN Dd aY)
         simp only [if_true,if_neg aY]
         exact .inr h1.size
        ·by_cases Oj:hN= j
         ·subst Oj
          have h1:=aW.later m (hold m hm kr)
          simp only [if_true,if_neg kr]
          exact .inl h1.size
         ·simp only [if_neg kr,if_neg Oj]
          exact aW.apart m (hold m hm kr) hN (hold hN Dd Oj) eP
      ·intro m hm sE hS kZ
       rcases (xF m).1 sE with h1 | h1
       ·exact (xF hS).2 (.inl (Ov m hm h1 hS kZ))
       ·subst h1;exact (xF hS).2 (.inl (uQ hS kZ))
      ·intro bp JH
       have akr:bp j= q:=by have:=JH j NZ Ok;simpa using this
       obtain⟨anB,Ot,_,AJ⟩:=Iy ft p a jC (bL bp (fun m hm sE=>by
        have:=JH m hm ((xF m).2 (.inl sE))
        rw [this,if_neg (OT m sE)]))
       obtain rfl:=Option.some.inj (hj.symm.trans Ot)
       rw [akr] at AJ
       exact AJ
  ·have h0:∀x ∈ r,x.2= 0∨x.2= 6:=fun x ay=>by
    rcases Oc x ay with h | h | ⟨h,_⟩
    ·exact .inl h
    ·exact .inr h
    ·exact absurd ⟨x.1,by rw [← h];exact ay⟩ lr
   have qY:(ms.filter fun m=>decide ((m,1) ∉ r))= ms:=by
    rw [List.filter_eq_self]
    intro m _
    exact decide_eq_true fun h=>lr ⟨m,h⟩
   rw [qY] at aW
   have h1:=bL pY (fun _ _ _=>rfl);have h2:gB P ops C Q (r ++ r2) a W:=Sz (fun a' ai=>ai cW V W aW eU) r a h0 h1
   have aS:(r ++ r2).length= n + 1 + r2.length:=by simp [aY]
   rw [← aS]
   refine DS ft _ (r ++ r2) listed a W rfl (fun x ay=>?_) hf (.inr eU) h2
   rcases List.mem_append.1 ay with h | h
   ·have:=h0 x h;omega
   ·have:=lJ x h;omega
def ig (dY eB:Nat):List (List Nat×Nat)→List Nat→List (Nat×Nat)
 | [],s=>s.map (·,dY)
 | (s,e) ::r,cf=>s.map (·,dY) ++ (e,eB) ::ig dY eB r cf
def cls (C:World→Prop):World→Prop:=fun ag=>∃k:cN C,ag= k.world
def XG (md:Region.Mode) (ops:Array Oper) (par:Nat→List Nat) (dJ:List (List Nat×Nat)) (s1:List Nat) (r2:List (List Nat×Nat)) (s2:List Nat):Bool:=
 let hU:=ig 0 1 dJ s1;let fk:=ig 2 3 r2 s2;let ms:=dJ.map (·.2)
 Region.noSelect ops && HM md ops && DB md ops (hU ++ fk) && (hU ++ fk).all (fun x=>decide (x.1 < ops.size)) && (List.range ops.size).all (fun i=>(hU ++ fk).any fun x=>x.1 == i) &&
  (hU ++ fk).all (fun x=>x.2 == 1 || x.2 == 3 || pW ops x.1) && ms.all (fun e=>(par e).all fun m=>ms.contains m && tp md ops e m) && (hU ++ fk).all (fun x=>!(ms.contains x.1) || x.2 == 1) &&
  decide (hU.length + fk.length= ops.size)
def xm (l:List Oper) (e:Nat):Option Tmp:=match l[e]? with | some o=>o.dst | none=>none
def wP (P:Program) (l:List Oper) (C:World→Prop) (S:lC α) (bp:Nat→α) (F:Act→Prop):List (List Nat×Nat)→List Nat→Act→Prop
 | [],s,a=>wpQuiet P l.toArray C F (gq l s) a
 | (s,e) ::r,cf,a=>wpQuiet P l.toArray C (fun a'=>
   (∀W,C W→(∀m ∈ S.par e,EI S bp m W)→wpList P l.toArray (hQ fun eY eE=>∃p,eY= a'.put (xm l e) (S.val e p)∧Below W.heap.size W eE∧S.post e (rp (S.par e) bp) p W eE) (gq l [e]) a' W)∧
   wP P l C S bp F r cf (a'.put (xm l e) (S.val e (bp e)))) (gq l s) a
theorem lE.pD {o:Oper} {v:Value} {a:Act} {k:Nat} (az:Bk k= false) (h:lE P ops C o v a):lE P ops (pD C k) o v a:=by
 have e:Go.G9.pD C k= C:=by
  funext w;unfold Go.G9.pD;rw [az];exact propext ⟨fun h=>h.resolve_left (by decide),.inr⟩
 rw [e];exact h
theorem yd {l:List Oper} {X:Act→Prop} {R:List (Nat×Nat)→Act→Prop} {kk:Nat} {r:List (Nat×Nat)}
  (bL:∀(i:Nat) (r:List (Nat×Nat)) (a:Act),(∃dS v,l.toArray[i]? =some dS∧lE P l.toArray C dS v a∧R r (a.put dS.dst v))→R ((i,kk) ::r) a) (aQ:∀a,X a→R r a):
  ∀(s:List Nat) (a:Act),(∀i ∈ s,i < l.length∧pW l.toArray i= true)→wpQuiet P l.toArray C X (gq l s) a→R (s.map (·,kk) ++ r) a
 | [],a,_,h=>aQ a h
 | i ::s,a,aX,h=>by
  have hi:=aX i (by simp)
  have aO:gq l (i ::s)= l[i]'hi.1 ::gq l s:=by simp [gq,hi.1]
  rw [aO] at h
  have h1:l.toArray[i]? =some (l[i]'hi.1):=by simp [hi.1]
  have du:qOp P l.toArray C i (wpQuiet P l.toArray C X (gq l s)) a:=by
   unfold qOp;simp only [h1];exact h
  obtain⟨v,hy,gj⟩:=yieldsIn_of_qOp h1 du
  have az:wJ (l[i]'hi.1).op= true:=by have:=hi.2;simpa [pW,h1] using this
  exact bL i _ a ⟨_,v,h1,YieldsIn.Qt az hy,yd bL aQ s _ (fun j bH=>aX j (by simp [bH])) gj⟩
theorem SA {l:List Oper}:∀(r:List (List Nat×Nat)) (cf:List Nat) (a:Act) (w:World),(∀x ∈ ig 2 3 r cf,x.1 < l.length∧(x.2= 3∨pW l.toArray x.1= true))→vy P l C Q r cf a w→gB P l.toArray C Q (ig 2 3 r cf) a w
 | [],cf,a,w,aS,h=>by
  have:=yd (P:=P) (C:=C) (l:=l) (R:=fun r a=>gB P l.toArray C Q r a w) (kk:=2) (r:=[]) (fun i r a h=>by
   obtain⟨dS,v,h1,h2,h3⟩:=h
   simp only [gB];rw [if_neg (by decide),if_neg (by decide)];exact⟨dS,v,h1,h2.pD rfl,h3⟩) (fun a h=>h) cf a (fun i hi=>by
   have:=aS (i,2) (by simp [ig,hi]);exact⟨this.1,this.2.resolve_left (by simp)⟩) h
  simpa [ig] using this
 | (s,e) ::r,cf,a,w,aS,h=>by
  refine yd (P:=P) (C:=C) (l:=l) (R:=fun r a=>gB P l.toArray C Q r a w) (kk:=2) (fun i r a h=>by
   obtain⟨dS,v,h1,h2,h3⟩:=h
   simp only [gB];rw [if_neg (by decide),if_neg (by decide)];exact⟨dS,v,h1,h2.pD rfl,h3⟩) (fun a' du=>?_) s a (fun i hi=>by
   have:=aS (i,2) (by simp [ig,hi]);exact⟨this.1,this.2.resolve_left (by simp)⟩) h
  have he:e < l.length:=(aS (e,3) (by simp [ig])).1
  have aO:gq l [e]= [l[e]]:=by simp [gq,he]
  rw [aO] at du
  simp only [gB,if_true]
  unfold wpOp
  have h1:l.toArray[e]? =some l[e]:=by simp [he]
  simp only [h1]
  unfold wpList at du
  have iZ:∀eY eI,wpList P l.toArray (hQ fun eY eI=>C eI∧vy P l C Q r cf eY eI) [] eY eI→C eI∧gB P l.toArray C Q (ig 2 3 r cf) eY eI:=fun eY eI h2=>
   ⟨h2.2.1,SA r cf eY eI (fun x ay=>aS x (by simp [ig,ay])) h2.2.2⟩
  exact KT
theorem Mf {l:List Oper} {S:lC α} {bp:Nat→α} {F HZ:Act→Prop} (ai:∀a,F a→HZ a):∀(r:List (List Nat×Nat)) (cf:List Nat) (a:Act),(∀x ∈ ig 0 1 r cf,x.1 < l.length∧(x.2= 1∨pW l.toArray x.1= true))→wP P l C S bp F r cf a→lS P l.toArray C Q S bp HZ (ig 0 1 r cf) a
 | [],cf,a,aS,h=>by
  have:=yd (P:=P) (C:=C) (l:=l) (R:=fun r a=>lS P l.toArray C Q S bp HZ r a) (kk:=0) (r:=[]) (fun i r a h=>by
   obtain⟨dS,v,h1,h2,h3⟩:=h
   simp only [lS];rw [if_neg (by decide)];exact⟨dS,v,h1,h2.pD rfl,h3⟩) (fun a h=>ai a h) cf a (fun i hi=>by
   have:=aS (i,0) (by simp [ig,hi]);exact⟨this.1,this.2.resolve_left (by simp)⟩) h
  simpa [ig] using this
 | (s,e) ::r,cf,a,aS,h=>by
  refine yd (P:=P) (C:=C) (l:=l) (R:=fun r a=>lS P l.toArray C Q S bp HZ r a) (kk:=0) (fun i r a h=>by
   obtain⟨dS,v,h1,h2,h3⟩:=h
   simp only [lS];rw [if_neg (by decide)];exact⟨dS,v,h1,h2.pD rfl,h3⟩) (fun a' du=>?_) s a (fun i hi=>by
   have:=aS (i,0) (by simp [ig,hi]);exact⟨this.1,this.2.resolve_left (by simp)⟩) h
  have he:e < l.length:=(aS (e,1) (by simp [ig])).1
  have aO:gq l [e]= [l[e]]:=by simp [gq,he]
  have bO:xm l e= (l[e]).dst:=by unfold xm;simp [he]
  rw [aO,bO] at du
  simp only [lS,if_true]
  have h1:l.toArray[e]? =some l[e]:=by simp [he]
  refine⟨l[e],h1,fun W eU fQ L jq=>?_,Mf ai r cf _ (fun x ay=>aS x (by simp [ig,ay])) du.2⟩
  have h2:=du.1 W eU fQ
  unfold wpList at h2
  unfold wpOp
  simp only [h1]
  have iZ:∀eY eI,wpList P l.toArray (hQ fun eY eE=>∃p,eY= a'.put (l[e]).dst (S.val e p)∧Below W W eE∧S.post e (rp (S.par e) bp) p W eE) [] eY eI→L eY eI:=fun eY eI h3=>by
   obtain⟨_,p,rfl,aB,aZ⟩:=h3
   exact jq _ _ ⟨p,rfl,aB,aZ⟩
  split
  ·rename_i hw
   simp only [hw,if_true] at h2
   exact h2.elim (fun h3=> .inl (Oper.QB iZ h3)) (fun h3=>absurd h3.2 yF)
  ·rename_i hw
   simp only [hw] at h2
   exact iZ _ _ h2
theorem Bc {dY eB:Nat}:∀(r:List (List Nat×Nat)) (cf:List Nat),∀x ∈ ig dY eB r cf,x.2= dY∨(x.2= eB∧x.1 ∈ r.map (·.2))
 | [],cf,x,ay=>by
  simp [ig] at ay
  obtain⟨_,_,rfl⟩:=ay
  exact .inl rfl
 | (s,e) ::r,cf,x,ay=>by
  simp only [ig,List.mem_append,List.mem_cons,List.mem_map] at ay
  rcases ay with ⟨_,_,rfl⟩ | rfl | ay
  ·exact .inl rfl
  ·exact .inr ⟨rfl,by simp⟩
  ·rcases Bc r cf x ay with h | ⟨h,h2⟩
   ·exact .inl h
   ·exact .inr ⟨h,by simp only [List.map_cons,List.mem_cons];exact .inr h2⟩
theorem Hj {dY eB:Nat}:∀(r:List (List Nat×Nat)) (cf:List Nat),∀m ∈ r.map (·.2),(m,eB) ∈ ig dY eB r cf
 | [],_,m,hm=>by simp at hm
 | (s,e) ::r,cf,m,hm=>by
  simp only [List.map_cons,List.mem_cons] at hm
  simp only [ig,List.mem_append,List.mem_cons]
  rcases hm with rfl | hm
  ·exact .inr (.inl rfl)
  ·exact .inr (.inr (Hj r cf m hm))
theorem iL {l:List Oper} {S:lC α} {bp:Nat→α} {F:Act→Prop} {s cf:List Nat} {e:Nat} {r:List (List Nat×Nat)} {a:Act} (D:Option Tmp) (yW:xm l e= D) (v:Value) (aw:S.val e (bp e)= v)
  (h:∀K:Act→Prop,(∀a',wP P l (fun ag=>∃k:cN C,ag= k.world) S bp F r cf (a'.put D v)→K a')→wpQuiet P l.toArray (fun ag=>∃k:cN C,ag= k.world) (fun a'=>
   (∀k:cN C,(∀m ∈ S.par e,EI S bp m k.world)→wpList P l.toArray (hQ fun eY eE=>∃p,eY= a'.put D (S.val e p)∧Below k.world.heap.size k.world eE∧S.post e (rp (S.par e) bp) p k.world eE) (gq l [e]) a' k.world)∧K a') (gq l s) a):
  wP P l (fun ag=>∃k:cN C,ag= k.world) S bp F ((s,e) ::r) cf a:=by
 subst yW aw
 have H:=h _ (fun _ h=>h);have e1:(fun a':Act=>(∀W,(∃k:cN C,W= k.world)→(∀m ∈ S.par e,EI S bp m W)→wpList P l.toArray (hQ fun eY eE=>∃p,eY= a'.put (xm l e) (S.val e p)∧Below W W eE∧S.post e (rp (S.par e) bp) p W eE) (gq l [e]) a' W)∧wP P l (fun ag=>∃k:cN C,ag= k.world) S bp F r cf (a'.put (xm l e) (S.val e (bp e))))
   =fun a'=>(∀k:cN C,(∀m ∈ S.par e,EI S bp m k.world)→wpList P l.toArray (hQ fun eY eE=>∃p,eY= a'.put (xm l e) (S.val e p)∧Below k.world.heap.size k.world eE∧S.post e (rp (S.par e) bp) p k.world eE) (gq l [e]) a' k.world)∧wP P l (fun ag=>∃k:cN C,ag= k.world) S bp F r cf (a'.put (xm l e) (S.val e (bp e))):=by
  funext a'
  exact propext ⟨fun ⟨h1,h2⟩=>⟨fun k=>h1 _ ⟨k,rfl⟩,h2⟩,fun ⟨h1,h2⟩=>⟨fun W ⟨k,az⟩=>az ▸ h1 k,h2⟩⟩
 unfold wP
 rw [e1]
 exact H
theorem tW {l:List Oper} {S:lC α} {bp:Nat→α} {F:Act→Prop} {cf:List Nat} {a:Act} (h:wpQuiet P l.toArray C F (gq l cf) a):wP P l C S bp F [] cf a:=h
theorem ia {Y:Act→World→Prop} {a:Act} {w:World} (h:Y a w):hQ Y .normal a w:=⟨rfl,h⟩
theorem aaC {p:Prop} (h:p:=by
 have h1:=fo x (List.mem_append_left _ ay);have h2:=iR x (List.mem_append_left _ ay)
 refine⟨by simpa using h1,?_⟩
 rcases Bc dJ s1 x ay with h3 | ⟨h3,_⟩
 ·right;simpa [h3] using h2
 ·exact .inl h3):p:=h
theorem Rb {p:Prop} (h:p:=by
 refine⟨dz,by simp,fun i hi=>?_,fun x ay=>fo x ay,Yi eu,fun x y he _=>by
  obtain⟨o,cY,_⟩:=IY.1 he
  have hy:=(Array.getElem?_eq_some_iff.1 cY).1
  have ako:y < l.length:=by simpa using hy
  simp [Array.getD_eq_getD_getElem?,ako]⟩
 have h1:=ib i (List.mem_range.2 hi)
 rw [List.any_eq_true] at h1
 obtain⟨x,ay,akn⟩:=h1
 refine⟨fun _=>⟨x.2,?_⟩,fun _=>?_⟩
 ·have:x.1= i:=by simpa using akn
  rw [← this];exact ay
 ·have:i < l.length:=by simpa using hi
  simp [Array.getD_eq_getD_getElem?,this]):p:=h
theorem QP {p:Prop} (h:p:=by
 rw [uB] at H
 have mF:(Code.region id l.toArray true).wp P (hQ fun a' ag=>Q .normal a' ag) a w:=wp_region_any hm H
 exact Code.wp_mono (fun e a w h=>by obtain⟨rfl,h⟩:=h;exact h) mF):p:=h
theorem BC {id:Nat} {Q:Exit→Act→World→Prop} {a:Act} {w:World} {l:List Oper} (S:lC α) (C:World→Prop) (dJ:List (List Nat×Nat)) (s1:List Nat) (r2:List (List Nat×Nat)) (s2:List Nat) (hm:P.follows .mixedOrders= true)
  (bm:XG .any l.toArray S.par dJ s1 r2 s2= true) (eU:C w.drew) (iS:∀W eE,C W→Below W W eE→C eE)
  (h:∀bp:Nat→α,wP P l (fun ag=>∃k:cN C,ag= k.world) S bp (fun a'=>∀cW V W,Made S w.drew (dJ.map (·.2)) bp cW V W→C W→vy P l (fun ag=>∃k:cN C,ag= k.world) (fun a' ag=>Q .normal a' ag) r2 s2 a' W) dJ s1 a):(Code.region id l.toArray true).wp P Q a w:=by
 simp only [XG,Bool.and_eq_true,List.all_eq_true,decide_eq_true_eq] at bm
 obtain⟨⟨⟨⟨⟨⟨⟨⟨dx,dz⟩,eu⟩,fo⟩,ib⟩,iR⟩,gh⟩,vT⟩,uB⟩:=bm
 have OM:∀W eE,cls C W→Below W W eE→cls C eE:=fun W eE ⟨k,az⟩ aB=>⟨⟨eE,iS W eE (az ▸ k.holds) aB⟩,rfl⟩
 have uV:∀x ∈ ig 0 1 dJ s1,x.1 < l.length∧(x.2= 1∨pW l.toArray x.1= true):=fun x ay=>by
  exact aaC
 have lJ:∀x ∈ ig 2 3 r2 s2,x.1 < l.length∧(x.2= 3∨pW l.toArray x.1= true):=fun x ay=>by
  have h1:=fo x (List.mem_append_right _ ay);have h2:=iR x (List.mem_append_right _ ay)
  refine⟨by simpa using h1,?_⟩
  rcases Bc r2 s2 x ay with h3 | ⟨h3,_⟩
  ·right;simpa [h3] using h2
  ·exact .inl h3
 have qY:∀m ∈ dJ.map (·.2),∀k,(m,k) ∈ ig 0 1 dJ s1 ++ ig 2 3 r2 s2→(m,k) ∈ ig 0 1 dJ s1∧k= 1:=by
  intro m hm k az
  have h1:=vT _ az;have aE:(dJ.map (·.2)).contains m= true:=List.contains_iff_mem.2 hm
  simp only [aE,Bool.not_true,Bool.false_or,beq_iff_eq] at h1
  refine⟨?_,h1⟩
  rcases List.mem_append.1 az with h2 | h2
  ·exact h2
  ·exfalso
   rcases Bc r2 s2 _ h2 with h3 | ⟨h3,_⟩ <;> simp at h3 <;> omega
 have xB:Fit .any l.toArray (ig 0 1 dJ s1 ++ ig 2 3 r2 s2) (Array.replicate l.toArray.size false):=by
  exact Rb
 have H:=aap (P:=P) (md:= .any) (ops:=l.toArray) (C:=cls C) (Q:=fun a' ag=>Q .normal a' ag) (S:=S) (w0:=w.drew) (r2:=ig 2 3 r2 s2) (ms:=dJ.map (·.2)) dx OM
  (fun e he m hm=>by
   have h1:=gh e he m hm
   exact⟨List.contains_iff_mem.1 h1.1,h1.2⟩)
  (fun x ay=>by
   rcases Bc r2 s2 x ay with h | ⟨h,_⟩
   ·exact .inl h
   ·exact .inr (.inl h))
  _ (ig 0 1 dJ s1) _ a w.drew (fun _=>default) (fun _=>w) (fun _=>w) rfl (fun x ay=>(Bc dJ s1 x ay).imp_right .inr) xB qY ⟨⟨_,eU⟩,rfl⟩ (Below.refl _ _)
  (by
   have:((dJ.map (·.2)).filter fun m=>decide ((m,1) ∉ ig 0 1 dJ s1))= []:=by
    rw [List.filter_eq_nil_iff]
    intro m hm
    simp [Hj dJ s1 m hm]
   rw [this]
   exact⟨fun m h=>(by cases h),fun m h=>(by cases h),fun m h=>(by cases h),fun m h=>(by cases h),fun m h=>(by cases h)⟩)
  (fun m hm aY=>absurd (Hj dJ s1 m hm) aY)
  (fun bp _=>Mf (fun a' ai cW V W aW ⟨k,Nh⟩=>SA r2 s2 a' W lJ (ai cW V W aW (by rw [Nh];exact k.holds))) dJ s1 a uV (h bp))
 exact QP
theorem lE.mono {o:Oper} {v:Value} {a:Act} {Rs Rt:World→Prop} (aX:∀w,Rt w→Rs w) (h:lE P ops Rs o v a):lE P ops Rt o v a:=by
 rcases h with ⟨h1,h2⟩ | h
 ·exact .inl ⟨h1,fun w hw=>h2 w (aX w hw)⟩
 ·exact .inr h
def IJ:World→Prop:=fun ag=>∃k:cN (fun _=>True),ag= k.world
def lv:List (List Nat×List Nat×Nat×Bool)→List Nat→List Nat→List (Nat×Nat)
 | [],s,p=>s.map (·,2) ++ p.map (·,4)
 | (s,p,e,d) ::r,cf,dv=>s.map (·,2) ++ (p.map (·,4) ++ (e,if d= true then 5 else 3) ::lv r cf dv)
def Ca (d:Bool) (C:World→Prop) (w:World):Prop:=d= false→C w
def wQ (P:Program) (l:List Oper) (C:World→Prop) (Q:Act→World→Prop):List (List Nat×List Nat×Nat×Bool)→List Nat→List Nat→Act→World→Prop
 | [],s,p,a,w=>wpQuiet P l.toArray C (fun a'=>wpQuiet P l.toArray IJ (fun eY=>Q eY w) (gq l p) a') (gq l s) a
 | (s,p,e,d) ::r,cf,dv,a,w=>wpQuiet P l.toArray C (fun a'=>wpQuiet P l.toArray IJ (fun eY=>wpList P l.toArray (hQ fun eY eI=>Ca d C eI∧wQ P l C Q r cf dv eY eI) (gq l [e]) eY w) (gq l p) a') (gq l s) a
theorem Mg {l:List Oper}:∀(r:List (List Nat×List Nat×Nat×Bool)) (cf dv:List Nat) (a:Act) (w:World),(∀x ∈ lv r cf dv,x.1 < l.length∧(x.2= 3∨x.2= 5∨pW l.toArray x.1= true))→wQ P l C Q r cf dv a w→gB P l.toArray C Q (lv r cf dv) a w
 | [],cf,dv,a,w,aS,h=>by
  refine yd (P:=P) (C:=C) (l:=l) (R:=fun r a=>gB P l.toArray C Q r a w) (kk:=2) (fun i r a h=>by
   obtain⟨dS,v,h1,h2,h3⟩:=h
   simp only [gB];rw [if_neg (by decide),if_neg (by decide)];exact⟨dS,v,h1,h2.pD rfl,h3⟩) (fun a' du=>?_) cf a (fun i hi=>by
   have:=aS (i,2) (by simp [lv,hi]);exact⟨this.1,(this.2.resolve_left (by simp)).resolve_left (by simp)⟩) h
  have:=yd (P:=P) (C:=IJ) (l:=l) (R:=fun r a=>gB P l.toArray C Q r a w) (kk:=4) (r:=[]) (fun i r a h=>by
   obtain⟨dS,v,h1,h2,h3⟩:=h
   simp only [gB];rw [if_neg (by decide),if_neg (by decide)];exact⟨dS,v,h1,h2.mono (fun w _=>⟨⟨w,trivial⟩,rfl⟩),h3⟩) (fun a h=>h) dv a' (fun i hi=>by
   have:=aS (i,4) (by simp [lv,hi]);exact⟨this.1,(this.2.resolve_left (by simp)).resolve_left (by simp)⟩) du
  simpa using this
 | (s,p,e,d) ::r,cf,dv,a,w,aS,h=>by
  refine yd (P:=P) (C:=C) (l:=l) (R:=fun r a=>gB P l.toArray C Q r a w) (kk:=2) (fun i r a h=>by
   obtain⟨dS,v,h1,h2,h3⟩:=h
   simp only [gB];rw [if_neg (by decide),if_neg (by decide)];exact⟨dS,v,h1,h2.pD rfl,h3⟩) (fun a' du=>?_) s a (fun i hi=>by
   have:=aS (i,2) (by simp [lv,hi]);exact⟨this.1,(this.2.resolve_left (by simp)).resolve_left (by simp)⟩) h
  refine yd (P:=P) (C:=IJ) (l:=l) (R:=fun r a=>gB P l.toArray C Q r a w) (kk:=4) (fun i r a h=>by
   obtain⟨dS,v,h1,h2,h3⟩:=h
   simp only [gB];rw [if_neg (by decide),if_neg (by decide)];exact⟨dS,v,h1,h2.mono (fun w _=>⟨⟨w,trivial⟩,rfl⟩),h3⟩) (fun a' du=>?_) p a' (fun i hi=>by
   have:=aS (i,4) (by simp [lv,hi]);exact⟨this.1,(this.2.resolve_left (by simp)).resolve_left (by simp)⟩) du
  have he:e < l.length:=(aS (e,if d= true then 5 else 3) (by simp [lv])).1
  have aO:gq l [e]= [l[e]]:=by simp [gq,he]
  rw [aO] at du
  have h1:l.toArray[e]? =some l[e]:=by simp [he]
  have Wa:∀eY eI,wQ P l C Q r cf dv eY eI→gB P l.toArray C Q (lv r cf dv) eY eI:=fun eY eI h2=>Mg r cf dv eY eI (fun x ay=>aS x (by simp [lv,ay])) h2
  unfold wpList at du
  cases d with
  | false=>
   simp only [gB,Bool.false_eq_true,if_false,if_true]
   unfold wpOp
   simp only [h1]
   have iZ:∀eY eI,wpList P l.toArray (hQ fun eY eI=>Ca false C eI∧wQ P l C Q r cf dv eY eI) [] eY eI→C eI∧gB P l.toArray C Q (lv r cf dv) eY eI:=fun eY eI h2=>
    ⟨h2.2.1 rfl,Wa _ _ h2.2.2⟩
   exact KT
  | true=>
   simp only [gB,if_true]
   rw [if_neg (by decide)]
   unfold wpOp
   simp only [h1]
   have iZ:∀eY eI,wpList P l.toArray (hQ fun eY eI=>Ca true C eI∧wQ P l C Q r cf dv eY eI) [] eY eI→gB P l.toArray C Q (lv r cf dv) eY eI:=fun eY eI h2=>
    Wa _ _ h2.2.2
   exact KT
theorem XU:∀(r:List (List Nat×List Nat×Nat×Bool)) (cf dv:List Nat),∀x ∈ lv r cf dv,x.2≠1∧x.2≤6
 | [],cf,dv,x,ay=>by
  simp [lv] at ay
  rcases ay with ⟨_,_,rfl⟩ | ⟨_,_,rfl⟩ <;> simp
 | (s,p,e,d) ::r,cf,dv,x,ay=>by
  simp only [lv,List.mem_append,List.mem_cons,List.mem_map] at ay
  rcases ay with ⟨_,_,rfl⟩ | ⟨_,_,rfl⟩ | rfl | ay
  ·simp
  ·simp
  ·cases d <;> simp
  ·exact XU r cf dv x ay
def XT (md:Region.Mode) (ops:Array Oper) (r:List (List Nat×List Nat×Nat×Bool)) (s p:List Nat):Bool:=
 let o:=lv r s p
 Region.noSelect ops && HM md ops && DB md ops o && o.all (fun x=>decide (x.1 < ops.size)) && (List.range ops.size).all (fun i=>o.any fun x=>x.1 == i) &&
  o.all (fun x=>x.2 == 3 || x.2 == 5 || pW ops x.1) && decide (o.length= ops.size)
theorem KR {id:Nat} {Q:Exit→Act→World→Prop} {a:Act} {w:World} {l:List Oper} (C:World→Prop) (r:List (List Nat×List Nat×Nat×Bool)) (s p:List Nat) (hm:P.follows .mixedOrders= true)
  (bm:XT .any l.toArray r s p= true) (eU:C w.drew)
  (h:wQ P l (fun ag=>∃k:cN C,ag= k.world) (fun a' ag=>Q .normal a' ag) r s p a w.drew):(Code.region id l.toArray true).wp P Q a w:=by
 simp only [XT,Bool.and_eq_true,List.all_eq_true,decide_eq_true_eq] at bm
 obtain⟨⟨⟨⟨⟨⟨dx,dz⟩,eu⟩,fo⟩,ib⟩,iR⟩,uB⟩:=bm
 have xB:Fit .any l.toArray (lv r s p) (Array.replicate l.toArray.size false):=by
  exact Rb
 have az:∀x ∈ lv r s p,x.1 < l.length∧(x.2= 3∨x.2= 5∨pW l.toArray x.1= true):=fun x ay=>by
  have h1:=fo x ay;have h2:=iR x ay
  refine⟨by simpa using h1,?_⟩
  simpa [or_assoc] using h2
 have H:=DS (P:=P) (md:= .any) (ops:=l.toArray) (C:=fun ag=>∃k:cN C,ag= k.world) (Q:=fun a' ag=>Q .normal a' ag) dx _ (lv r s p) _ a w.drew rfl (XU r s p) xB (.inr ⟨⟨_,eU⟩,rfl⟩) (Mg r s p a w.drew az h)
 exact QP
theorem qx {l:List Oper} {s p cf dv:List Nat} {e:Nat} {d:Bool} {r:List (List Nat×List Nat×Nat×Bool)} {a:Act} {w:World}
  (h:∀K:Act→World→Prop,(∀a w,wQ P l C Q r cf dv a w→K a w)→wpQuiet P l.toArray C (fun a'=>wpQuiet P l.toArray (fun ag=>∃k:cN (fun _=>True),ag= k.world) (fun eY=>wpList P l.toArray (hQ fun eY eI=>Ca d C eI∧K eY eI) (gq l [e]) eY w) (gq l p) a') (gq l s) a):wQ P l C Q ((s,p,e,d) ::r) cf dv a w:=
 h _ (fun _ _ h=>h)
theorem BB {l:List Oper} {cf dv:List Nat} {a:Act} {w:World} (h:wpQuiet P l.toArray C (fun a'=>wpQuiet P l.toArray (fun ag=>∃k:cN (fun _=>True),ag= k.world) (fun eY=>Q eY w) (gq l dv) a') (gq l cf) a):wQ P l C Q [] cf dv a w:=h
theorem Ai {C:World→Prop} {K:Act→World→Prop} {a:Act} {w:World} (eU:C w) (h:K a w):hQ (fun eY eI=>Ca false (fun ag=>∃k:cN C,ag= k.world) eI∧K eY eI) .normal a w:=⟨rfl,fun _=>⟨⟨w,eU⟩,rfl⟩,h⟩
theorem Ah {X:World→Prop} {K:Act→World→Prop} {a:Act} {w:World} (h:K a w):hQ (fun eY eI=>Ca true X eI∧K eY eI) .normal a w:=⟨rfl,fun h=>(by cases h),h⟩
end
open Go.RowKit
section
variable {P:Program} {ops:Array Oper} {md:Region.Mode} {C:World→Prop} {α:Type} [Inhabited α]
def XK (md:Region.Mode) (ops:Array Oper) (par:Nat→List Nat) (dJ:List (List Nat×Nat)) (s1:List Nat) (r2:List (List Nat×List Nat×Nat×Bool)) (s2 dj:List Nat):Bool:=
 let hU:=ig 0 1 dJ s1;let fk:=lv r2 s2 dj;let ms:=dJ.map (·.2)
 Region.noSelect ops && HM md ops && DB md ops (hU ++ fk) && (hU ++ fk).all (fun x=>decide (x.1 < ops.size)) && (List.range ops.size).all (fun i=>(hU ++ fk).any fun x=>x.1 == i) &&
  (hU ++ fk).all (fun x=>x.2 == 1 || x.2 == 3 || x.2 == 5 || pW ops x.1) && ms.all (fun e=>(par e).all fun m=>ms.contains m && tp md ops e m) && (hU ++ fk).all (fun x=>!(ms.contains x.1) || x.2 == 1) &&
  decide (hU.length + fk.length= ops.size)
theorem Kb:∀(r:List (List Nat×List Nat×Nat×Bool)) (cf dv:List Nat),∀x ∈ lv r cf dv,x.2= 2∨x.2= 3∨x.2= 4∨x.2= 5
 | [],cf,dv,x,ay=>by
  simp [lv] at ay
  rcases ay with ⟨_,_,rfl⟩ | ⟨_,_,rfl⟩ <;> simp
 | (s,p,e,d) ::r,cf,dv,x,ay=>by
  simp only [lv,List.mem_append,List.mem_cons,List.mem_map] at ay
  rcases ay with ⟨_,_,rfl⟩ | ⟨_,_,rfl⟩ | rfl | ay
  ·simp
  ·simp
  ·cases d <;> simp
  ·exact Kb r cf dv x ay
theorem HQ {id:Nat} {Q:Exit→Act→World→Prop} {a:Act} {w:World} {l:List Oper} (S:lC α) (C:World→Prop) (dJ:List (List Nat×Nat)) (s1:List Nat) (r2:List (List Nat×List Nat×Nat×Bool)) (s2 dj:List Nat) (hm:P.follows .mixedOrders= true)
  (bm:XK .any l.toArray S.par dJ s1 r2 s2 dj= true) (eU:C w.drew) (iS:∀W eE,C W→Below W W eE→C eE)
  (h:∀bp:Nat→α,wP P l (fun ag=>∃k:cN C,ag= k.world) S bp (fun a'=>∀cW V W,Made S w.drew (dJ.map (·.2)) bp cW V W→C W→wQ P l (fun ag=>∃k:cN C,ag= k.world) (fun a' ag=>Q .normal a' ag) r2 s2 dj a' W) dJ s1 a):(Code.region id l.toArray true).wp P Q a w:=by
 simp only [XK,Bool.and_eq_true,List.all_eq_true,decide_eq_true_eq] at bm
 obtain⟨⟨⟨⟨⟨⟨⟨⟨dx,dz⟩,eu⟩,fo⟩,ib⟩,iR⟩,gh⟩,vT⟩,uB⟩:=bm
 have OM:∀W eE,cls C W→Below W W eE→cls C eE:=fun W eE ⟨k,az⟩ aB=>⟨⟨eE,iS W eE (az ▸ k.holds) aB⟩,rfl⟩
 have uV:∀x ∈ ig 0 1 dJ s1,x.1 < l.length∧(x.2= 1∨pW l.toArray x.1= true):=fun x ay=>by
  exact aaC
 have lJ:∀x ∈ lv r2 s2 dj,x.1 < l.length∧(x.2= 3∨x.2= 5∨pW l.toArray x.1= true):=fun x ay=>by
  have h1:=fo x (List.mem_append_right _ ay);have h2:=iR x (List.mem_append_right _ ay)
  refine⟨by simpa using h1,?_⟩
  have h3:=Kb r2 s2 dj x ay
  have h4:x.2≠1:=by omega
  simpa [h4,or_assoc] using h2
 have qY:∀m ∈ dJ.map (·.2),∀k,(m,k) ∈ ig 0 1 dJ s1 ++ lv r2 s2 dj→(m,k) ∈ ig 0 1 dJ s1∧k= 1:=by
  intro m hm k az
  have h1:=vT _ az;have aE:(dJ.map (·.2)).contains m= true:=List.contains_iff_mem.2 hm
  simp only [aE,Bool.not_true,Bool.false_or,beq_iff_eq] at h1
  refine⟨?_,h1⟩
  rcases List.mem_append.1 az with h2 | h2
  ·exact h2
  ·exfalso
   have h3:=Kb r2 s2 dj _ h2
   simp only at h3;omega
 have xB:Fit .any l.toArray (ig 0 1 dJ s1 ++ lv r2 s2 dj) (Array.replicate l.toArray.size false):=by
  exact Rb
 have H:=aap (P:=P) (md:= .any) (ops:=l.toArray) (C:=cls C) (Q:=fun a' ag=>Q .normal a' ag) (S:=S) (w0:=w.drew) (r2:=lv r2 s2 dj) (ms:=dJ.map (·.2)) dx OM
  (fun e he m hm=>by
   have h1:=gh e he m hm
   exact⟨List.contains_iff_mem.1 h1.1,h1.2⟩)
  (fun x ay=>Kb r2 s2 dj x ay)
  _ (ig 0 1 dJ s1) _ a w.drew (fun _=>default) (fun _=>w) (fun _=>w) rfl (fun x ay=>(Bc dJ s1 x ay).imp_right .inr) xB qY ⟨⟨_,eU⟩,rfl⟩ (Below.refl _ _)
  (by
   have:((dJ.map (·.2)).filter fun m=>decide ((m,1) ∉ ig 0 1 dJ s1))= []:=by
    rw [List.filter_eq_nil_iff]
    intro m hm
    simp [Hj dJ s1 m hm]
   rw [this]
   exact⟨fun m h=>(by cases h),fun m h=>(by cases h),fun m h=>(by cases h),fun m h=>(by cases h),fun m h=>(by cases h)⟩)
  (fun m hm aY=>absurd (Hj dJ s1 m hm) aY)
  (fun bp _=>Mf (fun a' ai cW V W aW ⟨k,Nh⟩=>Mg r2 s2 dj a' W lJ (ai cW V W aW (by rw [Nh];exact k.holds))) dJ s1 a uV (h bp))
 exact QP
end
end Go.G9
namespace Go.Proofs.YtlaaemmmbodaaaaGreatDoor
open Go.RowKit Go.G9
def fc (n a b:Int):Bool:=decide (a≤n) && decide (n≤b)
theorem rM {n a b:Int}:fc n a b= true↔a≤n∧n≤b:=by simp [fc]
def tD (l:List UInt8):Bool:=l.all fun c=>decide (97≤c.toNat) && decide (c.toNat≤122)
def wO (s:ByteArray):Bool:=tD s.data.toList && fc s.size 1 10
theorem jj (n a b:Int) (v:Bool) (aw:fc n a b= v) (w:World):Calls Tryz.prog 79 #[n,a,b] w fun e ag=>e= .returned v∧ag= w:=by
 subst aw
 go_in
 go_wp2
 all_goals go_ret;exact⟨by simp [fc, *] <;> omega,rfl⟩
theorem jF (n a b:Int) (v:Bool) (aw:fc n a b= v) (w:World):Calls Tryz.prog 186 #[n,a,b] w fun e ag=>e= .returned v∧ag= w:=by
 subst aw
 go_in
 go_wp2
 all_goals go_ret;exact⟨by simp [fc, *] <;> omega,rfl⟩
theorem Xr (s:ByteArray) (k:Nat) (h:k < s.size):tD (s.data.toList.take (k+1))= (tD (s.data.toList.take k) && (decide (97≤s[k].toNat) && decide (s[k].toNat≤122))):=by
 unfold tD
 rw [List.take_succ_eq_append_getElem (by simpa using h),List.all_append];simp;rfl
theorem Xq (s:ByteArray) (k:Nat) (h:k < s.size) (h1:(decide (97≤s[k].toNat) && decide (s[k].toNat≤122))= false):tD s.data.toList= false:=by
 have:tD s.data.toList= (tD (s.data.toList.take (k+1)) && tD (s.data.toList.drop (k+1))):=by
  unfold tD;rw [← List.all_append,List.take_append_drop]
 rw [this,Xr s k h,h1];simp
theorem acS {p:Prop} (h:p:=by
 by_cases h1:s[k].toNat < 97
 ·go_wp2
  go_ret
  exact⟨by simp [wO,Xq s k bl (by simp;omega)],rfl⟩
 ·by_cases h2:122 < s[k].toNat
  ·go_wp2
   go_ret
   exact⟨by simp [wO,Xq s k bl (by simp;omega)],rfl⟩
  ·go_wp2
   go_round
   case rel=>exact⟨k + 1,by omega,by go_num,by rw [Xr s k bl,cH.out];simp;omega⟩
   case measure=>simp [intOf];omega):p:=h
theorem abN {p:Prop} (h:p:=by
 go_ret
 have:=cH.out
 rw [List.take_of_length_le (by simp)] at this
 exact⟨by simp [wO,this],rfl⟩):p:=h
theorem alW (s:ByteArray) (aX:s.size≤maxLen) (v:Bool) (aw:wO s= v) (w:World):Calls Tryz.prog 281 #[s] w fun e ag=>e= .returned v∧ag= w:=by
 subst aw
 unfold maxLen at aX
 go_in
 go_wp2
 go_loop [3] (fun i=>∃k:Nat,k≤s.size∧i= .int .i64 k∧tD (s.data.toList.take k)= true) (fun i=>s.size - (intOf i).toNat)
 case atStart=>exact⟨0,Nat.zero_le _,rfl,rfl⟩
 case round=>
  obtain⟨k,az,rfl,aS⟩:=hrel
  have cH:=J aS;clear aS
  by_cases bl:k < s.size
  ·exact acS
  ·obtain rfl:k= s.size:=by omega
   go_wp2_with (go_at_call 79;refine (jj _ _ _ _ rfl _).mono ?_;rintro e ag ⟨rfl,rfl⟩)
   exact abN
theorem amv (s:ByteArray) (aX:s.size≤maxLen) (v:Bool) (aw:wO s= v) (w:World):Calls Tryz.prog 283 #[s] w fun e ag=>e= .returned v∧ag= w:=by
 subst aw
 unfold maxLen at aX
 go_in
 go_wp2
 go_loop [3] (fun i=>∃k:Nat,k≤s.size∧i= .int .i64 k∧tD (s.data.toList.take k)= true) (fun i=>s.size - (intOf i).toNat)
 case atStart=>exact⟨0,Nat.zero_le _,rfl,rfl⟩
 case round=>
  obtain⟨k,az,rfl,aS⟩:=hrel
  have cH:=J aS;clear aS
  by_cases bl:k < s.size
  ·exact acS
  ·obtain rfl:k= s.size:=by omega
   go_wp2_with (go_at_call 186;refine (jF _ _ _ _ rfl _).mono ?_;rintro e ag ⟨rfl,rfl⟩)
   exact abN
end Go.Proofs.YtlaaemmmbodaaaaGreatDoor
