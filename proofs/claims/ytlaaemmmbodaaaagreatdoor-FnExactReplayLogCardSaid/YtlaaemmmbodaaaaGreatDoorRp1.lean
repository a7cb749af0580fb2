/- Parts. -/
import Derived.Test.YtlaaemmmbodaaaaGreatDoorRp0
import Derived.Test.YtlaaemmmbodaaaaGreatDoorProg
import Derived.Lib.ItoaNum
import Derived.Ground.Names2Prog
import Derived.Ground.SlgfProg
import Derived.Shelf.LaysC
import Derived.Shelf.LaysM
import Derived.Shelf.Slices.SearchI
import Derived.Shelf.Slices.Turned
import Derived.Shelf.SlicesE.DeleteFunc
import Derived.Shelf.SlicesE.IndexFunc
import Derived.Shelf.Small.Wraps
import Derived.Shelf.Strconv.Atoi
import Derived.Shelf.Strconv.AtoiAll
import Derived.Shelf.Strconv.AtoiErrFast
import Derived.Shelf.Strconv.AtoiFail
import Derived.Shelf.Strconv.AtoiInnerAll
import Derived.Shelf.Strconv.AtoiLong
import Derived.Shelf.Strconv.Clone
import Derived.Shelf.Strconv.ErrVarAll
import Derived.Shelf.Strconv.Itoa0
import Derived.Shelf.Strconv.Itoa1
import Derived.Shelf.Strconv.Itoa2
import Derived.Shelf.Strconv.Itoa3
import Derived.Shelf.Strconv.Lower
import Derived.Shelf.Strconv.ParseInt10
import Derived.Shelf.Strconv.ParseIntEmpty
import Derived.Shelf.Strconv.ParseUint10
import Derived.Shelf.Strconv.ParseUint10Any
import Derived.Shelf.Strconv.ParseUint10Empty
import Derived.Shelf.Strconv.ParseUint10b16
import Derived.Shelf.Strconv.ParseUint10b32
import Derived.Shelf.Strconv.ParseUint10b64
import Derived.Shelf.Strconv.ParseUint10b8
import Derived.Shelf.Strconv.ParseUintEmpty
import Derived.Shelf.Strconv.RangeError
import Derived.Shelf.Strconv.SyntaxError
import Derived.Shelf.Strconv.ToError
import Derived.Shelf.Strconv.ToErrorRange
import Derived.Shelf.Strings.Builder1
import Derived.Shelf.Strings.Builder2
import Derived.Shelf.Strings.Count
import Derived.Shelf.Strings.Cut
import Derived.Shelf.Strings.Explode
import Derived.Shelf.Strings.OnBuilder
import Derived.Shelf.Strings.RuneCount
import Derived.Shelf.Strings.Search1
import Derived.Shelf.Strings.Search2
import Derived.Shelf.Strings.Search3
import Derived.Shelf.Strings.Shaped
import Derived.Shelf.Strings.Split
import Derived.Shelf.Strings.SplitShaped
import Derived.Shelf.Unicode.Decode
import Derived.Shelf.Unicode.DecodeAny
import Derived.Shelf.Unicode.DecodeSlow
import Derived.Shelf.Utf8.RuneCount
import Derived.Deep.Cut
import Derived.WalkSmall
import Derived.Lib.AtoiAllCases
import Derived.Lib.AtoiTie
import Derived.Lib.SlBytesRow
import Derived.BigRegion
import Derived.ChangeAlike
import Derived.Deep.RegionWith
import Derived.RegionTactic
import Derived.Maps.AppendAt
import Derived.Laws.CopyRow
import Derived.Lib.OwnBridge
import Derived.Lib.SlicesCompact
set_option maxHeartbeats 16000000
set_option maxRecDepth 100000
set_option linter.unnecessarySimpa false
set_option linter.unusedSimpArgs false
set_option linter.unusedVariables false
namespace Go.Proofs.YtlaaemmmbodaaaaGreatDoor
open Go.RowKit Go.G9
def eT (n a b:Int):Bool:=decide (a≤n) && decide (n≤b)
theorem qt {n a b:Int}:eT n a b= true↔a≤n∧n≤b:=by simp [eT]
def sk (l:List UInt8):Bool:=l.all fun c=>decide (97≤c.toNat) && decide (c.toNat≤122)
def vb (s:ByteArray):Bool:=sk s.data.toList && eT s.size 1 10
theorem iX (n a b:Int) (v:Bool) (ax:eT n a b= v) (w:World):Calls Tryz.prog 79 #[n,a,b] w fun e ah=>e= .returned v∧ah= w:=by
 subst ax
 go_in
 go_wp2
 all_goals go_ret;exact⟨by simp [eT, *] <;> omega,rfl⟩
theorem jq (n a b:Int) (v:Bool) (ax:eT n a b= v) (w:World):Calls Tryz.prog 186 #[n,a,b] w fun e ah=>e= .returned v∧ah= w:=by
 subst ax
 go_in
 go_wp2
 all_goals go_ret;exact⟨by simp [eT, *] <;> omega,rfl⟩
theorem UK (s:ByteArray) (k:Nat) (h:k < s.size):sk (s.data.toList.take (k+1))= (sk (s.data.toList.take k) && (decide (97≤s[k].toNat) && decide (s[k].toNat≤122))):=by
 unfold sk
 rw [List.take_succ_eq_append_getElem (by simpa using h),List.all_append];simp;rfl
theorem UJ (s:ByteArray) (k:Nat) (h:k < s.size) (h1:(decide (97≤s[k].toNat) && decide (s[k].toNat≤122))= false):sk s.data.toList= false:=by
 have:sk s.data.toList= (sk (s.data.toList.take (k+1)) && sk (s.data.toList.drop (k+1))):=by
  unfold sk;rw [← List.all_append,List.take_append_drop]
 rw [this,UK s k h,h1];simp
theorem aaF {p:Prop} (h:p:=by
 by_cases h1:s[k].toNat < 97
 ·go_wp2
  go_ret
  exact⟨by simp [vb,UJ s k bu (by simp;omega)],rfl⟩
 ·by_cases h2:122 < s[k].toNat
  ·go_wp2
   go_ret
   exact⟨by simp [vb,UJ s k bu (by simp;omega)],rfl⟩
  ·go_wp2
   go_round
   case rel=>exact⟨k + 1,by omega,by go_num,by rw [UK s k bu,cB.out];simp;omega⟩
   case measure=>simp [intOf];omega):p:=h
theorem ZB {p:Prop} (h:p:=by
 go_ret
 have:=cB.out
 rw [List.take_of_length_le (by simp)] at this
 exact⟨by simp [vb,this],rfl⟩):p:=h
theorem aiQ (s:ByteArray) (aV:s.size≤maxLen) (v:Bool) (ax:vb s= v) (w:World):Calls Tryz.prog 281 #[s] w fun e ah=>e= .returned v∧ah= w:=by
 subst ax
 unfold maxLen at aV
 go_in
 go_wp2
 go_loop [3] (fun i=>∃k:Nat,k≤s.size∧i= .int .i64 k∧sk (s.data.toList.take k)= true) (fun i=>s.size - (intOf i).toNat)
 case atStart=>exact⟨0,Nat.zero_le _,rfl,rfl⟩
 case round=>
  obtain⟨k,aD,rfl,aT⟩:=hrel
  have cB:=J aT;clear aT
  by_cases bu:k < s.size
  ·exact aaF
  ·obtain rfl:k= s.size:=by omega
   go_wp2_with (go_at_call 79;refine (iX _ _ _ _ rfl _).mono ?_;rintro e ah ⟨rfl,rfl⟩)
   exact ZB
theorem ajn (s:ByteArray) (aV:s.size≤maxLen) (v:Bool) (ax:vb s= v) (w:World):Calls Tryz.prog 283 #[s] w fun e ah=>e= .returned v∧ah= w:=by
 subst ax
 unfold maxLen at aV
 go_in
 go_wp2
 go_loop [3] (fun i=>∃k:Nat,k≤s.size∧i= .int .i64 k∧sk (s.data.toList.take k)= true) (fun i=>s.size - (intOf i).toNat)
 case atStart=>exact⟨0,Nat.zero_le _,rfl,rfl⟩
 case round=>
  obtain⟨k,aD,rfl,aT⟩:=hrel
  have cB:=J aT;clear aT
  by_cases bu:k < s.size
  ·exact aaF
  ·obtain rfl:k= s.size:=by omega
   go_wp2_with (go_at_call 186;refine (jq _ _ _ _ rfl _).mono ?_;rintro e ah ⟨rfl,rfl⟩)
   exact ZB
end Go.Proofs.YtlaaemmmbodaaaaGreatDoor
namespace Go.G9
open Go.RowKit
def eN (n:Int):ByteArray:=⟨(Lib.itoa n).toArray⟩
theorem wY {a b:ByteArray} (h:a.data.toList= b.data.toList):a= b:=by
 obtain⟨⟨a⟩⟩:=a;obtain⟨⟨b⟩⟩:=b;simp at h;rw [h]
theorem we:∀(k u:Nat),u < 10 ^ (k + 1)→(Lib.decDigits u).length≤k + 1
 | 0,u,h=>by rw [Lib.decDigits_one (by simpa using h)];simp
 | k + 1,u,h=>by
  rw [Lib.decDigits]
  split
  ·simp
  ·rw [List.length_append]
   have:=we k (u / 10) (by rw [Nat.pow_succ] at h;omega)
   simp;omega
theorem wm (n:Int) (h:-1000000000 < n∧n < 1000000000):(eN n).size≤10:=by
 show (Lib.itoa n).toArray.size≤10
 rw [List.size_toArray]
 unfold Lib.itoa
 split
 ·have:=we 8 n.natAbs (by omega)
  simp;omega
 ·have:=we 8 n.toNat (by omega)
  omega
end Go.G9
namespace Go.Proofs.YtlaaemmmbodaaaaGreatDoor
open Go.RowKit Go.G9
theorem Uq (n:Nat) (h:n≤1000000000) (w:World):Calls Tryz.prog 73 #[n] w fun e ah=>e= .returned (.string ⟨(Lib.decDigits n).toArray⟩)∧Below w w ah:=by
 induction n using Nat.strongRecOn generalizing w with
 | _ n er=>
  have acK:=J er;clear er
  by_cases aY:n < 10
  ·go_in
   go_wp2
   go_ret
   refine⟨?_,Below.refl _ _⟩
   show Ending.returned (Value.string _)= _
   rw [Lib.decDigits_one aY]
   have aH:∀k:Fin 10,(⟨#[48,49,50,51,52,53,54,55,56,57]⟩ :ByteArray).extract k (k + 1)=⟨#[UInt8.ofNat (48 + k)]⟩:=by decide +kernel
   have aD:=aH ⟨n,aY⟩
   simp only at aD
   rw [aD]
  ·have bj:∀W:World,Calls Tryz.prog 73 #[.int .i64 ((n:Int) / 10)] W fun e ah=>e= .returned (.string ⟨(Lib.decDigits (n / 10)).toArray⟩)∧Below W W ah:=by
    intro W
    have h:=acK.out (n / 10) (by omega) (by omega) W
    rw [show ((n / 10:Nat):Int)= (n:Int) / 10 from by omega] at h
    exact h
   have dH:=J bj;clear bj
   have Mb:(0:Int)≤(n:Int) % 10:=by omega
   have yW:(n:Int) % 10 + 1≤10:=by omega
   have apZ:(n:Int) % 10≤10:=by omega
   have gN:(⟨#[48,49,50,51,52,53,54,55,56,57]⟩ :ByteArray).size= 10:=rfl
   have vT:(⟨(Lib.decDigits (n / 10)).toArray⟩ :ByteArray).size≤10:=by
    have:=we 8 (n / 10) (by omega)
    show (Lib.decDigits (n / 10)).toArray.size≤10
    simp;omega
   have xw:((⟨#[48,49,50,51,52,53,54,55,56,57]⟩ :ByteArray).extract (n % 10) (n % 10 + 1)).size≤10:=by
    rw [ByteArray.size_extract];omega
   go_in
   go_wp2
   refine eK (by kernel_rfl) (by kernel_rfl) ?_
   repeat (go_big_quiet_step (((go_at_call 73;exact ay.call _ (by first | exact Nat.le_refl _ | omega) (dH.out _)))))
   refine wpQuiet_nil ?_
   intro K
   go_wp2
   go_ret
   refine⟨?_,K.ae⟩
   show Ending.returned (Value.string _)= _
   have aH:∀k:Fin 10,(⟨#[48,49,50,51,52,53,54,55,56,57]⟩ :ByteArray).extract k (k + 1)=⟨#[UInt8.ofNat (48 + k)]⟩:=by decide +kernel
   have aD:=aH ⟨n % 10,Nat.mod_lt _ (by omega)⟩
   simp only at aD
   rw [aD]
   refine congrArg Ending.returned (congrArg Value.string (wY ?_))
   conv=>rhs;rw [Lib.decDigits,dif_neg aY]
   simp
theorem pT (n:Int) (h0:-1000000000 < n) (h1:n < 1000000000) (w:World):Calls Tryz.prog 73 #[n] w fun e ah=>e= .returned (.string (eN n))∧Below w w ah:=by
 by_cases aY:0≤n
 ·have h:=Uq n.toNat (by omega) w
  rw [Int.toNat_of_nonneg aY] at h
  unfold eN Lib.itoa
  rw [if_neg (by omega)]
  exact h
 ·have rl:n < 0:=by omega
  clear aY
  have bj:∀W:World,Calls Tryz.prog 73 #[.int .i64 (-n)] W fun e ah=>e= .returned (.string ⟨(Lib.decDigits n.natAbs).toArray⟩)∧Below W W ah:=by
   intro W
   have h:=Uq n.natAbs (by omega) W
   rw [show ((n.natAbs:Nat):Int)= -n from by omega] at h
   exact h
  have dH:=J bj;clear bj
  have vT:(Lib.decDigits n.natAbs).length≤10:=by have:=we 8 n.natAbs (by omega);omega
  go_in
  go_wp2_with fail
  refine (dH.out _).mono ?_
  rintro e bh ⟨rfl,br⟩
  go_wp2
  go_ret
  refine⟨?_,br⟩
  show Ending.returned (Value.string _)= _
  refine congrArg Ending.returned (congrArg Value.string (wY ?_))
  unfold eN Lib.itoa
  rw [if_pos (by omega)]
  simp
end Go.Proofs.YtlaaemmmbodaaaaGreatDoor
namespace Go.Proofs
open Go.Shelf
def Tryz.UC:Go.Shelf.Ren:=⟨fun | 156=>249 | 165=>298 | 166=>299 | 169=>300 | 240=>324 | 241=>325 | 276=>337 | 277=>338 | n=>n,fun | 31=>57 | 9=>9 | 3=>3 | 4=>4 | 0=>0 | 20=>20 | 72=>285 | 76=>258 | 70=>283 | 37=>35 | 75=>257 | 127=>302 | 164=>318 | 5=>5 | 80=>135 | n=>n,fun | n=>n⟩
theorem Tryz.ajx:Go.Proofs.Lays.n156 Tryz.prog Tryz.UC:={
  mixed:=by kernel_rfl
  f156:=Tryz.func249.trans (congrArg some (by kernel_rfl))
  f165:=Tryz.func298.trans (congrArg some (by kernel_rfl))
  f166:=Tryz.func299.trans (congrArg some (by kernel_rfl))
  f169:=Tryz.func300.trans (congrArg some (by kernel_rfl))
  f240:=Tryz.func324.trans (congrArg some (by kernel_rfl))
  f241:=Tryz.func325.trans (congrArg some (by kernel_rfl))
  f276:=Tryz.func337.trans (congrArg some (by kernel_rfl))
  f277:=Tryz.func338.trans (congrArg some (by kernel_rfl))
  t0:=Tryz.underlying0
  a0:=Tryz.isAgg0
  z0:=Tryz.sizeOf0
  v0:=Tryz.zeroValue0
  t3:=Tryz.underlying3
  a3:=Tryz.isAgg3
  z3:=Tryz.sizeOf3
  v3:=Tryz.zeroValue3
  t4:=Tryz.underlying4
  a4:=Tryz.isAgg4
  z4:=Tryz.sizeOf4
  v4:=Tryz.zeroValue4
  t9:=Tryz.underlying9
  a9:=Tryz.isAgg9
  z9:=Tryz.sizeOf9
  v9:=Tryz.zeroValue9
  t20:=Tryz.underlying20
  a20:=Tryz.isAgg20
  z20:=Tryz.sizeOf20
  v20:=Tryz.zeroValue20
  t31:=Tryz.underlying57
  a31:=Tryz.isAgg57
  z31:=Tryz.sizeOf57
  v31:=Tryz.zeroValue57
  t37:=Tryz.underlying35
  a37:=Tryz.isAgg35
  z37:=Tryz.sizeOf35
  v37:=Tryz.zeroValue35
  t70:=Tryz.underlying283
  a70:=Tryz.isAgg283
  z70:=Tryz.sizeOf283
  v70:=Tryz.zeroValue283
  t72:=Tryz.underlying285
  a72:=Tryz.isAgg285
  z72:=Tryz.sizeOf285
  v72:=Tryz.zeroValue285
  t75:=Tryz.underlying257
  a75:=Tryz.isAgg257
  z75:=Tryz.sizeOf257
  v75:=Tryz.zeroValue257
  t76:=Tryz.underlying258
  a76:=Tryz.isAgg258
  z76:=Tryz.sizeOf258
  v76:=Tryz.zeroValue258
  t127:=Tryz.underlying302
  a127:=Tryz.isAgg302
  z127:=Tryz.sizeOf302
  v127:=Tryz.zeroValue302
  t164:=Tryz.underlying318
  a164:=Tryz.isAgg318
  z164:=Tryz.sizeOf318
  v164:=Tryz.zeroValue318}
open Go.RowKit in
def Tryz.ajA:Go.Shelf.Ren:=⟨fun | 171=>70 | 243=>128 | 246=>208 | 283=>277 | 284=>278 | 285=>279 | 286=>280 | 129=>311 | 317=>310 | 318=>312 | 319=>313 | 320=>314 | 337=>332 | 338=>333 | n=>n,fun | 3=>3 | 9=>9 | 2=>2 | 4=>4 | 171=>269 | 0=>0 | 53=>93 | 37=>35 | 5=>5 | 173=>272 | 212=>290 | 51=>291 | 20=>20 | 213=>292 | 46=>191 | 232=>323 | 233=>324 | n=>n,fun | 17=>2 | 18=>7 | 19=>8 | n=>n⟩
theorem Tryz.ajz:Go.Proofs.LaysM.n171 Tryz.prog Tryz.ajA:={
  mixed:=by kernel_rfl
  f129:=Tryz.func311.trans (congrArg some (by kernel_rfl))
  f171:=Tryz.func70.trans (congrArg some (by kernel_rfl))
  f243:=Tryz.func128.trans (congrArg some (by kernel_rfl))
  f246:=Tryz.func208.trans (congrArg some (by kernel_rfl))
  f283:=Tryz.func277.trans (congrArg some (by kernel_rfl))
  f284:=Tryz.func278.trans (congrArg some (by kernel_rfl))
  f285:=Tryz.func279.trans (congrArg some (by kernel_rfl))
  f286:=Tryz.func280.trans (congrArg some (by kernel_rfl))
  f317:=Tryz.func310.trans (congrArg some (by kernel_rfl))
  f318:=Tryz.func312.trans (congrArg some (by kernel_rfl))
  f319:=Tryz.func313.trans (congrArg some (by kernel_rfl))
  f320:=Tryz.func314.trans (congrArg some (by kernel_rfl))
  f337:=Tryz.func332.trans (congrArg some (by kernel_rfl))
  f338:=Tryz.func333.trans (congrArg some (by kernel_rfl))
  t0:=Tryz.underlying0
  a0:=Tryz.isAgg0
  z0:=Tryz.sizeOf0
  v0:=Tryz.zeroValue0
  t2:=Tryz.underlying2
  a2:=Tryz.isAgg2
  z2:=Tryz.sizeOf2
  v2:=Tryz.zeroValue2
  t3:=Tryz.underlying3
  a3:=Tryz.isAgg3
  z3:=Tryz.sizeOf3
  v3:=Tryz.zeroValue3
  t4:=Tryz.underlying4
  a4:=Tryz.isAgg4
  z4:=Tryz.sizeOf4
  v4:=Tryz.zeroValue4
  t5:=Tryz.underlying5
  a5:=Tryz.isAgg5
  z5:=Tryz.sizeOf5
  v5:=Tryz.zeroValue5
  t9:=Tryz.underlying9
  a9:=Tryz.isAgg9
  z9:=Tryz.sizeOf9
  v9:=Tryz.zeroValue9
  t20:=Tryz.underlying20
  a20:=Tryz.isAgg20
  z20:=Tryz.sizeOf20
  v20:=Tryz.zeroValue20
  t37:=Tryz.underlying35
  a37:=Tryz.isAgg35
  z37:=Tryz.sizeOf35
  v37:=Tryz.zeroValue35
  t46:=Tryz.underlying191
  a46:=Tryz.isAgg191
  z46:=Tryz.sizeOf191
  v46:=Tryz.zeroValue191
  t51:=Tryz.underlying291
  a51:=Tryz.isAgg291
  z51:=Tryz.sizeOf291
  v51:=Tryz.zeroValue291
  t53:=Tryz.underlying93
  a53:=Tryz.isAgg93
  z53:=Tryz.sizeOf93
  v53:=Tryz.zeroValue93
  t171:=Tryz.underlying269
  a171:=Tryz.isAgg269
  z171:=Tryz.sizeOf269
  v171:=Tryz.zeroValue269
  t173:=Tryz.underlying272
  a173:=Tryz.isAgg272
  z173:=Tryz.sizeOf272
  v173:=Tryz.zeroValue272
  t212:=Tryz.underlying290
  a212:=Tryz.isAgg290
  z212:=Tryz.sizeOf290
  v212:=Tryz.zeroValue290
  t213:=Tryz.underlying292
  a213:=Tryz.isAgg292
  z213:=Tryz.sizeOf292
  t232:=Tryz.underlying323
  a232:=Tryz.isAgg323
  z232:=Tryz.sizeOf323
  v232:=Tryz.zeroValue323
  t233:=Tryz.underlying324
  a233:=Tryz.isAgg324
  z233:=Tryz.sizeOf324
  v233:=Tryz.zeroValue324
  g17:=by kernel_rfl
  g18:=by kernel_rfl
  g19:=by kernel_rfl
  i0:=by kernel_rfl
  i2:=by kernel_rfl
  i3:=by kernel_rfl
  i4:=by kernel_rfl
  i5:=by kernel_rfl
  i9:=by kernel_rfl
  i20:=by kernel_rfl
  i37:=by kernel_rfl
  i46:=by kernel_rfl
  i51:=by kernel_rfl
  i53:=by kernel_rfl
  i171:=by kernel_rfl
  i173:=by kernel_rfl
  i212:=by kernel_rfl
  i232:=by kernel_rfl
  i233:=by kernel_rfl
  m17:=by kernel_rfl
  m18:=by kernel_rfl
  m19:=by kernel_rfl}
open Go.RowKit Go.Sort Go.Lib in
theorem Tryz.strconv_Itoa (n:Int) (h0:-9223372036854775808≤n) (h1:n≤9223372036854775807) (w:World) (agQ:Lib.TabIs Tryz.prog w "internal/strconv.uint64pow10" .u64 Lib.pow10Tab):
    Calls Tryz.prog 70 #[n] w fun e ah=>e= .returned (.string ⟨(Lib.itoa n).toArray⟩)∧∃k os,ah= grow (w.drewN k) os:=Any.strconv_Itoa Tryz.ajz n h0 h1 w agQ
open Go.RowKit Go.Sort Go.Lib in
def Tryz.ajy:Go.Shelf.Ren:=⟨fun | 172=>247 | 244=>296 | 245=>297 | 247=>319 | 279=>320 | 280=>321 | 281=>322 | 282=>323 | 287=>334 | 316=>335 | 171=>70 | 205=>336 | 321=>343 | 322=>344 | 243=>128 | 246=>208 | 283=>277 | 284=>278 | 285=>279 | 286=>280 | 129=>311 | 317=>310 | 318=>312 | 319=>313 | 320=>314 | 337=>332 | 338=>333 | n=>n,fun | 9=>9 | 3=>3 | 75=>257 | 76=>258 | 4=>4 | 5=>5 | 167=>296 | 37=>35 | 0=>0 | 85=>297 | 2=>2 | 168=>299 | 53=>93 | 175=>313 | 46=>191 | 210=>316 | 127=>302 | 145=>328 | 143=>326 | 21=>21 | 171=>269 | 173=>272 | 212=>290 | 51=>291 | 20=>20 | 213=>292 | 232=>323 | 233=>324 | 80=>135 | n=>n,fun | 15=>5 | 16=>6 | 17=>2 | 18=>7 | 19=>8 | n=>n⟩
theorem Tryz.UD:Go.Proofs.LaysC.n172 Tryz.prog Tryz.ajy:={
  mixed:=by kernel_rfl
  f129:=Tryz.func311.trans (congrArg some (by kernel_rfl))
  f171:=Tryz.func70.trans (congrArg some (by kernel_rfl))
  f172:=Tryz.func247.trans (congrArg some (by kernel_rfl))
  f205:=Tryz.func336.trans (congrArg some (by kernel_rfl))
  f243:=Tryz.func128.trans (congrArg some (by kernel_rfl))
  f244:=Tryz.func296.trans (congrArg some (by kernel_rfl))
  f245:=Tryz.func297.trans (congrArg some (by kernel_rfl))
  f246:=Tryz.func208.trans (congrArg some (by kernel_rfl))
  f247:=Tryz.func319.trans (congrArg some (by kernel_rfl))
  f279:=Tryz.func320.trans (congrArg some (by kernel_rfl))
  f280:=Tryz.func321.trans (congrArg some (by kernel_rfl))
  f281:=Tryz.func322.trans (congrArg some (by kernel_rfl))
  f282:=Tryz.func323.trans (congrArg some (by kernel_rfl))
  f283:=Tryz.func277.trans (congrArg some (by kernel_rfl))
  f284:=Tryz.func278.trans (congrArg some (by kernel_rfl))
  f285:=Tryz.func279.trans (congrArg some (by kernel_rfl))
  f286:=Tryz.func280.trans (congrArg some (by kernel_rfl))
  f287:=Tryz.func334.trans (congrArg some (by kernel_rfl))
  f316:=Tryz.func335.trans (congrArg some (by kernel_rfl))
  f317:=Tryz.func310.trans (congrArg some (by kernel_rfl))
  f318:=Tryz.func312.trans (congrArg some (by kernel_rfl))
  f319:=Tryz.func313.trans (congrArg some (by kernel_rfl))
  f320:=Tryz.func314.trans (congrArg some (by kernel_rfl))
  f321:=Tryz.func343.trans (congrArg some (by kernel_rfl))
  f322:=Tryz.func344.trans (congrArg some (by kernel_rfl))
  f337:=Tryz.func332.trans (congrArg some (by kernel_rfl))
  f338:=Tryz.func333.trans (congrArg some (by kernel_rfl))
  t0:=Tryz.underlying0
  a0:=Tryz.isAgg0
  z0:=Tryz.sizeOf0
  v0:=Tryz.zeroValue0
  t2:=Tryz.underlying2
  a2:=Tryz.isAgg2
  z2:=Tryz.sizeOf2
  v2:=Tryz.zeroValue2
  t3:=Tryz.underlying3
  a3:=Tryz.isAgg3
  z3:=Tryz.sizeOf3
  v3:=Tryz.zeroValue3
  t4:=Tryz.underlying4
  a4:=Tryz.isAgg4
  z4:=Tryz.sizeOf4
  v4:=Tryz.zeroValue4
  t5:=Tryz.underlying5
  a5:=Tryz.isAgg5
  z5:=Tryz.sizeOf5
  v5:=Tryz.zeroValue5
  t9:=Tryz.underlying9
  a9:=Tryz.isAgg9
  z9:=Tryz.sizeOf9
  v9:=Tryz.zeroValue9
  t20:=Tryz.underlying20
  a20:=Tryz.isAgg20
  z20:=Tryz.sizeOf20
  v20:=Tryz.zeroValue20
  t21:=Tryz.underlying21
  a21:=Tryz.isAgg21
  z21:=Tryz.sizeOf21
  v21:=Tryz.zeroValue21
  t37:=Tryz.underlying35
  a37:=Tryz.isAgg35
  z37:=Tryz.sizeOf35
  v37:=Tryz.zeroValue35
  t46:=Tryz.underlying191
  a46:=Tryz.isAgg191
  z46:=Tryz.sizeOf191
  v46:=Tryz.zeroValue191
  t51:=Tryz.underlying291
  a51:=Tryz.isAgg291
  z51:=Tryz.sizeOf291
  v51:=Tryz.zeroValue291
  t53:=Tryz.underlying93
  a53:=Tryz.isAgg93
  z53:=Tryz.sizeOf93
  v53:=Tryz.zeroValue93
  t75:=Tryz.underlying257
  a75:=Tryz.isAgg257
  z75:=Tryz.sizeOf257
  v75:=Tryz.zeroValue257
  t76:=Tryz.underlying258
  a76:=Tryz.isAgg258
  z76:=Tryz.sizeOf258
  v76:=Tryz.zeroValue258
  t85:=Tryz.underlying297
  a85:=Tryz.isAgg297
  z85:=Tryz.sizeOf297
  v85:=Tryz.zeroValue297
  t127:=Tryz.underlying302
  a127:=Tryz.isAgg302
  z127:=Tryz.sizeOf302
  v127:=Tryz.zeroValue302
  t143:=Tryz.underlying326
  a143:=Tryz.isAgg326
  z143:=Tryz.sizeOf326
  v143:=Tryz.zeroValue326
  t145:=Tryz.underlying328
  a145:=Tryz.isAgg328
  z145:=Tryz.sizeOf328
  v145:=Tryz.zeroValue328
  t167:=Tryz.underlying296
  a167:=Tryz.isAgg296
  z167:=Tryz.sizeOf296
  v167:=Tryz.zeroValue296
  t168:=Tryz.underlying299
  a168:=Tryz.isAgg299
  z168:=Tryz.sizeOf299
  v168:=Tryz.zeroValue299
  t171:=Tryz.underlying269
  a171:=Tryz.isAgg269
  z171:=Tryz.sizeOf269
  v171:=Tryz.zeroValue269
  t173:=Tryz.underlying272
  a173:=Tryz.isAgg272
  z173:=Tryz.sizeOf272
  v173:=Tryz.zeroValue272
  t175:=Tryz.underlying313
  a175:=Tryz.isAgg313
  z175:=Tryz.sizeOf313
  v175:=Tryz.zeroValue313
  t210:=Tryz.underlying316
  a210:=Tryz.isAgg316
  z210:=Tryz.sizeOf316
  v210:=Tryz.zeroValue316
  t212:=Tryz.underlying290
  a212:=Tryz.isAgg290
  z212:=Tryz.sizeOf290
  v212:=Tryz.zeroValue290
  t213:=Tryz.underlying292
  a213:=Tryz.isAgg292
  z213:=Tryz.sizeOf292
  t232:=Tryz.underlying323
  a232:=Tryz.isAgg323
  z232:=Tryz.sizeOf323
  v232:=Tryz.zeroValue323
  t233:=Tryz.underlying324
  a233:=Tryz.isAgg324
  z233:=Tryz.sizeOf324
  v233:=Tryz.zeroValue324
  g15:=by kernel_rfl
  g16:=by kernel_rfl
  g17:=by kernel_rfl
  g18:=by kernel_rfl
  g19:=by kernel_rfl
  t80:=Tryz.underlying135
  a80:=Tryz.isAgg135
  z80:=Tryz.sizeOf135
  v80:=Tryz.zeroValue135
  i0:=by kernel_rfl
  i2:=by kernel_rfl
  i3:=by kernel_rfl
  i4:=by kernel_rfl
  i5:=by kernel_rfl
  i9:=by kernel_rfl
  i20:=by kernel_rfl
  i21:=by kernel_rfl
  i37:=by kernel_rfl
  i46:=by kernel_rfl
  i51:=by kernel_rfl
  i53:=by kernel_rfl
  i75:=by kernel_rfl
  i76:=by kernel_rfl
  i80:=by kernel_rfl
  i85:=by kernel_rfl
  i127:=by kernel_rfl
  i143:=by kernel_rfl
  i145:=by kernel_rfl
  i167:=by kernel_rfl
  i168:=by kernel_rfl
  i171:=by kernel_rfl
  i173:=by kernel_rfl
  i175:=by kernel_rfl
  i210:=by kernel_rfl
  i212:=by kernel_rfl
  i232:=by kernel_rfl
  i233:=by kernel_rfl
  m15:=by kernel_rfl
  m16:=by kernel_rfl
  m17:=by kernel_rfl
  m18:=by kernel_rfl
  m19:=by kernel_rfl
  c0:=by kernel_rfl
  c2:=by kernel_rfl
  c3:=by kernel_rfl
  c4:=by kernel_rfl
  c5:=by kernel_rfl
  c9:=by kernel_rfl
  c20:=by kernel_rfl
  c21:=by kernel_rfl
  c37:=by kernel_rfl
  c46:=by kernel_rfl
  c51:=by kernel_rfl
  c53:=by kernel_rfl
  c75:=by kernel_rfl
  c76:=by kernel_rfl
  c80:=by kernel_rfl
  c85:=by kernel_rfl
  c127:=by kernel_rfl
  c143:=by kernel_rfl
  c145:=by kernel_rfl
  c167:=by kernel_rfl
  c168:=by kernel_rfl
  c171:=by kernel_rfl
  c173:=by kernel_rfl
  c175:=by kernel_rfl
  c210:=by kernel_rfl
  c212:=by kernel_rfl
  c213:=by kernel_rfl
  c232:=by kernel_rfl
  c233:=by kernel_rfl}
open Go.RowKit in
theorem Tryz.strconv_Atoi_ok (s:ByteArray) (agp:s.size≤9223372036854775806) (v:Int) (h:Lib.atoiAll s.data.toList= .ok v) (w:World):
    Calls Tryz.prog 247 #[s] w fun e ah=>e= .returned (.tuple #[v,.nilIface])∧(ah= w∨∃t,ah= Lib.bytesWorld w 5 t):=Any.strconv_Atoi_ok Tryz.UD s agp v h w
open Go.RowKit in
theorem Tryz.strconv_Atoi_syntax_var (s:ByteArray) (ago:s.size≤281474976710656) (h:Lib.atoiAll s.data.toList= Lib.atoiAll []) (uY:TypeId) (p:Value) (w:World) (MK:w.var? Tryz.prog "strconv.ErrSyntax" =some #[.iface uY p]):
    Calls Tryz.prog 247 #[s] w fun e ah=>∃N,e= .returned (.tuple #[(0:Int),.iface 299 (.pointer (some ⟨N,0,none⟩))])∧w.heap.size≤N∧ah.heap[N]? =some (.cells #[.string ⟨#[65,116,111,105]⟩,s,.iface uY p] 316 (0,0))∧Below w w ah:=Any.strconv_Atoi_syntax_var Tryz.UD s ago h uY p w MK
open Go.RowKit in
open Go.RowKit Go.Lib in
def Tryz.ajw:Go.Shelf.Ren:=⟨fun | 146=>66 | 221=>126 | 268=>206 | 138=>207 | 143=>167 | 195=>274 | 197=>275 | 218=>276 | 219=>246 | 260=>309 | 217=>292 | 225=>293 | 224=>294 | 267=>295 | 266=>317 | 314=>318 | n=>n,fun | 9=>9 | 31=>57 | 3=>3 | 4=>4 | 0=>0 | 105=>266 | 21=>21 | 5=>5 | 46=>191 | 119=>308 | 139=>311 | 138=>310 | 146=>294 | 51=>291 | n=>n,fun | 1=>1 | 3=>3 | 4=>4 | n=>n⟩
theorem Tryz.ajv:Go.Proofs.Lays.n146 Tryz.prog Tryz.ajw:={
  mixed:=by kernel_rfl
  f138:=Tryz.func207.trans (congrArg some (by kernel_rfl))
  f143:=Tryz.func167.trans (congrArg some (by kernel_rfl))
  f146:=Tryz.func66.trans (congrArg some (by kernel_rfl))
  f195:=Tryz.func274.trans (congrArg some (by kernel_rfl))
  f197:=Tryz.func275.trans (congrArg some (by kernel_rfl))
  f217:=Tryz.func292.trans (congrArg some (by kernel_rfl))
  f218:=Tryz.func276.trans (congrArg some (by kernel_rfl))
  f219:=Tryz.func246.trans (congrArg some (by kernel_rfl))
  f221:=Tryz.func126.trans (congrArg some (by kernel_rfl))
  f224:=Tryz.func294.trans (congrArg some (by kernel_rfl))
  f225:=Tryz.func293.trans (congrArg some (by kernel_rfl))
  f260:=Tryz.func309.trans (congrArg some (by kernel_rfl))
  f266:=Tryz.func317.trans (congrArg some (by kernel_rfl))
  f267:=Tryz.func295.trans (congrArg some (by kernel_rfl))
  f268:=Tryz.func206.trans (congrArg some (by kernel_rfl))
  f314:=Tryz.func318.trans (congrArg some (by kernel_rfl))
  t0:=Tryz.underlying0
  a0:=Tryz.isAgg0
  z0:=Tryz.sizeOf0
  v0:=Tryz.zeroValue0
  t3:=Tryz.underlying3
  a3:=Tryz.isAgg3
  z3:=Tryz.sizeOf3
  v3:=Tryz.zeroValue3
  t4:=Tryz.underlying4
  a4:=Tryz.isAgg4
  z4:=Tryz.sizeOf4
  v4:=Tryz.zeroValue4
  t5:=Tryz.underlying5
  a5:=Tryz.isAgg5
  z5:=Tryz.sizeOf5
  v5:=Tryz.zeroValue5
  t9:=Tryz.underlying9
  a9:=Tryz.isAgg9
  z9:=Tryz.sizeOf9
  v9:=Tryz.zeroValue9
  t21:=Tryz.underlying21
  a21:=Tryz.isAgg21
  z21:=Tryz.sizeOf21
  v21:=Tryz.zeroValue21
  t31:=Tryz.underlying57
  a31:=Tryz.isAgg57
  z31:=Tryz.sizeOf57
  v31:=Tryz.zeroValue57
  t46:=Tryz.underlying191
  a46:=Tryz.isAgg191
  z46:=Tryz.sizeOf191
  v46:=Tryz.zeroValue191
  t51:=Tryz.underlying291
  a51:=Tryz.isAgg291
  z51:=Tryz.sizeOf291
  v51:=Tryz.zeroValue291
  t105:=Tryz.underlying266
  a105:=Tryz.isAgg266
  z105:=Tryz.sizeOf266
  v105:=Tryz.zeroValue266
  t119:=Tryz.underlying308
  a119:=Tryz.isAgg308
  z119:=Tryz.sizeOf308
  t138:=Tryz.underlying310
  a138:=Tryz.isAgg310
  z138:=Tryz.sizeOf310
  v138:=Tryz.zeroValue310
  t139:=Tryz.underlying311
  a139:=Tryz.isAgg311
  z139:=Tryz.sizeOf311
  v139:=Tryz.zeroValue311
  t146:=Tryz.underlying294
  a146:=Tryz.isAgg294
  z146:=Tryz.sizeOf294
  v146:=Tryz.zeroValue294
  g1:=by kernel_rfl
  g3:=by kernel_rfl
  g4:=by kernel_rfl}
open Go.RowKit Go.Lib in
theorem Tryz.strings_Split (s sep:ByteArray) (m:Int) (w:World) (aV:s.size < 4294967281) (hm:w.cell? ⟨1,0,none⟩ =some (.int .i64 m)) (h1:1≤sep.size):
    Calls Tryz.prog 66 #[s,sep] w fun e ah=>
      e= .returned (.slice w.heap.size (Lib.countB s sep + 1) (Lib.countB s sep + 1))∧ah= w.alloc (.cells ((Lib.splitB sep 0 (Lib.countB s sep) s).map Value.string).toArray 9):=Any.strings_Split Tryz.ajv (by kernel_rfl) s sep m w aV hm h1
open Go.RowKit Go.Lib in
open Go.RowKit Go.Lib in
def Tryz.ajC:Go.Shelf.Ren:=⟨fun | 10=>329 | 6=>340 | n=>n,fun | 22=>38 | 23=>3 | 25=>97 | 3=>3 | 4=>4 | 0=>0 | n=>n,fun | n=>n⟩
theorem Tryz.ajB:Go.Proofs.SlLaysH.n10 Tryz.prog Tryz.ajC:={
  mixed:=by kernel_rfl
  f6:=⟨Tryz.f340.name,by decide,Tryz.func340.trans (congrArg some (by kernel_rfl))⟩
  f10:=⟨Tryz.f329.name,by decide,Tryz.func329.trans (congrArg some (by kernel_rfl))⟩
  t0:=Tryz.underlying0
  a0:=Tryz.isAgg0
  z0:=Tryz.sizeOf0
  v0:=Tryz.zeroValue0
  t3:=Tryz.underlying3
  a3:=Tryz.isAgg3
  z3:=Tryz.sizeOf3
  v3:=Tryz.zeroValue3
  t4:=Tryz.underlying4
  a4:=Tryz.isAgg4
  z4:=Tryz.sizeOf4
  v4:=Tryz.zeroValue4
  t22:=Tryz.underlying38
  a22:=Tryz.isAgg38
  z22:=Tryz.sizeOf38
  v22:=Tryz.zeroValue38
  a23:=Tryz.isAgg3
  z23:=Tryz.sizeOf3
  t25:=Tryz.underlying97
  a25:=Tryz.isAgg97
  z25:=Tryz.sizeOf97
  v25:=Tryz.zeroValue97}
open Go.RowKit Go.Lib Go.Sort in
theorem Tryz.slices_DeleteFunc {α:Type} [Inhabited α] (enc:α→Value) (bM:OneCell enc) (p:α→Bool) (g:Nat) (xC:Array Value) (Dg:∀args w,(callFunc g args).run Tryz.prog w= .ok (.enter g args) w) (Pe:α) (v23:∀w,(zeroValue 3).run Tryz.prog w= .ok (enc Pe) w) (AE off cap:Nat) (d:Array α) (w:World) (aN:PredAt Tryz.prog g xC enc p w) (Mp:PredOver Tryz.prog g xC enc p AE off d.size w) (afa:Holds enc w AE off d) (gN:d.size≤9223372036854775807) (rf:d.size≤cap):
    Calls Tryz.prog 329 #[.slice (some ⟨AE,off,none⟩) d.size cap,.func (.func g) #[] xC] w fun e ah=>e= .returned (.slice (some ⟨AE,off,none⟩) (d.toList.filter fun x=>!p x).length cap)∧∃q,ah= putRow enc (Sort.ahead w q) AE off ((d.toList.filter fun x=>!p x) ++ List.replicate (d.size - (d.toList.filter fun x=>!p x).length) Pe).toArray:=AnyE.slices_DeleteFunc Tryz.ajB enc bM p g xC Dg Pe v23 AE off cap d w aN Mp afa gN rf
end Go.Proofs
namespace Go.G9
open Go.RowKit
def lL (c:UInt8):Bool:=decide (48≤c.toNat) && decide (c.toNat≤57)
def ka:List UInt8→Nat→Nat
 | [],a=>a
 | c ::l,a=>ka l (10 * a + (c.toNat - 48))
theorem Kx:∀(l m:List UInt8) (a:Nat),ka (l ++ m) a= ka m (ka l a)
 | [],_,_=>rfl
 | c ::l,m,a=>by simp only [List.cons_append,ka];exact Kx l m _
theorem GF:∀(l:List UInt8) (a:Nat),(∀c ∈ l,lL c= true)→ka l a < (a + 1) * 10 ^ l.length
 | [],a,_=>by simp [ka]
 | c ::l,a,h=>by
  have aH:=h c (by simp)
  simp only [lL,Bool.and_eq_true,decide_eq_true_eq] at aH
  have er:=GF l (10 * a + (c.toNat - 48)) (fun x aw=>h x (by simp [aw]));have h2:(10 * a + (c.toNat - 48) + 1) * 10 ^ l.length≤((a + 1) * 10) * 10 ^ l.length:=Nat.mul_le_mul_right _ (by omega)
  have h3:((a + 1) * 10) * 10 ^ l.length= (a + 1) * 10 ^ (l.length + 1):=by rw [Nat.pow_succ,Nat.mul_assoc,Nat.mul_comm 10]
  simp only [ka,List.length_cons]
  omega
theorem yB (u:Nat):ka (Lib.decDigits u) 0= u∧(∀c ∈ Lib.decDigits u,lL c= true)∧Lib.decDigits u≠[]:=by
 rw [Lib.decDigits]
 have one:∀d,d < 10→(UInt8.ofNat (48 + d)).toNat= 48 + d:=fun d bJ=>by
  rw [UInt8.toNat_ofNat'];omega
 split
 ·rename_i h
  refine⟨by simp only [ka];rw [one u h];omega,fun c aH=>?_,by simp⟩
  simp only [List.mem_singleton] at aH
  subst aH
  simp only [lL,one u h,Bool.and_eq_true,decide_eq_true_eq];omega
 ·rename_i h
  obtain⟨h1,h2,h3⟩:=yB (u / 10)
  have bJ:u % 10 < 10:=Nat.mod_lt _ (by omega)
  refine⟨by rw [Kx,h1];simp only [ka];rw [one _ bJ];omega,fun c aH=>?_,by simp⟩
  simp only [List.mem_append,List.mem_singleton] at aH
  rcases aH with aH | aH
  ·exact h2 c aH
  ·subst aH
   simp only [lL,one _ bJ,Bool.and_eq_true,decide_eq_true_eq];omega
termination_by u
decreasing_by omega
def uR:List UInt8→Bool
 | c ::_ ::_=>c == 45
 | _=>false
def lT (l:List UInt8):List UInt8:=if uR l then l.tail else l
def hh (l:List UInt8):Int:=if uR l then -(ka (lT l) 0:Int) else (ka (lT l) 0:Int)
def eV (s:ByteArray):Bool:=decide (1≤(lT s.data.toList).length) && (decide ((lT s.data.toList).length≤6) && ((lT s.data.toList).all lL && decide (eN (hh s.data.toList)= s)))
def jA (s:ByteArray):Value:=if eV s then .tuple #[.int .i64 (hh s.data.toList),.bool true] else .tuple #[.int .i64 0,.bool false]
theorem NJ {s:ByteArray} (h6:(lT s.data.toList).length≤6) (bJ:(lT s.data.toList).all lL= true):-999999≤hh s.data.toList∧hh s.data.toList≤999999:=by
 have h:=GF (lT s.data.toList) 0 (fun c aH=>List.all_eq_true.1 bJ c aH);have h2:10 ^ (lT s.data.toList).length≤10 ^ 6:=Nat.pow_le_pow_right (by omega) h6
 unfold hh;split <;> omega
theorem akT (v:Int) (h0:-999999≤v) (h1:v≤999999):eV (eN v)= true∧hh (eN v).data.toList= v:=by
 have aT:(eN v).data.toList= Lib.itoa v:=rfl
 have key:lT (Lib.itoa v)= Lib.decDigits v.natAbs∧uR (Lib.itoa v)= decide (v < 0):=by
  unfold Lib.itoa
  split
  ·rename_i h
   obtain⟨_,_,h3⟩:=yB v.natAbs
   obtain⟨c,l,jw⟩:=List.exists_cons_of_ne_nil h3
   rw [jw]
   exact⟨by simp [lT,uR],by simp [uR,h]⟩
  ·rename_i h
   have ax:v.toNat= v.natAbs:=by omega
   rw [ax]
   obtain⟨_,h2,h3⟩:=yB v.natAbs
   obtain⟨c,l,jw⟩:=List.exists_cons_of_ne_nil h3
   have aH:=h2 c (by rw [jw];simp)
   simp only [lL,Bool.and_eq_true,decide_eq_true_eq] at aH
   have aV:uR (c ::l)= false:=by
    cases l with
    | nil=>rfl
    | cons d l=>
     show (c == 45)= false
     rw [beq_eq_false_iff_ne]
     intro e;subst e;simp at aH
   rw [jw]
   exact⟨by simp [lT,aV],by rw [aV];exact (decide_eq_false h).symm⟩
 obtain⟨eI,cp⟩:=key
 obtain⟨d1,d2,d3⟩:=yB v.natAbs
 have aY:hh (Lib.itoa v)= v:=by
  rw [hh,eI,cp,d1]
  by_cases h:v < 0
  ·rw [decide_eq_true h];simp;omega
  ·rw [decide_eq_false h];simp;omega
 refine⟨?_,by rw [aT];exact aY⟩
 have e6:=we 5 v.natAbs (by omega);have e1:1≤(Lib.decDigits v.natAbs).length:=List.length_pos_iff.2 d3
 rw [eV,aT,eI,aY,decide_eq_true e1,decide_eq_true e6,List.all_eq_true.2 d2]
 simp
theorem NO {s:ByteArray} (h:eV s= true):s= eN (hh s.data.toList)∧-999999≤hh s.data.toList∧hh s.data.toList≤999999:=by
 simp only [eV,Bool.and_eq_true,decide_eq_true_eq] at h
 exact⟨h.2.2.2.symm,NJ h.2.1 h.2.2.1⟩
theorem Oj {a b:ByteArray} (h:a≠b):(a.toList == b.toList)= false:=beq_eq_false_iff_ne.2 (by rw [ByteArray.toList_eq,ByteArray.toList_eq];exact fun e=>h (wY e))
theorem BT (t:ByteArray) {k:Nat} (aD:k < t.size):t.data.toList.take (k + 1)= t.data.toList.take k ++ [t[k]]:=by
 have h:k < t.data.toList.length:=by simpa using aD
 rw [List.take_succ_eq_append_getElem h]
 congr 1
theorem Ri (t:ByteArray) {k:Nat} (aD:k < t.size):ka (t.data.toList.take (k + 1)) 0= 10 * ka (t.data.toList.take k) 0 + (t[k].toNat - 48):=by
 rw [BT t aD,Kx];rfl
end Go.G9
namespace Go.Proofs.YtlaaemmmbodaaaaGreatDoor
open Go.RowKit Go.G9
theorem ajF (s:ByteArray):(s.extract 1 s.size).data.toList= s.data.toList.drop 1:=by
 rw [ByteArray.data_extract,Array.toList_extract]
 simp
 rw [List.take_of_length_le (by simp)]
theorem Xg (s:ByteArray) (h:1 < s.size):uR s.data.toList= (s[0] == 45):=by
 obtain⟨⟨l⟩⟩:=s
 match l with
 | []=>simp [ByteArray.size] at h
 | [c]=>simp [ByteArray.size] at h
 | c ::d ::l=>rfl
theorem anh (s:ByteArray) (h:¬1 < s.size):uR s.data.toList= false:=by
 obtain⟨⟨l⟩⟩:=s
 match l with
 | []=>rfl
 | [c]=>rfl
 | c ::d ::l=>simp [ByteArray.size] at h
theorem Yi {p:Prop} (h:p:=by
 have hlen:(lT s.data.toList).length= s.size:=by rw [bO.out];simp
 have np:=J hlen;clear hlen
 by_cases bp:1≤s.size∧s.size≤6
 case neg=>
  have iP:eT (s.size:Int) 1 6= false:=by
   cases aH:eT (s.size:Int) 1 6 with
   | false=>rfl
   | true=>simp only [eT,Bool.and_eq_true,decide_eq_true_eq] at aH;omega
  have rK:=J iP;clear iP
  go_wp2_with fail
  refine (jq _ 1 6 _ rK.out _).mono ?_
  rintro e w0 ⟨rfl,h0⟩
  rw [h0]
  clear h0 w0
  go_wp2
  go_ret2
  have gM:eV s= false:=by
   cases aH:eV s with
   | false=>rfl
   | true=>simp only [eV,np.out,Bool.and_eq_true,decide_eq_true_eq] at aH;omega
  exact⟨by rw [jA,gM];rfl,Below.refl _ _⟩
 obtain⟨uE,Mu⟩:=bp
 have iP:eT (s.size:Int) 1 6= true:=by simp only [eT,Bool.and_eq_true,decide_eq_true_eq];omega
 have rK:=J iP;clear iP
 go_wp2_with fail
 refine (jq _ 1 6 _ rK.out _).mono ?_
 rintro e w0 ⟨rfl,h0⟩
 rw [h0]
 clear h0 w0
 go_wp2
 go_loop [5,6] (fun n i=>∃k:Nat,k≤s.size∧i= .int .i64 k∧n= .int .i64 (ka (s.data.toList.take k) 0:Nat)∧(∀c ∈ s.data.toList.take k,lL c= true)) (fun _ i=>s.size - (intOf i).toNat)
 case atStart=>exact⟨0,Nat.zero_le _,rfl,rfl,by simp⟩
 case round=>
  obtain⟨k,aD,rfl,rfl,bJ⟩:=hrel
  have aF:=GF (s.data.toList.take k) 0 bJ;have aL:10 ^ (s.data.toList.take k).length≤10 ^ 6:=Nat.pow_le_pow_right (by omega) (by rw [List.length_take];omega)
  have bx:ka (s.data.toList.take k) 0 < 1000000:=by omega
  clear aF aL;have fz:=J bJ;clear bJ
  by_cases bu:k < s.size
  ·have kt:s[k].toNat < 256:=s[k].toNat_lt
   by_cases h1:s[k].toNat < 48
   case pos=>
    go_wp2
    go_ret2
    have gM:eV s= false:=by
     cases aH:eV s with
     | false=>rfl
     | true=>
      simp only [eV,bO.out,Bool.and_eq_true,decide_eq_true_eq,List.all_eq_true] at aH
      have aw:=aH.2.2.1 s[k] (List.mem_of_mem_take (i:=k + 1) (by rw [BT s bu];simp))
      simp only [lL,Bool.and_eq_true,decide_eq_true_eq] at aw;omega
    exact⟨by rw [jA,gM];rfl,Below.refl _ _⟩
   by_cases h2:57 < s[k].toNat
   case pos=>
    go_wp2
    go_ret2
    have gM:eV s= false:=by
     cases aH:eV s with
     | false=>rfl
     | true=>
      simp only [eV,bO.out,Bool.and_eq_true,decide_eq_true_eq,List.all_eq_true] at aH
      have aw:=aH.2.2.1 s[k] (List.mem_of_mem_take (i:=k + 1) (by rw [BT s bu];simp))
      simp only [lL,Bool.and_eq_true,decide_eq_true_eq] at aw;omega
    exact⟨by rw [jA,gM];rfl,Below.refl _ _⟩
   have oy:∀c ∈ s.data.toList.take (k + 1),lL c= true:=fun c aH=>by
    rw [BT s bu] at aH
    simp only [List.mem_append,List.mem_singleton] at aH
    rcases aH with aH | aH
    ·exact fz.out c aH
    ·subst aH;simp only [lL,Bool.and_eq_true,decide_eq_true_eq];omega
   have rn:=Ri s bu;have eZ:=J oy;have JM:=J rn;clear oy rn
   go_wp2
   go_round
   case rel=>exact⟨k + 1,by omega,by go_num,by rw [JM.out];(try rfl);congr 1;omega,eZ.out⟩
   case measure=>simp [intOf];omega
  ·obtain rfl:k= s.size:=by omega
   have lf:(lT s.data.toList).all lL= true:=by
    rw [bO.out,List.all_eq_true]
    have h:=fz.out
    rwa [List.take_of_length_le (by simp)] at h
   have aY:hh s.data.toList= (ka (s.data.toList.take s.size) 0:Nat):=by
    rw [hh,dU.out,bO.out,List.take_of_length_le (by simp)];rfl
   have qk:=NJ (s:=s) (by rw [np.out];exact Mu) lf
   rw [aY] at qk
   have Ce:=J lf;have yl:=J aY;clear lf aY
   by_cases he:eN ((ka (s.data.toList.take s.size) 0:Nat))= s
   ·have Bb:((eN ((ka (s.data.toList.take s.size) 0:Nat))).toList == s.toList)= true:=beq_iff_eq.2 (by rw [he])
    have cW:=J he;clear he
    go_wp2_with fail
    refine (pT _ (by omega) (by omega) _).mono ?_
    rintro e bh ⟨rfl,br⟩
    go_wp2
    go_ret2
    have zk:eV s= true:=by simp only [eV,np.out,Ce.out,yl.out,cW.out];simp;omega
    exact⟨by rw [jA,zk,yl.out];rfl,br⟩
   ·have Bb:((eN ((ka (s.data.toList.take s.size) 0:Nat))).toList == s.toList)= false:=Oj he
    have cW:=J he;clear he
    go_wp2_with fail
    refine (pT _ (by omega) (by omega) _).mono ?_
    rintro e bh ⟨rfl,br⟩
    go_wp2
    go_ret2
    have gM:eV s= false:=by
     cases aH:eV s with
     | false=>rfl
     | true=>
      simp only [eV,Bool.and_eq_true,decide_eq_true_eq,yl.out] at aH
      exact absurd aH.2.2.2 cW.out
    exact⟨by rw [jA,gM];rfl,br⟩):p:=h
theorem aaG {p:Prop} (h:p:=by
 go_wp2
 go_ret2
 have gM:eV s= false:=by
  cases aH:eV s with
  | false=>rfl
  | true=>
   simp only [eV,bO.out,Bool.and_eq_true,decide_eq_true_eq,List.all_eq_true] at aH
   have aw:=aH.2.2.1 t[k] (List.mem_of_mem_take (i:=k + 1) (by rw [BT t bu];simp))
   simp only [lL,Bool.and_eq_true,decide_eq_true_eq] at aw;omega
 exact⟨by rw [jA,gM];rfl,Below.refl _ _⟩):p:=h
theorem ajb (s:ByteArray) (aV:s.size≤maxLen) (w:World):Calls Tryz.prog 194 #[s] w fun e ah=>e= .returned (jA s)∧Below w w ah:=by
 unfold maxLen at aV
 by_cases h1:1 < s.size
 case neg=>
  have tw:=anh s h1;have dU:=J tw;have bO:Hid (lT s.data.toList= s.data.toList):=J (by rw [lT,tw];rfl);clear tw
  go_in
  go_upto_region 4 with fail
  exact Yi
 have pR:s[0].toNat < 256:=s[0].toNat_lt
 by_cases h2:s[0]= 45
 case neg=>
  have tw:uR s.data.toList= false:=by rw [Xg s h1];exact beq_eq_false_iff_ne.2 h2
  have dU:=J tw;have bO:Hid (lT s.data.toList= s.data.toList):=J (by rw [lT,tw];rfl)
  have gA:((s[0].toNat:Int) == 45)= false:=by
   rw [beq_eq_false_iff_ne];intro e
   exact h2 (UInt8.toNat_inj.1 (by have:(45:UInt8).toNat= 45:=rfl;omega))
  clear tw
  go_in
  go_upto_region 4 with fail
  clear gA
  exact Yi
 have tw:uR s.data.toList= true:=by rw [Xg s h1];exact beq_iff_eq.2 h2
 have dU:=J tw
 have gA:((s[0].toNat:Int) == 45)= true:=by rw [h2];rfl
 go_in
 go_upto_region 4 with fail
 clear gA
 obtain⟨t,ct⟩ :∃t,t= s.extract 1 s.size:=⟨_,rfl⟩
 rw [← ct]
 have bO:Hid (lT s.data.toList= t.data.toList):=J (by rw [lT,tw,ct,ajF];simp)
 have MI:t.size + 1= s.size:=by rw [ct,ByteArray.size_extract];omega
 clear tw ct
 have hlen:(lT s.data.toList).length= t.size:=by rw [bO.out];simp
 have np:=J hlen;clear hlen
 by_cases bp:1≤t.size∧t.size≤6
 case neg=>
  have iP:eT (t.size:Int) 1 6= false:=by
   cases aH:eT (t.size:Int) 1 6 with
   | false=>rfl
   | true=>simp only [eT,Bool.and_eq_true,decide_eq_true_eq] at aH;omega
  have rK:=J iP;clear iP
  go_wp2_with fail
  refine (jq _ 1 6 _ rK.out _).mono ?_
  rintro e w0 ⟨rfl,h0⟩
  rw [h0]
  clear h0 w0
  go_wp2
  go_ret2
  have gM:eV s= false:=by
   cases aH:eV s with
   | false=>rfl
   | true=>simp only [eV,np.out,Bool.and_eq_true,decide_eq_true_eq] at aH;omega
  exact⟨by rw [jA,gM];rfl,Below.refl _ _⟩
 obtain⟨uE,Mu⟩:=bp
 have iP:eT (t.size:Int) 1 6= true:=by simp only [eT,Bool.and_eq_true,decide_eq_true_eq];omega
 have rK:=J iP;clear iP
 go_wp2_with fail
 refine (jq _ 1 6 _ rK.out _).mono ?_
 rintro e w0 ⟨rfl,h0⟩
 rw [h0]
 clear h0 w0
 go_wp2
 go_loop [5,6] (fun n i=>∃k:Nat,k≤t.size∧i= .int .i64 k∧n= .int .i64 (ka (t.data.toList.take k) 0:Nat)∧(∀c ∈ t.data.toList.take k,lL c= true)) (fun _ i=>t.size - (intOf i).toNat)
 case atStart=>exact⟨0,Nat.zero_le _,rfl,rfl,by simp⟩
 case round=>
  obtain⟨k,aD,rfl,rfl,bJ⟩:=hrel
  have aF:=GF (t.data.toList.take k) 0 bJ;have aL:10 ^ (t.data.toList.take k).length≤10 ^ 6:=Nat.pow_le_pow_right (by omega) (by rw [List.length_take];omega)
  have bx:ka (t.data.toList.take k) 0 < 1000000:=by omega
  clear aF aL;have fz:=J bJ;clear bJ
  by_cases bu:k < t.size
  ·have kt:t[k].toNat < 256:=t[k].toNat_lt
   by_cases h1:t[k].toNat < 48
   case pos=>
    exact aaG
   by_cases h2:57 < t[k].toNat
   case pos=>
    exact aaG
   have oy:∀c ∈ t.data.toList.take (k + 1),lL c= true:=fun c aH=>by
    rw [BT t bu] at aH
    simp only [List.mem_append,List.mem_singleton] at aH
    rcases aH with aH | aH
    ·exact fz.out c aH
    ·subst aH;simp only [lL,Bool.and_eq_true,decide_eq_true_eq];omega
   have rn:=Ri t bu;have eZ:=J oy;have JM:=J rn;clear oy rn
   go_wp2
   go_round
   case rel=>exact⟨k + 1,by omega,by go_num,by rw [JM.out];(try rfl);congr 1;omega,eZ.out⟩
   case measure=>simp [intOf];omega
  ·obtain rfl:k= t.size:=by omega
   have lf:(lT s.data.toList).all lL= true:=by
    rw [bO.out,List.all_eq_true]
    have h:=fz.out
    rwa [List.take_of_length_le (by simp)] at h
   have aY:hh s.data.toList= -(ka (t.data.toList.take t.size) 0:Nat):=by
    rw [hh,dU.out,bO.out,List.take_of_length_le (by simp)];rfl
   have qk:=NJ (s:=s) (by rw [np.out];exact Mu) lf
   rw [aY] at qk
   have Ce:=J lf;have yl:=J aY;clear lf aY
   by_cases he:eN (-(ka (t.data.toList.take t.size) 0:Nat))= s
   ·have Bb:((eN (-(ka (t.data.toList.take t.size) 0:Nat))).toList == s.toList)= true:=beq_iff_eq.2 (by rw [he])
    have cW:=J he;clear he
    go_wp2_with fail
    refine (pT _ (by omega) (by omega) _).mono ?_
    rintro e bh ⟨rfl,br⟩
    go_wp2
    go_ret2
    have zk:eV s= true:=by simp only [eV,np.out,Ce.out,yl.out,cW.out];simp;omega
    exact⟨by rw [jA,zk,yl.out];rfl,br⟩
   ·have Bb:((eN (-(ka (t.data.toList.take t.size) 0:Nat))).toList == s.toList)= false:=Oj he
    have cW:=J he;clear he
    go_wp2_with fail
    refine (pT _ (by omega) (by omega) _).mono ?_
    rintro e bh ⟨rfl,br⟩
    go_wp2
    go_ret2
    have gM:eV s= false:=by
     cases aH:eV s with
     | false=>rfl
     | true=>
      simp only [eV,Bool.and_eq_true,decide_eq_true_eq,yl.out] at aH
      exact absurd aH.2.2.2 cW.out
    exact⟨by rw [jA,gM];rfl,br⟩
open Go.RowKit Go.G9
theorem KJ:Tryz.prog.globalNamed "internal/strconv.uint64pow10" =some 2:=by kernel_rfl
def jF (w:World):Prop:=2 < w.heap.size∧Lib.TabIs Tryz.prog w "internal/strconv.uint64pow10" .u64 Lib.pow10Tab
theorem jF.ae {w ah:World} (h:jF w) (aF:Below w w ah):jF ah:=⟨Nat.lt_of_lt_of_le h.1 aF.size,var?_below aF KJ h.1 h.2⟩
theorem zq (n:Int) (h0:-1000000000 < n) (h1:n < 1000000000) (w:World) (db:jF w):Calls Tryz.prog 70 #[n] w fun e ah=>e= .returned (.string (eN n))∧Below w w ah:=by
 refine (Tryz.strconv_Itoa n (by omega) (by omega) w db.2).mono ?_
 rintro e ah ⟨rfl,k,os,rfl⟩
 exact⟨rfl,rfl,rfl,rfl,by simp [Sort.grow],fun i hi=>(show (w.heap ++ os)[i]? =w.heap[i]? from Array.getElem?_append_left hi)⟩
end Go.Proofs.YtlaaemmmbodaaaaGreatDoor
namespace Go.G9
open Go.RowKit
theorem VF:∀(l:List UInt8) (a:Nat),(∀c ∈ l,lL c= true)→(a + 1) * 10 ^ l.length≤10000000→Lib.parseUint10 a l= .ok (ka l a)
 | [],a,_,_=>rfl
 | c ::l,a,h,aF=>by
  have aH:=h c (by simp)
  simp only [lL,Bool.and_eq_true,decide_eq_true_eq] at aH
  have aN:1≤10 ^ l.length:=Nat.pow_pos (by omega)
  have h3:(a + 1) * 10 ^ (l.length + 1)= (a + 1) * 10 * 10 ^ l.length:=by rw [Nat.pow_succ,Nat.mul_assoc,Nat.mul_comm 10]
  simp only [List.length_cons] at aF
  rw [h3] at aF
  have h4:(a * 10 + (c.toNat - 48) + 1) * 10 ^ l.length≤(a + 1) * 10 * 10 ^ l.length:=Nat.mul_le_mul_right _ (by omega);have h5:(a + 1) * 10 * 1≤(a + 1) * 10 * 10 ^ l.length:=Nat.mul_le_mul_left _ aN;have er:=VF l (a * 10 + (c.toNat - 48)) (fun x aw=>h x (by simp [aw])) (by omega)
  rw [Lib.parseUint10,if_pos aH,if_neg (by omega),if_neg (by omega),er]
  simp only [ka,Nat.mul_comm 10 a]
theorem adp (v:Int) (h0:-999999≤v) (h1:v≤999999):Lib.atoiAll (eN v).data.toList= .ok v:=by
 show Lib.atoiAll (Lib.itoa v)= .ok v
 have aT:∀u,u < 1000000→Lib.parseMag (Lib.decDigits u)= .ok u:=fun u hu=>by
  obtain⟨d1,d2,d3⟩:=yB u
  have e6:=we 5 u (by omega);have aN:10 ^ (Lib.decDigits u).length≤10 ^ 6:=Nat.pow_le_pow_right (by omega) e6
  rw [Lib.parseMag,if_neg d3,VF _ 0 d2 (by omega),d1]
 unfold Lib.itoa
 split
 ·rename_i h
  rw [Lib.atoiAll_minus,aT _ (by omega)]
  simp only [Lib.signed]
  rw [if_neg (by omega)]
  congr 1;omega
 ·rename_i h
  obtain⟨_,d2,d3⟩:=yB v.toNat
  have fc:=aT v.toNat (by omega)
  obtain⟨c,l,jw⟩:=List.exists_cons_of_ne_nil d3
  have aH:=d2 c (by rw [jw];simp)
  simp only [lL,Bool.and_eq_true,decide_eq_true_eq] at aH
  rw [jw] at fc ⊢
  rw [Lib.atoiAll_plain c l (by omega) (by omega),fc]
  simp only [Lib.signless]
  rw [if_neg (by omega)]
  congr 1;omega
theorem NL {s:ByteArray} (h:eV s= true):Lib.atoiAll s.data.toList= .ok (hh s.data.toList):=by
 obtain⟨e,dF,dJ⟩:=NO h
 have h2:=adp (hh s.data.toList) dF dJ
 rw [← e] at h2;exact h2
theorem akU {s:ByteArray} (h:eV s= true):s.size≤7:=by
 simp only [eV,Bool.and_eq_true,decide_eq_true_eq] at h
 have h6:=h.2.1
 have:s.data.toList.length= s.size:=by simp
 unfold lT at h6
 split at h6
 ·rw [List.length_tail] at h6;omega
 ·omega
end Go.G9
namespace Go.Proofs.YtlaaemmmbodaaaaGreatDoor
open Go.RowKit Go.G9
theorem KK:Tryz.prog.globalNamed "strconv.ErrSyntax" =some 5:=by kernel_rfl
def Ab (w:World):Prop:=5 < w.heap.size∧∃uY p,w.var? Tryz.prog "strconv.ErrSyntax" =some #[.iface uY p]
theorem Ab.ae {w ah:World} (h:Ab w) (aF:Below w w ah):Ab ah:=by
 obtain⟨h1,uY,p,h2⟩:=h
 exact⟨Nat.lt_of_lt_of_le h1 aF.size,uY,p,var?_below aF KK h1 h2⟩
theorem OW {p:Prop} (h:p:=by
 rcases rp with rfl | ⟨t,rfl⟩
 ·exact Below.refl _ _
 ·exact Lib.bytesWorld_below _ _ _):p:=h
theorem TV (s:ByteArray) (aV:s.size≤maxLen) (w:World) (bO:jF w) (cW:Ab w):Calls Tryz.prog 168 #[s] w fun e ah=>e= .returned (jA s)∧Below w w ah:=by
 unfold maxLen at aV
 have no:∀{ah:World},eV s= false→Below w w ah→(Ending.returned (.tuple #[(0:Int),false])= Ending.returned (jA s)∧Below w w ah):=fun h aF=>⟨by rw [jA,h];rfl,aF⟩
 by_cases h7:s.size≤7
 case neg=>
  have gM:eV s= false:=Bool.eq_false_iff.2 fun h=>h7 (akU h)
  go_in
  go_wp2
  go_ret2
  exact no gM (Below.refl _ _)
 cases cS:Lib.atoiAll s.data.toList
 rotate_left
 ·have gM:eV s= false:=Bool.eq_false_iff.2 fun h=>by rw [NL h] at cS;cases cS
  obtain⟨_,uY,p,MK⟩:=cW
  have jD:=J (fun W (h:W.var? Tryz.prog "strconv.ErrSyntax" =some #[.iface uY p])=>Tryz.strconv_Atoi_syntax_var s (by omega) cS uY p W h);clear cS
  go_in
  go_wp2_with fail
  refine (jD.out _ MK).mono ?_
  rintro e bh ⟨N,rfl,_,_,br⟩
  go_wp2
  go_ret2
  exact no gM br
 ·exfalso
  rw [Lib.atoiAll_short _ (by simp;omega)] at cS
  cases aw:Lib.atoi s.data.toList <;> rw [aw] at cS <;> cases cS
 ·rename_i v
  obtain⟨eu,dF⟩:=Lib.atoiAll_bounds cS
  have jD:=J (fun W=>Tryz.strconv_Atoi_ok s (by omega) v cS W)
  cases iP:eT v (-999999) 999999
  ·have gM:eV s= false:=Bool.eq_false_iff.2 fun h=>by
    have e:=NL h
    rw [cS] at e
    obtain⟨_,c0,av⟩:=NO h
    injection e with e
    rw [← e] at c0 av
    have:eT v (-999999) 999999= true:=by simp only [eT,Bool.and_eq_true,decide_eq_true_eq];omega
    rw [this] at iP;cases iP
   have rK:=J iP;clear iP cS
   go_in
   go_wp2_with fail
   refine (jD.out _).mono ?_
   rintro e bh ⟨rfl,rp⟩
   have br:Below w w bh:=by
    exact OW
   clear rp
   go_wp2_with fail
   refine (iX v (-999999) 999999 _ rK.out _).mono ?_
   rintro e w0 ⟨rfl,h0⟩
   rw [h0]
   clear h0 w0
   go_wp2
   go_ret2
   exact no gM br
  have oB:-999999≤v∧v≤999999:=by simp only [eT,Bool.and_eq_true,decide_eq_true_eq] at iP;omega
  have rK:=J iP;clear iP
  by_cases he:eN v= s
  ·have Bb:((eN v).toList == s.toList)= true:=beq_iff_eq.2 (by rw [he])
   have zk:=akT v oB.1 oB.2
   rw [he] at zk
   have gQ:=J zk;clear zk cS he
   go_in
   go_wp2_with fail
   refine (jD.out _).mono ?_
   rintro e bh ⟨rfl,rp⟩
   have br:Below w w bh:=by
    exact OW
   clear rp
   go_wp2_with fail
   refine (iX v (-999999) 999999 _ rK.out _).mono ?_
   rintro e w0 ⟨rfl,h0⟩
   rw [h0]
   clear h0 w0
   go_wp2_with fail
   refine (zq v (by omega) (by omega) _ (bO.ae br)).mono ?_
   rintro e aJ ⟨rfl,aL⟩
   go_wp2
   go_ret2
   exact⟨by rw [jA,gQ.out.1,gQ.out.2];rfl,aj br aL⟩
  ·have Bb:((eN v).toList == s.toList)= false:=Oj he
   have gM:eV s= false:=Bool.eq_false_iff.2 fun h=>by
    have e:=NL h
    rw [cS] at e
    injection e with e
    have:=(NO h).1
    rw [← e] at this
    exact he this.symm
   clear cS he
   go_in
   go_wp2_with fail
   refine (jD.out _).mono ?_
   rintro e bh ⟨rfl,rp⟩
   have br:Below w w bh:=by
    exact OW
   clear rp
   go_wp2_with fail
   refine (iX v (-999999) 999999 _ rK.out _).mono ?_
   rintro e w0 ⟨rfl,h0⟩
   rw [h0]
   clear h0 w0
   go_wp2_with fail
   refine (zq v (by omega) (by omega) _ (bO.ae br)).mono ?_
   rintro e aJ ⟨rfl,aL⟩
   go_wp2
   go_ret2
   exact no gM (aj br aL)
end Go.Proofs.YtlaaemmmbodaaaaGreatDoor
namespace Go.G9
open Go.RowKit
def jb {T:Type} (p:T→Bool) (xs:List T) (i:Nat):Bool:=match xs[i]? with | some x=>p x | none=>false
def nz {T:Type} (p:T→Bool) (xs:List T):Int:=match xs.findIdx? p with | some i=>i | none=>-1
theorem MQ {T:Type} {p:T→Bool} {xs:List T} (h:gy (fun i=>!jb p xs i) xs.length= true):nz p xs= -1:=by
 have:xs.findIdx? p= none:=by
  rw [List.findIdx?_eq_none_iff]
  intro x aw
  obtain⟨i,hi⟩:=List.getElem?_of_mem aw
  have:=lJ.1 h i (List.getElem?_eq_some_iff.1 hi).1
  simpa [jb,hi] using this
 simp [nz,this]
theorem MP {T:Type} {p:T→Bool} {xs:List T} {k:Nat} (aD:k < xs.length) (h:gy (fun i=>!jb p xs i) k= true) (aN:jb p xs k= true):nz p xs= k:=by
 have:xs.findIdx? p= some k:=by
  rw [List.findIdx?_eq_some_iff_getElem]
  refine⟨aD,?_,fun j bE=>?_⟩
  ·simpa [jb,List.getElem?_eq_getElem aD] using aN
  ·have:=lJ.1 h j bE
   simpa [jb,List.getElem?_eq_getElem (show j < xs.length by omega)] using this
 simp [nz,this]
theorem Hz {T:Type} (p:T→Bool) (xs:List T):(decide (0≤nz p xs))= xs.any p:=by
 unfold nz
 cases h:xs.findIdx? p with
 | none=>simp at h;simpa using fun x aw=>by simpa using h x aw
 | some i=>
  rw [List.findIdx?_eq_some_iff_getElem] at h
  obtain⟨hi,aN,_⟩:=h
  have:xs.any p= true:=List.any_eq_true.2 ⟨_,List.getElem_mem hi,aN⟩
  rw [this];simp
theorem aiB {T:Type} (p:T→Bool) (xs:List T):-1≤nz p xs∧nz p xs < xs.length:=by
 unfold nz
 cases h:xs.findIdx? p with
 | none=>simp;omega
 | some i=>
  rw [List.findIdx?_eq_some_iff_getElem] at h
  obtain⟨hi,_⟩:=h
  simp;omega
theorem zT {P:Program} {f:FuncId} {fn:Func} (hf:P.funcs[f]? =some fn) (agt:(fn.name == "runtime.NumGoroutine")= false) (aF:fn.body.isNone= false) (args:Array Value) (W:World):
  (callFunc f args).run P W= .ok (.enter f args) W:=by
 have h1:fn.name≠ "runtime.NumGoroutine":=by simpa using agt
 have h2:fn.body≠none:=by intro h;rw [h] at aF;simp at aF
 simp [callFunc,hf,h1,h2]
def bV (x:Int):List Value:=[.int .i64 x]
structure Str where
 s:ByteArray
 ok:s.size≤maxLen
def Str.cells (x:Str):List Value:=[.string x.s]
end Go.G9
namespace Go.Proofs.YtlaaemmmbodaaaaGreatDoor
open Go.RowKit Go.G9
theorem Rw {T:Type} {f:T→List Value} {sz:Nat} (hf:∀y,(f y).length= sz):∀(xs:List T) (i:Nat) (x y:T) (j:Nat) (u:Value),xs[i]? =some x→f y= (f x).set j u→j < sz→(xs.flatMap f).set (i * sz + j) u= (xs.set i y).flatMap f
 | [],i,x,y,j,u,h,_,_=>by simp at h
 | a ::xs,0,x,y,j,u,h,hy,bE=>by
  simp at h;subst h
  simp only [List.flatMap_cons,List.set_cons_zero,Nat.zero_mul,Nat.zero_add,hy]
  rw [List.set_append_left _ _ (by rw [hf];exact bE)]
 | a ::xs,i + 1,x,y,j,u,h,hy,bE=>by
  have er:=Rw hf xs i x y j u (by simpa using h) hy bE
  simp only [List.flatMap_cons,List.set_cons_succ]
  rw [List.set_append_right _ _ (by rw [hf,Nat.succ_mul];omega),hf,show (i + 1) * sz + j - sz= i * sz + j by rw [Nat.succ_mul];omega,er]
theorem bd.anf {T:Type} {f:T→List Value} {B sz:Nat} {e:TypeId} {w:World} {v:Value} {xs:List T} {g:Nat} (bM:bd B e sz f w v xs) (cT:v.ownBlock= some g) (hf:∀y,(f y).length= sz) {i j:Nat} {x y:T} {u:Value} (aw:xs[i]? =some x) (hy:f y= (f x).set j u) (bE:j < sz):
  bd B e sz f (w.setCell ⟨g,i * sz + j,none⟩ u) v (xs.set i y):=by
 have h:=VD (j:=i * sz + j) (u:=u) bM cT
 rw [Rw hf xs i x y j u aw hy bE] at h
 unfold bd
 rw [List.length_set]
 exact h
open Go.RowKit Go.G9
def hasB (xs:List Int) (n:Int):Bool:=xs.any (fun x=>x == n)
theorem afx {xs:List Int} {n x:Int} {k:Nat} (aw:xs[k]? =some x) (h:x= n):hasB xs n= true:=by
 subst h;exact List.any_eq_true.2 ⟨x,List.mem_of_getElem? aw,by simp⟩
theorem afw {xs:List Int} {n:Int} (h:gy (fun i=>!jb (fun x=>x == n) xs i) xs.length= true):hasB xs n= false:=by
 have:=Hz (fun x=>x == n) xs
 rw [MQ h] at this
 exact this.symm
theorem YT {p:Prop} (h:p:=by
 go_wp2
 go_roundw
 case rel=>exact⟨k + 1,by omega,by go_num,mv cB.out (by simp [jb,cc.out,he]),aF⟩
 case measure=>simp [intOf];omega):p:=h
theorem xB (A:Option Addr) (c:Nat) (xs:List Int) (n:Int) (aY:xs.length≤1048576) (v:Bool) (ax:hasB xs n= v) (w:World) (bn:aS 1 bV w A xs):
 Calls Tryz.prog 265 #[.slice A xs c,n] w fun e ah=>e= .returned v∧Below w w ah:=by
 subst ax
 go_in
 go_wp2
 go_loopw [5] (fun i wr=>∃k:Nat,k≤xs.length∧i= .int .i64 k∧gy (fun i=>!jb (fun x=>x == n) xs i) k= true∧Below w w wr) (fun i _=>xs.length - (intOf i).toNat)
 case atStart=>exact⟨0,Nat.zero_le _,rfl,rfl,Below.refl _ _⟩
 case round=>
  obtain⟨k,aD,rfl,aT,aF⟩:=hrel
  have cB:=J aT;clear aT
  by_cases bu:k < xs.length
  ·obtain⟨b,off,x,rfl,ew,aw,bz⟩:=bn.at_ aF bu
   have f0:=bz 0 _ rfl
   simp only [Nat.mul_one,Nat.add_zero] at f0
   have g0:=f0 (ay.self _)
   simp only [ay.self] at g0
   have cc:=J aw;clear aw bz
   by_cases he:x= n
   ·have tm:(x == n)= true:=beq_iff_eq.2 he
    have cW:=J he;clear he
    go_wp2
    go_ret
    exact⟨ed (afx cc.out cW.out).symm,aF⟩
   ·have tm:(x == n)= false:=beq_eq_false_iff_ne.2 he
    exact YT
  ·obtain rfl:k= xs.length:=by omega
   go_wp2
   go_ret
   exact⟨ed (afw cB.out).symm,aF⟩
theorem IW {p:Prop} (h:p:=by
 obtain rfl:k= xs.length:=by omega
 go_wp2
 go_ret
 exact⟨BJ (MQ cB.out).symm,aF⟩):p:=h
theorem aiE (A:Option Addr) (c:Nat) (xs:List Int) (n:Int) (aY:xs.length≤1048576) (v:Int) (ax:nz (fun x=>x == n) xs= v) (w:World) (bn:aS 1 bV w A xs):
 Calls Tryz.prog 270 #[.slice A xs c,n] w fun e ah=>e= .returned v∧Below w w ah:=by
 subst ax
 go_in
 go_wp2
 go_loopw [8] (fun i wr=>∃k:Nat,k≤xs.length∧i= .int .i64 k∧gy (fun i=>!jb (fun x=>x == n) xs i) k= true∧Below w w wr) (fun i _=>xs.length - (intOf i).toNat)
 case atStart=>exact⟨0,Nat.zero_le _,rfl,rfl,Below.refl _ _⟩
 case round=>
  obtain⟨k,aD,rfl,aT,aF⟩:=hrel
  have cB:=J aT;clear aT
  by_cases bu:k < xs.length
  ·obtain⟨b,off,x,rfl,ew,aw,bz⟩:=bn.at_ aF bu
   have f0:=bz 0 _ rfl
   simp only [Nat.mul_one,Nat.add_zero] at f0
   have g0:=f0 (ay.self _)
   simp only [ay.self] at g0
   have cc:=J aw;clear aw bz
   by_cases he:x= n
   ·have tm:(n == x)= true:=beq_iff_eq.2 he.symm
    have cW:=J he;clear he
    go_wp2
    go_ret
    exact⟨BJ (MP bu cB.out (by simp [jb,cc.out,cW.out])).symm,aF⟩
   ·have tm:(n == x)= false:=beq_eq_false_iff_ne.2 (Ne.symm he)
    exact YT
  ·exact IW
theorem yA (A:Option Addr) (c:Nat) (xs:List Int) (n:Int) (aY:xs.length≤1048576) (v:Bool) (ax:hasB xs n= v) (w:World) (bn:aS 1 bV w A xs):
 Calls Tryz.prog 199 #[.slice A xs c,n] w fun e ah=>e= .returned v∧Below w w ah:=by
 subst ax
 have cT:=Hz (fun x=>x == n) xs;have kF:=J cT;clear cT
 go_in
 go_wp2_with fail
 refine (aiE A c xs n aY _ rfl _ bn).mono ?_
 rintro e ah ⟨rfl,aF⟩
 go_wp2
 go_ret
 exact⟨ed kF.out,aF⟩
open Go.RowKit Go.G9
theorem rr:(Tryz.prog.info? 3).map (fun i=>(i.zero,i.size,i.bytes))= some (some (.int .i64 0),1,8):=by kernel_rfl
theorem fW (y:Int):(bV y).length= 1:=rfl
theorem nS (y:Int) (u:Value) (h:u ∈ bV y):u.oneCell'= true:=by simp [bV] at h;subst h;rfl
theorem aaz {p:Prop} (h:p:=by
 go_in
 go_wp2_with ((at_builtin;refine IN rfl _ _ 38 rfl w.heap.size 3 i0 _ 1 8 Tryz.underlying38 hi dn dC dz rfl (by decide) bV fW nS _ ([]:List Int) rfl (bd.made w (Nat.le_refl _) _) A c xs rfl (bn.alloc _) aX (by unfold maxLen;simp;omega) (by simp;omega) (by simp) ?_;intro ln bh bM cT))
 go_ret
 obtain⟨kS,cM,rfl,_,_⟩:=bM.form fW
 exact⟨kS,cM,rfl,bM,(bT _ _).trans (KL cT (by simp) (fun k aD=>Nat.le_of_eq (Option.some.inj aD)))⟩):p:=h
theorem aja (A:Option Addr) (c:Nat) (xs:List Int) (aY:xs.length≤1048576) (aX:A= none→xs= []∧c= 0) (w:World) (bn:aS 1 bV w A xs):
 Calls Tryz.prog 242 #[.slice A xs c] w fun e ah=>∃kS cM,e= .returned (.slice kS xs cM)∧bd w 3 1 bV ah (.slice kS xs cM) xs∧Below w w ah:=by
 obtain⟨i0,hi,dn,dC,dz⟩:=info_parts rr
 exact aaz
open Go.RowKit Go.G9
structure Qg where
 id:Int
 XH:ByteArray
 given:Int
 days:Int
 ok:XH.size≤maxLen
def Qg.cells (n:Qg):List Value:=[.int .i64 n.id,.string n.XH,.int .i64 n.given,.int .i64 n.days]
end Go.Proofs.YtlaaemmmbodaaaaGreatDoor
namespace Go.G9
open Go.RowKit
def BB (m s:Int) (n:Nat):List Int:=(List.range n).map fun (i:Nat)=>m + s * (i:Int)
section
variable {T rN:Type} {B:Nat} {e:TypeId} {sz:Nat} {f:T→List Value} {h:rN→List Value} {w ah:World} {v:Value} {xs:List T}
theorem bd.block (bM:bd B e sz f w v xs) (aY:0 < xs.length):∃g cap cur,v= .slice (some ⟨g,0,none⟩) xs.length cap∧B≤g∧aB w g e cur∧xs.length≤cap∧cap≤maxLen∧cur.size= cap * sz:=by
 rcases bM.2 with ⟨_,h0⟩ | ⟨g,cap,cur,ax,bG,fc,qo,mh,lA,_⟩
 ·omega
 ·exact⟨g,cap,cur,ax,bG,fc,qo,mh,lA⟩
theorem bd.empty {A:Option Addr} {n c:Nat} {m s:Int} (bM:bd B e sz f w (.slice A n c) ([]:List T)) {p:Int→List Value}:bd B e sz p w (.slice A 0 c) (BB m s 0):=by
 obtain⟨aT,bM⟩:=bM
 refine⟨by simp [BB],?_⟩
 rcases bM with ⟨ax,h0⟩ | ⟨g,cap,cur,ax,bG,fc,qo,mh,lA,uF⟩
 ·injection ax with h1 h2 h3
  subst h1 h2 h3
  exact .inl ⟨rfl,by simp [BB]⟩
 ·injection ax with h1 h2 h3
  subst h1 h3
  simp at h2
  exact .inr ⟨g,c,cur,by simp [BB],bG,fc,by simp [BB],mh,lA,by simp [BB]⟩
theorem bd.Nr {g cap:Nat} {cs:Array Value} (aF:aB w g e cs) (bG:B≤g) (aH:xs.length≤cap) (hm:cap≤maxLen) (gN:cs.size= cap * sz) (ai:∀i x,xs[i]? =some x→∀j u,(f x)[j]? =some u→cs[i * sz + j]? =some u)
  (hf:∀y,(f y).length= sz:=by intro y;rfl):bd B e sz f w (.slice g xs cap) xs:=by
 refine⟨lz hf xs,.inr ⟨g,cap,cs,rfl,bG,aF,aH,hm,gN,?_⟩⟩
 have hle:xs.length * sz≤cap * sz:=Nat.mul_le_mul_right sz aH
 apply List.ext_getElem?
 intro k
 rw [List.getElem?_take]
 by_cases aD:k < (xs.flatMap f).length
 ·obtain⟨i,j,x,aw,bE,rfl⟩:=GJ hf xs k _ (List.getElem?_eq_getElem aD)
  rw [lz hf] at aD
  rw [if_pos aD,List.getElem?_eq_getElem (l:=xs.flatMap f) (by rw [lz hf];exact aD),← ai i x aw j _ bE];simp
 ·rw [lz hf] at aD
  rw [if_neg aD,List.getElem?_eq_none (by rw [lz hf];omega)]
end
end Go.G9
namespace Go.Proofs.YtlaaemmmbodaaaaGreatDoor
open Go.RowKit Go.G9
end Go.Proofs.YtlaaemmmbodaaaaGreatDoor
namespace Go.G9
open Go.RowKit
def oK (p:Int→Bool) (S:List Int):Nat→Nat
 | 0=>0
 | j + 1=>match S[j]? with | some z=>if p z then oK p S j else j + 1 | none=>j + 1
def xz (p:Int→Bool) (S:List Int) (z:Int):List Int:=S.take (oK p S S.length) ++ z ::S.drop (oK p S S.length)
def ih (c:Int→Int→Int) (xs:List Int):Nat→List Int
 | 0=>[]
 | i + 1=>match xs[i]? with | some x=>xz (fun z=>decide (c x z < 0)) (ih c xs i) x | none=>ih c xs i
theorem NY (p:Int→Bool) (S:List Int):∀j,oK p S j≤j
 | 0=>Nat.le_refl _
 | j + 1=>by
  have:=NY p S j
  unfold oK
  split
  ·split <;> omega
  ·omega
theorem WW {p:Int→Bool} {S:List Int} {j:Nat} {z:Int} (ck:S[j]? =some z) (aN:p z= true):oK p S (j + 1)= oK p S j:=by
 rw [oK,ck];simp [aN]
theorem WU {p:Int→Bool} {S:List Int} {j:Nat} {z:Int} (ck:S[j]? =some z) (aN:p z= false):oK p S (j + 1)= j + 1:=by
 rw [oK,ck];simp [aN]
theorem aiG (p:Int→Bool) (S:List Int) (z:Int):(xz p S z).length= S.length + 1:=by
 have:=NY p S S.length
 simp [xz];omega
section
variable {c:Int→Int→Int} {xs:List Int}
theorem Iz {k:Nat} {x:Int} (aw:xs[k]? =some x):ih c xs (k + 1)= xz (fun z=>decide (c x z < 0)) (ih c xs k) x:=by rw [ih,aw]
theorem uW:∀k,k≤xs.length→(ih c xs k).length= k
 | 0,_=>rfl
 | k + 1,h=>by
  have er:=uW k (by omega)
  rw [Iz (List.getElem?_eq_getElem (by omega:k < xs.length)),aiG,er]
theorem IA:∀k z,z ∈ ih c xs k→z ∈ xs
 | 0,z,ck=>by simp [ih] at ck
 | k + 1,z,ck=>by
  cases aw:xs[k]? with
  | none=>rw [ih,aw] at ck;exact IA k z ck
  | some x=>
   rw [Iz aw] at ck
   simp only [xz,List.mem_append,List.mem_cons] at ck
   rcases ck with ck | rfl | ck
   ·exact IA k z (List.mem_of_mem_take ck)
   ·exact List.mem_of_getElem? aw
   ·exact IA k z (List.mem_of_mem_drop ck)
def oJ (c:Int→Int→Int) (xs:List Int) (k:Nat) (x:Int) (j:Nat):List Int:=(ih c xs k).take j ++ x ::((ih c xs k).drop j ++ xs.drop (k + 1))
def tP (c:Int→Int→Int) (xs:List Int) (k:Nat):List Int:=ih c xs k ++ xs.drop k
theorem WA {k:Nat} {x:Int} (aw:xs[k]? =some x):tP c xs k= oJ c xs k x k:=by
 obtain⟨h,he⟩:=List.getElem?_eq_some_iff.1 aw
 have aT:=uW (c:=c) (xs:=xs) k (by omega)
 unfold tP oJ
 rw [List.drop_eq_getElem_cons h,he,List.take_of_length_le (by omega),List.drop_of_length_le (l:=ih c xs k) (by omega),List.nil_append]
theorem alI {k j:Nat} {x:Int} (h:k < xs.length) (bE:j≤k):(oJ c xs k x j)[j]? =some x:=by
 have aT:=uW (c:=c) (xs:=xs) k (by omega)
 unfold oJ
 rw [List.getElem?_append_right (by simp;omega)]
 simp [aT,Nat.min_eq_left bE]
theorem alJ {k j:Nat} {x z:Int} (h:k < xs.length) (bE:j < k) (ck:(ih c xs k)[j]? =some z):(oJ c xs k x (j + 1))[j]? =some z:=by
 have aT:=uW (c:=c) (xs:=xs) k (by omega)
 unfold oJ
 rw [List.getElem?_append_left (by simp;omega),List.getElem?_take,if_pos (by omega)]
 exact ck
theorem alK {k j:Nat} {x z:Int} (h:k < xs.length) (bE:j < k) (ck:(ih c xs k)[j]? =some z):
  oJ c xs k x (j + 1)= (ih c xs k).take j ++ (z ::x ::((ih c xs k).drop (j + 1) ++ xs.drop (k + 1)))∧oJ c xs k x j= (ih c xs k).take j ++ (x ::z ::((ih c xs k).drop (j + 1) ++ xs.drop (k + 1))):=by
 have aT:=uW (c:=c) (xs:=xs) k (by omega)
 have ic:j < (ih c xs k).length:=by omega
 have TJ:(ih c xs k)[j]= z:=by rw [List.getElem?_eq_getElem ic] at ck;exact Option.some.inj ck
 unfold oJ
 refine⟨?_,?_⟩
 ·rw [List.take_succ_eq_append_getElem ic,TJ];simp
 ·rw [List.drop_eq_getElem_cons ic,TJ];simp
theorem alL {k j:Nat} {x z:Int} (h:k < xs.length) (bE:j < k) (ck:(ih c xs k)[j]? =some z):
  ((oJ c xs k x (j + 1)).set (j + 1) z).set j x= oJ c xs k x j:=by
 obtain⟨e1,e2⟩:=alK (x:=x) h bE ck
 have aT:=uW (c:=c) (xs:=xs) k (by omega)
 have tA:((ih c xs k).take j).length= j:=by rw [List.length_take];omega
 rw [e1,e2]
 rw [List.set_append_right _ _ (by omega),tA,show j + 1 - j= 1 by omega,List.set_cons_succ,List.set_cons_zero,List.set_append_right _ _ (by omega),tA,Nat.sub_self,List.set_cons_zero]
theorem NW {k j:Nat} {x:Int} (aw:xs[k]? =some x) (aV:oK (fun z=>decide (c x z < 0)) (ih c xs k) k= j):oJ c xs k x j= tP c xs (k + 1):=by
 have h:=(List.getElem?_eq_some_iff.1 aw).1;have aT:=uW (c:=c) (xs:=xs) k (by omega)
 unfold oJ tP
 rw [Iz aw]
 simp only [xz,aT,aV]
 simp
theorem WB {k j:Nat} {x:Int} (h:k < xs.length) (bE:j≤k):(oJ c xs k x j).length= xs.length:=by
 have aT:=uW (c:=c) (xs:=xs) k (by omega)
 simp [oJ,aT];omega
theorem alH:tP c xs 0= xs:=by simp [tP,ih]
theorem alG:tP c xs 1= xs:=by
 cases xs with
 | nil=>rfl
 | cons x r=>
  have aw:(x ::r)[0]? =some x:=rfl
  conv=>rhs;rw [← alH (c:=c) (xs:=x ::r)]
  rw [WA aw,NW (j:=0) aw rfl]
theorem alF {k:Nat} (h1:k≤xs.length∨k= 1) (h2:¬k < xs.length):tP c xs k= ih c xs xs.length:=by
 rcases h1 with h1 | h1
 ·obtain rfl:k= xs.length:=by omega
  rw [tP,List.drop_length,List.append_nil]
 ·subst h1
  by_cases h:xs.length= 1
  ·rw [tP,← h,List.drop_length,List.append_nil]
  ·have:xs= []:=List.length_eq_zero_iff.1 (by omega)
   subst this;rfl
end
end Go.G9
namespace Go.Proofs.YtlaaemmmbodaaaaGreatDoor
open Go.RowKit Go.G9
theorem ET {B n c:Nat} {e:TypeId} {w:World} {g:Nat} {D:List Int} (bM:bd B e 1 bV w (.slice g n c) D) {j:Nat} {z:Int} (ck:D[j]? =some z):w.cell? ⟨g,j,none⟩ =some (.int .i64 z)∧w.frozen? ⟨g,j,none⟩ =false:=by
 have bE:j < D.length:=(List.getElem?_eq_some_iff.1 ck).1
 have aT:(D.flatMap bV).length= D.length:=by rw [lz fW,Nat.mul_one]
 obtain⟨h1,h2⟩:=VC (j:=j) bM rfl (by rw [aT];exact bE)
 refine⟨h1.trans ?_,h2⟩
 have h3:=AP fW D j z ck 0 (.int .i64 z) rfl
 rw [Nat.mul_one,Nat.add_zero,List.getElem?_eq_getElem (by rw [aT];exact bE)] at h3
 exact h3
theorem VA {B n c:Nat} {e:TypeId} {w:World} {g:Nat} {D:List Int} (bM:bd B e 1 bV w (.slice g n c) D) {j:Nat} (bE:j < D.length) (y:Int):bd B e 1 bV (w.setCell ⟨g,j,none⟩ (.int .i64 y)) (.slice g n c) (D.set j y):=by
 have h:=bd.anf (u:= .int .i64 y) (i:=j) (j:=0) (x:=D[j]) (y:=y) bM rfl fW (List.getElem?_eq_getElem bE) (by simp [bV]) (by decide)
 simpa using h
theorem aiK (c:Int→Int→Int) (xs:List Int) (aY:xs.length≤20) (B g cap:Nat) (eu:Nat) (w:World) (mR:B≤g) (mS:B≤w.heap.size)
  (bM:bd B 3 1 bV w (.slice g xs cap) xs) (hf:∀x z,x ∈ xs→z ∈ xs→∀W,w.grownBy W (some g)→Calls Tryz.prog 251 #[.int .i64 x,.int .i64 z,.pointer (some ⟨eu,0,none⟩)] W fun e ah=>e= .returned (.int .i64 (c x z))∧Below W W ah):
 Calls Tryz.prog 326 #[.slice g xs cap,(0:Int),xs.length,.func (.func 251) #[] #[.pointer (some ⟨eu,0,none⟩)]] w fun e ah=>
  e= .returned (.tuple #[])∧bd B 3 1 bV ah (.slice g xs cap) (ih c xs xs.length)∧w.grownBy ah (some g):=by
 have cC:=J hf;clear hf
 go_in
 go_wp2
 go_loopw [8,9] (fun i _ wr=>∃k:Nat,1≤k∧(k≤xs.length∨k= 1)∧i= .int .i64 k∧bd B 3 1 bV wr (.slice g xs cap) (tP c xs k)∧w.grownBy wr (some g)) (fun i _ _=>xs.length - (intOf i).toNat)
 case atStart=>exact⟨1,Nat.le_refl _,.inr rfl,rfl,by rw [alG];exact bM,vE _ _⟩
 case round=>
  clear bM
  obtain⟨k,tr,aD,rfl,gY,ha⟩:=hrel
  by_cases bu:k < xs.length
  ·obtain⟨x,aw⟩ :∃x,xs[k]? =some x:=⟨_,List.getElem?_eq_getElem bu⟩
   rw [WA aw] at gY
   have cc:=J aw;clear aw;have kG:=J gY;clear gY
   go_wp2
   go_loopw [9] (fun j ws=>∃q:Nat,q≤k∧j= .int .i64 q∧oK (fun z=>decide (c x z < 0)) (ih c xs k) k= oK (fun z=>decide (c x z < 0)) (ih c xs k) q∧bd B 3 1 bV ws (.slice g xs cap) (oJ c xs k x q)∧w.grownBy ws (some g)) (fun j _=>(intOf j).toNat)
   case atStart=>exact⟨k,Nat.le_refl _,rfl,rfl,kG.out,ha⟩
   case round=>
    clear kG
    obtain⟨q,bj,rfl,Hp,nO,hN⟩:=hrel
    have hs:=J nO;have dU:=J Hp;clear nO Hp
    by_cases ix:q= 0
    ·subst ix
     go_wp2
     refine eK (by kernel_rfl) (by kernel_rfl) ?_
     repeat (go_big_quiet_step ((fail)))
     refine wpQuiet_nil ?_
     intro K
     go_wp2
     go_roundw
     case rel=>exact⟨k + 1,by omega,.inl (by omega),by go_num,by rw [← NW cc.out dU.out];exact hs.out.bm K.ae,pH hN (ly K.ae _)⟩
     case measure=>simp [intOf];omega
    ·obtain⟨ff,rfl⟩ :∃ff,q= ff + 1:=⟨q - 1,by omega⟩
     have se:=uW (c:=c) (xs:=xs) k (by omega)
     obtain⟨z,ck⟩ :∃z,(ih c xs k)[ff]? =some z:=⟨_,List.getElem?_eq_getElem (by omega)⟩
     have TL:z ∈ xs:=IA k z (List.mem_of_getElem? ck)
     obtain⟨v,ax⟩ :∃v,c x z= v:=⟨_,rfl⟩
     have gp:Hid (∀W,Below wr wr W→Calls Tryz.prog 251 #[.int .i64 x,.int .i64 z,.pointer (some ⟨eu,0,none⟩)] W fun e ah=>e= .returned (.int .i64 v)∧Below W W ah):=J fun W bL=>by
      rw [← ax]
      exact cC.out x z (List.mem_of_getElem? cc.out) TL W (pH hN (ly bL _))
     have Hb:decide (c x z < 0)= decide (v < 0):=by rw [ax]
     have Pr:=J Hb;have bg:=J ck;have nG:=J (alI (c:=c) (xs:=xs) (x:=x) bu bj);have PA:=J (alJ (x:=x) bu (show ff < k by omega) ck);clear Hb ck ax TL se
     have av:=fun K:ay wr.heap.size wr=>(ET (hs.out.bm K.ae) nG.out).1
     have c2:=fun K:ay wr.heap.size wr=>(ET (hs.out.bm K.ae) PA.out).1
     by_cases Mf:v < 0
     ·go_wp2
      refine eK (by kernel_rfl) (by kernel_rfl) ?_
      repeat (go_big_quiet_step ((go_at_call 251;exact ay.call _ (by first | exact Nat.le_refl _ | omega) (gp.out _ (ay.ae _)))))
      refine wpQuiet_nil ?_
      intro K
      have mA:=hs.out.bm K.ae;have yP:=pH hN (ly K.ae _);clear av c2
      generalize K.world= Gl at *
      obtain⟨av,f1⟩:=ET mA nG.out
      obtain⟨c2,f2⟩:=ET mA PA.out
      have ji:=J mA;clear mA
      go_wp2
      go_region
      have fb:bd B 3 1 bV (World.drew (World.setCell (World.setCell Gl ⟨g,ff + 1,none⟩ (.int .i64 z)) ⟨g,ff,none⟩ (.int .i64 x))) (.slice g xs cap) (oJ c xs k x ff):=by
       have h:=VA (VA ji.out (j:=ff + 1) (by rw [WB bu bj];omega) z) (j:=ff) (by rw [List.length_set,WB bu bj];omega) x
       rw [alL bu (by omega) bg.out] at h
       exact h.bm (Below.refl _ _).drew
      have gq:=pH (uu (j:=ff) (uu (j:=ff + 1) yP (.int .i64 z)) (.int .i64 x)) (ly (Below.refl _ (World.setCell (World.setCell Gl ⟨g,ff + 1,none⟩ (.int .i64 z)) ⟨g,ff,none⟩ (.int .i64 x))).drew (some g));clear av c2 f1 f2 ji
      generalize (World.drew (World.setCell (World.setCell Gl ⟨g,ff + 1,none⟩ (.int .i64 z)) ⟨g,ff,none⟩ (.int .i64 x)))= nK at *
      go_wp2
      go_roundw
      case rel=>exact⟨ff,by omega,by go_num,dU.out.trans (WW bg.out (by rw [Pr.out];exact decide_eq_true Mf)),fb,gq⟩
      case measure=>simp [intOf]
     ·go_wp2
      refine eK (by kernel_rfl) (by kernel_rfl) ?_
      repeat (go_big_quiet_step ((go_at_call 251;exact ay.call _ (by first | exact Nat.le_refl _ | omega) (gp.out _ (ay.ae _)))))
      refine wpQuiet_nil ?_
      intro K
      have mA:=hs.out.bm K.ae;have yP:=pH hN (ly K.ae _);clear av c2
      generalize K.world= Gl at *
      go_wp2
      go_roundw
      case rel=>exact⟨k + 1,by omega,.inl (by omega),by go_num,by rw [← NW cc.out (dU.out.trans (WU bg.out (by rw [Pr.out];exact decide_eq_false (by omega))))];exact mA,yP⟩
      case measure=>simp [intOf];omega
  ·go_wp2
   refine⟨rfl,Value.tuple #[],by simp [results,Tryz.results326,go_sem],rfl,?_,ha⟩
   rw [← alF aD bu];exact gY
theorem anw (c:Int→Int→Int) (xs:List Int) (aY:xs.length≤20) (Tk:xs.length < 20) (B g cap:Nat) (eu:Nat) (w:World) (mR:B≤g) (mS:B≤w.heap.size)
  (bM:bd B 3 1 bV w (.slice g xs cap) xs) (hf:∀x z,x ∈ xs→z ∈ xs→∀W,w.grownBy W (some g)→Calls Tryz.prog 251 #[.int .i64 x,.int .i64 z,.pointer (some ⟨eu,0,none⟩)] W fun e ah=>e= .returned (.int .i64 (c x z))∧Below W W ah):
 Calls Tryz.prog 301 #[.slice g xs cap,xs.length,.func (.func 251) #[] #[.pointer (some ⟨eu,0,none⟩)]] w fun e ah=>
  e= .returned (.tuple #[])∧bd B 3 1 bV ah (.slice g xs cap) (ih c xs xs.length)∧w.grownBy ah (some g):=by
 have hT:=J (aiK c xs aY B g cap eu w mR mS bM hf);clear bM hf
 go_in
 go_wp2
 go_loopw [7,8] (fun a b wr=>a= .int .i64 0∧b= .int .i64 20∧wr= w) (fun _ _ _=>0)
 case atStart=>exact⟨rfl,rfl,rfl⟩
 case round=>
  obtain⟨rfl,rfl,rfl⟩:=hrel
  go_wp2_with fail
  refine hT.out.mono ?_
  rintro e bh ⟨rfl,gY,ha⟩
  go_wp2
  go_loopw [6,7,8] (fun a _ _ wr=>a= .int .i64 20∧wr= bh) (fun _ _ _ _=>0)
  case atStart=>exact⟨rfl,rfl⟩
  case round=>
   obtain⟨rfl,rfl⟩:=hrel
   go_wp2
   exact⟨rfl,Value.tuple #[],by simp [results,Tryz.results301,go_sem],rfl,gY,ha⟩
theorem ank (c:Int→Int→Int) (xs:List Int) (Tk:xs.length < 20) (B g cap:Nat) (eu:Nat) (w:World) (mR:B≤g) (mS:B≤w.heap.size)
  (bM:bd B 3 1 bV w (.slice g xs cap) xs) (hf:∀x z,x ∈ xs→z ∈ xs→∀W,w.grownBy W (some g)→Calls Tryz.prog 251 #[.int .i64 x,.int .i64 z,.pointer (some ⟨eu,0,none⟩)] W fun e ah=>e= .returned (.int .i64 (c x z))∧Below W W ah):
 Calls Tryz.prog 250 #[.slice g xs cap,.func (.func 251) #[] #[.pointer (some ⟨eu,0,none⟩)]] w fun e ah=>
  e= .returned (.tuple #[])∧bd B 3 1 bV ah (.slice g xs cap) (ih c xs xs.length)∧w.grownBy ah (some g):=by
 have hT:=J (anw c xs (by omega) Tk B g cap eu w mR mS bM hf);clear bM hf
 go_in
 go_wp2_with fail
 refine hT.out.mono ?_
 rintro e bh ⟨rfl,gY,ha⟩
 go_wp2
 exact⟨rfl,Value.tuple #[],by simp [results,Tryz.results250,go_sem],rfl,gY,ha⟩
end Go.Proofs.YtlaaemmmbodaaaaGreatDoor
namespace Go.G9
open Go.RowKit
def Kf (fS:List Value) (a b:Nat):Prop:=∀v ∈ fS,∀k,v.ownBlock= some k→a≤k∧k < b
structure Ac (w ah:World) (fS:List Value):Prop where
 os:ah.os= w.os
 tape:ah.tape= w.tape
 output:ah.output= w.output
 size:w.heap.size≤ah.heap.size
 block:∀i,i < w.heap.size→(∀v ∈ fS,v.ownBlock≠some i)→ah.heap[i]? =w.heap[i]?
theorem Ac.trans {w bh aJ:World} {fS us:List Value} (h:Ac w bh fS) (k:Ac bh aJ us):Ac w aJ (fS ++ us):=
 ⟨k.os.trans h.os,k.tape.trans h.tape,k.output.trans h.output,Nat.le_trans h.size k.size,fun i hi ax=>(k.block i (Nat.lt_of_lt_of_le hi h.size) (fun v hm=>ax v (List.mem_append_right _ hm))).trans (h.block i hi (fun v hm=>ax v (List.mem_append_left _ hm)))⟩
theorem Ac.ae {w ah:World} {us:List Value} {B c d:Nat} (h:Ac w ah us) (hu:Kf us c d) (aH:B≤c) (bG:B≤w.heap.size):Below B w ah:=
 ⟨h.os,h.tape,h.output,h.size,fun i hi=>h.block i (Nat.lt_of_lt_of_le hi bG) (fun v ax e=>by have:=(hu v ax i e).1;omega)⟩
def wI (fS:List Value):Prop:=fS.Pairwise fun u v=>∀k,u.ownBlock= some k→some k≠v.ownBlock
theorem wI.at {fS:List Value} (h:wI fS) {i j:Nat} (xn:i < j) {u v:Value} (hu:fS[i]? =some u) (ax:fS[j]? =some v):∀k,u.ownBlock= some k→some k≠v.ownBlock:=by
 obtain⟨hi,rfl⟩:=List.getElem?_eq_some_iff.1 hu
 obtain⟨bE,rfl⟩:=List.getElem?_eq_some_iff.1 ax
 exact (List.pairwise_iff_getElem.1 h) i j hi bE xn
open Go.RowKit
theorem kC {P:Program} {w:World} {ops:Array Oper} {rest:List Oper} {o:Oper} {a:Act} {Q:Exit→Act→World→Prop} (mC:o.guard= none) (s x:Operand) (t:TypeId)
  (cG:o.op= .call {callee:= .builtin .append,args:=#[s,x],argTypes:=#[t,t]})
  (B:Nat) (e:TypeId) (i:TypeInfo) (z:Value) (sz bytes:Nat) (ct:P.underlying t= some (.slice e)) (hi:P.info? e= some i) (ck:i.zero= some z)
  (tx:i.size= sz) (ti:i.bytes= bytes) (tF:z.cells.size= sz) (gN:0 < sz) {T:Type} (f:T→List Value) (hf:∀y,(f y).length= sz) (jR:∀y u,u ∈ f y→u.oneCell'= true)
  (v:Value) (xs:List T) (aV:a.eval s= v) (Em:bd B e sz f w v xs) (iV:Addr) (c2:Nat) (y:T) (aw:a.eval x= .slice (some iV) 1 c2) (bn:aS sz f w (some iV) [y])
  (h63:xs.length + 1≤maxLen) (tj:(xs.length + 1) * bytes≤140737488355328) (DT:B≤w.heap.size)
  (h:∀ln ah,bd B e sz f ah ln (xs ++ [y])→w.grownBy ah v.ownBlock→(ln.ownBlock= v.ownBlock∨ln.ownBlock= some w.heap.size)→wpList P ops Q rest (a.put o.dst ln) ah):wpList P ops Q (o ::rest) a w:=by
 refine wpList_append_own_at w mC s x t cG B e i z sz bytes ct hi ck tx ti tF gN v xs.length (xs.flatMap f) aV Em iV 1 c2 ([y].flatMap f) aw (by rw [lz hf];simp) (fun j u hu=>aS.flat bn hf j u hu)
  (fun u hu=>by obtain⟨lq,_,hy⟩:=List.mem_flatMap.1 hu;exact jR lq u hy) h63 tj DT (fun ln ah h1 h2 _ h4=>h ln ah ?_ h2 h4)
 unfold bd;rw [List.length_append,List.flatMap_append];exact h1
theorem bd.built {T:Type} {B sz:Nat} {f:T→List Value} (w:World) (xs:List T) (e:TypeId) (bG:B≤w.heap.size) (hm:xs.length≤maxLen) (hf:∀y,(f y).length= sz):
  bd B e sz f (w.alloc (.cells (xs.flatMap f).toArray e)) (.slice w.heap.size xs xs) xs:=
 bd.Nr (aB.new w e _) bG (Nat.le_refl _) hm (by simp [lz hf]) (fun i x aw j u hu=>by simpa using AP hf xs i x aw j u hu) hf
def px (u v:Value):Prop:=∀k,u.ownBlock= some k→v.ownBlock≠some k
theorem px.symm {u v:Value} (h:px u v):px v u:=fun k h1 h2=>h k h2 h1
theorem px.step {u lU v:Value} {H:Nat} (h:px u v) (ax:∀k,v.ownBlock= some k→k < H) (cS:lU.ownBlock= u.ownBlock∨lU.ownBlock= some H):px lU v:=fun k h1 h2=>by
 rcases cS with cS | cS
 ·exact h k (cS ▸ h1) h2
 ·rw [cS] at h1;have:=ax k h2;injection h1 with h1;omega
theorem bd.ne {T:Type} {B sz:Nat} {e:TypeId} {f:T→List Value} {w ah:World} {u v:Value} {xs:List T} (h:bd B e sz f w v xs) (cT:w.grownBy ah u.ownBlock) (aY:px u v):bd B e sz f ah v xs:=
 h.kept cT (fun k h1 h2=>aY k h2.symm h1)
open Go.RowKit
theorem aB.setRow {w:World} {g:Nat} {t:TypeId} {cs sV:Array Value} (h:aB w g t cs):aB (w.setRow g sV) g t sV:=setRow_heap w g cs sV t (0,0) h
theorem Dp {w:World} {g:Nat} {sV:Array Value}:w.grownBy (w.setRow g sV) (some g):=
 ⟨rfl,rfl,rfl,by simp,fun i _ eM=>by
  unfold World.setRow
  simp only [Array.getElem?_modify]
  rw [if_neg (fun e=>eM (by rw [e]))]⟩
theorem aoh {P:Program} {w:World} {ops:Array Oper} {rest:List Oper} {o:Oper} {a:Act} {Q:Exit→Act→World→Prop} (mC:o.guard= none) (s x:Operand) (t:TypeId)
  (cG:o.op= .call {callee:= .builtin .append,args:=#[s,x],argTypes:=#[t,t]})
  (e:TypeId) (i:TypeInfo) (ct:P.underlying t= some (.slice e)) (hi:P.info? e= some i) (g n cap:Nat) (cur:Array Value) (aV:a.eval s= .slice g n cap) (cT:aB w g e cur)
  (iV:Addr) (m c:Nat) (news:List Value) (aw:a.eval x= .slice (some iV) m c) (aT:news.length= m * i.size) (agv:∀j u,news[j]? =some u→w.cell? (iV.add j)= some u) (h1:∀u ∈ news,u.oneCell'= true)
  (Mw:n + m≤cap) (vO:n * i.size + news.length≤cur.size)
  (h:∀(eF:World) (sV:List Value),sV= cur.toList.take (n * i.size) ++ news ++ cur.toList.drop (n * i.size + news.length)→aB eF g e sV.toArray→w.grownBy eF (some g)→wpList P ops Q rest (a.put o.dst (.slice g (n + m) cap)) eF):wpList P ops Q (o ::rest) a w:=by
 refine wpList_plain mC fun _ gf=>?_
 have bp:=run_append_room (P:=P) w t o.type e i ct hi g n cap cur cT iV m c news aT agv h1 Mw vO
 unfold Oper.wp execOp
 simp only [cG,resolve,invoke,builtin,Sem.run_bind,Sem.run_pure,Result.andThen_ok,List.map_toArray,List.map_cons,List.map_nil,aV,aw,bp]
 exact gf _ _ (h _ _ rfl cT.setRow Dp)
theorem bd.whole {T:Type} {B sz:Nat} {f:T→List Value} {e:TypeId} {w:World} {v:Value} {xs:List T} (bM:bd B e sz f w v xs) (hf:∀y,(f y).length= sz) (aY:0 < xs.length):
  ∃g cap cs,v= .slice (some ⟨g,0,none⟩) xs.length cap∧B≤g∧aB w g e cs∧xs.length≤cap∧cap≤maxLen∧cs.size= cap * sz∧∀i x,xs[i]? =some x→∀j u,(f x)[j]? =some u→cs[i * sz + j]? =some u:=by
 rcases bM.2 with ⟨_,h0⟩ | ⟨g,cap,cur,ax,bG,fc,qo,mh,lA,uF⟩
 ·omega
 ·refine⟨g,cap,cur,ax,bG,fc,qo,mh,lA,fun i x aw j u hu=>?_⟩
  have h1:=AP hf xs i x aw j u hu
  rw [← uF,List.getElem?_take] at h1
  split at h1
  ·simpa using h1
  ·cases h1
theorem Rv {T:Type} {sz:Nat} {f:T→List Value} (hf:∀y,(f y).length= sz) (xs:List T) (k j:Nat) (u:Value) (h:((xs.drop k).flatMap f)[j]? =some u):(xs.flatMap f)[k * sz + j]? =some u:=by
 obtain⟨i,qu,x,aw,bE,rfl⟩:=GJ hf _ _ _ h
 rw [List.getElem?_drop] at aw
 have:=AP hf xs (k + i) x aw qu u bE
 rwa [Nat.add_mul,Nat.add_assoc] at this
open Go.RowKit
theorem Yd {P:Program} {w:World} {ops:Array Oper} {rest:List Oper} {o:Oper} {a:Act} {Q:Exit→Act→World→Prop} (mC:o.guard= none) (s x:Operand) (t:TypeId)
  (cG:o.op= .call {callee:= .builtin .append,args:=#[s,x],argTypes:=#[t,t]})
  (B:Nat) (e:TypeId) (i:TypeInfo) (z:Value) (sz bytes:Nat) (ct:P.underlying t= some (.slice e)) (hi:P.info? e= some i) (ck:i.zero= some z)
  (tx:i.size= sz) (ti:i.bytes= bytes) (tF:z.cells.size= sz) (gN:0 < sz) {T:Type} (f:T→List Value) (hf:∀y,(f y).length= sz) (aoB:∀y u,u ∈ f y→u.oneCell'= true)
  (g:Nat) (aV:a.eval s= .slice g 0 0) (cT:aB w g e #[]) (mR:B≤g) (iV:Addr) (c2:Nat) (ys:List T) (aw:a.eval x= .slice (some iV) ys c2) (bn:aS sz f w (some iV) ys)
  (h63:ys.length≤maxLen) (tj:ys.length * bytes≤140737488355328)
  (h:∀bA cM ah,bd B e sz f ah (.slice (some ⟨bA,0,none⟩) ys cM) ys→Below w w ah→(bA= g∨w.heap.size≤bA)→wpList P ops Q rest (a.put o.dst (.slice (some ⟨bA,0,none⟩) ys cM)) ah):wpList P ops Q (o ::rest) a w:=by
 rcases Nat.eq_zero_or_pos ys.length with h0 | h0
 ·have hy:ys= []:=List.length_eq_zero_iff.1 h0
  subst hy
  refine aoh mC s x t cG e i ct hi g 0 0 #[] aV cT iV 0 c2 [] aw (by simp) (fun j u hu=>by simp at hu) (fun u hu=>by simp at hu) (by omega) (by simp) fun eF sV lA aF Ee=>?_
  have afI:sV= []:=by rw [lA];simp
  subst afI
  have fh:aB eF g e #[]:=aF
  refine h g 0 eF ?_ ⟨Ee.os,Ee.tape,Ee.output,Ee.size,fun k aD=>?_⟩ (.inl rfl)
  ·exact bd.filled (xs:=[]) fh mR (by simp) (by unfold maxLen;simp) (by simp) hf
  ·by_cases SY:k= g
   ·subst SY;exact Eq.trans fh (Eq.symm cT)
   ·exact Ee.block k aD (fun e=>SY (Option.some.inj e))
 ·subst tx;subst ti
  have uA:=grownCap_ge w (0 + ys.length) 0 e;have mh:=grownCap_le_maxLen w (0 + ys.length) 0 e (by omega);have jo:=h63
  unfold maxLen at jo
  have bp:=run_append_grow (P:=P) w t o.type e i z ct hi ck ⟨g,0,none⟩ 0 0 [] (by simp) (by intro j v bE;simp at bE) iV ys.length c2 (ys.flatMap f) (lz hf ys) (fun j u hu=>aS.flat bn hf j u hu)
   (by omega) (by omega) (by rw [Nat.zero_add,nextslicecap_zero h0];omega)
  refine wpList_plain mC fun _ gf=>?_
  unfold Oper.wp execOp
  simp only [cG,resolve,invoke,builtin,Sem.run_bind,Sem.run_pure,Result.andThen_ok,List.map_toArray,List.map_cons,List.map_nil,aV,aw,bp]
  refine gf _ _ ?_
  rw [Nat.zero_add]
  rw [Nat.zero_add] at uA mh
  refine h w.heap.size _ _ ?_ ⟨rfl,rfl,rfl,by simp,fun k aD=>(bT w.drew _).block k aD⟩ (.inr (Nat.le_refl _))
  refine⟨lz hf ys,.inr ⟨w.heap.size,_,_,rfl,Nat.le_trans mR (Nat.le_of_lt (Array.getElem?_eq_some_iff.1 cT).1),(aB.new w.drew _ _),uA,mh,?_,?_⟩⟩
  ·simp only [Array.size_append,List.size_toArray,size_zeroCells,tF,lz hf,List.length_nil,Nat.zero_add,← Nat.add_mul]
   congr 1
   omega
  ·simp [lz hf]
end Go.G9
namespace Go.Proofs.YtlaaemmmbodaaaaGreatDoor
open Go.RowKit Go.G9
structure Qn where
 Vd:ByteArray
 hx:Int
 yes:Int
 no:Int
 bq:Int
 ok:Vd.size≤maxLen
def Qn.cells (r:Qn):List Value:=[.string r.Vd,.int .i64 r.hx,.int .i64 r.yes,.int .i64 r.no,.int .i64 r.bq]
def sy (y n a:Int):Bool:=eT y 0 1000 && (eT n 0 1000 && eT a 0 1000)
theorem Zb {p:Prop} (h:p:=by
 subst ax
 go_in
 go_wp2_with (go_at_call 79;refine (iX _ _ _ _ rfl _).mono ?_;rintro e ah ⟨rfl,rfl⟩)
 go_ret
 exact⟨rfl,rfl⟩):p:=h
theorem adg (n:Int) (v:Bool) (ax:eT n 0 1000= v) (w:World):Calls Tryz.prog 328 #[n] w fun e ah=>e= .returned v∧ah= w:=by
 exact Zb
theorem aiY (n:Int) (v:Bool) (ax:eT n 0 1000= v) (w:World):Calls Tryz.prog 315 #[n] w fun e ah=>e= .returned v∧ah= w:=by
 subst ax
 go_in
 go_wp2_with (go_at_call 186;refine (jq _ _ _ _ rfl _).mono ?_;rintro e ah ⟨rfl,rfl⟩)
 go_ret
 exact⟨rfl,rfl⟩
theorem aiP (n:Int) (v:Bool) (ax:eT n 1 3= v) (w:World):Calls Tryz.prog 282 #[n] w fun e ah=>e= .returned v∧ah= w:=by
 exact Zb
theorem MR (y n a:Int) (v:Bool) (ax:sy y n a= v) (w:World):Calls Tryz.prog 304 #[.agg #[y,n,a]] w fun e ah=>e= .returned v∧Below w w ah:=by
 subst ax
 go_in
 go_wp2_with (go_at_call 328;refine (adg _ _ rfl _).mono ?_;rintro e ah ⟨rfl,rfl⟩)
 all_goals go_ret
 all_goals exact⟨by simp [sy, *],bT _ _⟩
theorem MT (y n a:Int) (v:Bool) (ax:sy y n a= v) (w:World):Calls Tryz.prog 287 #[.agg #[y,n,a]] w fun e ah=>e= .returned v∧Below w w ah:=by
 subst ax
 go_in
 go_wp2_with (go_at_call 315;refine (aiY _ _ rfl _).mono ?_;rintro e ah ⟨rfl,rfl⟩)
 all_goals go_ret
 all_goals exact⟨by simp [sy, *],bT _ _⟩
open Go.RowKit Go.G9
structure Pl where
 id:Int
 day:Int
 hx:Int
 yes:List Int
 no:List Int
 done:Bool
open Go.RowKit Go.G9
theorem aB.Kz {w:World} {g:Nat} {t:TypeId} {cs:Array Value} (h:aB w g t cs) {p:Addr} (aN:g≠p.block) (u:Value):aB (w.setCell p u) g t cs:=(Below.heap_setCell w p u g aN).trans h
open Go.RowKit Go.G9
def om (hx y n:Int):Bool:=if hx= 1 then decide (n < y) else if hx= 2 then decide (0 < y + n) && decide (2 * n≤y) else decide (0 < y) && decide (n= 0)
theorem aah {p:Prop} (h:p:=by
 subst ax
 by_cases av:hx= 1
 ·subst av
  go_in
  go_wp2
  go_ret
  exact⟨ed (by simp [om]),rfl⟩
 by_cases c2:hx= 2
 ·subst c2
  by_cases c3:0 < y + n
  ·go_in
   go_wp2
   go_ret
   exact⟨ed (by rw [Bool.eq_iff_iff];simp [om] <;> omega),rfl⟩
  ·go_in
   go_wp2
   go_ret
   exact⟨ed (by rw [Bool.eq_iff_iff];simp [om] <;> omega),rfl⟩
 ·have d1:(hx == 1)= false:=beq_eq_false_iff_ne.2 av
  have d2:(hx == 2)= false:=beq_eq_false_iff_ne.2 c2
  by_cases c3:0 < y
  ·go_in
   go_wp2
   go_ret
   exact⟨ed (by rw [Bool.eq_iff_iff];simp [om,av,c2] <;> omega),rfl⟩
  ·go_in
   go_wp2
   go_ret
   exact⟨ed (by rw [Bool.eq_iff_iff];simp [om,av,c2] <;> omega),rfl⟩):p:=h
theorem aiO (hx y n:Int) (h0:-10000≤y) (h1:y≤10000) (h2:-10000≤n) (h3:n≤10000) (v:Bool) (ax:om hx y n= v) (w:World):Calls Tryz.prog 305 #[hx,y,n] w fun e ah=>e= .returned v∧ah= w:=by
 exact aah
theorem aiX (hx y n:Int) (h0:-10000≤y) (h1:y≤10000) (h2:-10000≤n) (h3:n≤10000) (v:Bool) (ax:om hx y n= v) (w:World):Calls Tryz.prog 316 #[hx,y,n] w fun e ah=>e= .returned v∧ah= w:=by
 exact aah
def Pl.hB (d:Pl):Bool:=om d.hx d.yes.length d.no.length
end Go.Proofs.YtlaaemmmbodaaaaGreatDoor
namespace Go.G9
open Go.RowKit Go.Sort Go.Proofs
theorem KG {T:Type} (enc:T→Value) (xs:List T):xs.flatMap (fun x=>[enc x])= xs.map enc:=by induction xs <;> simp_all
theorem akt {T:Type} [Inhabited T] {enc:T→Value} {B:Nat} {e:TypeId} {w:World} {g cap q k:Nat} {fp ys:List T} {os:Array Obj} (h:bd B e 1 (fun x=>[enc x]) w (.slice g fp cap) fp) (hy:ys.length= fp.length) (aD:k≤fp.length):
  bd B e 1 (fun x=>[enc x]) (grow (putRow enc (Sort.ahead w q) g 0 ys.toArray) os) (.slice g k cap) (ys.take k)∧w.grownBy (grow (putRow enc (Sort.ahead w q) g 0 ys.toArray) os) (some g):=by
 have cT:w.grownBy (grow (putRow enc (Sort.ahead w q) g 0 ys.toArray) os) (some g):=by
  refine⟨rfl,rfl,rfl,by simp,fun k aD eM=>?_⟩
  rw [heap_grow_old _ _ (by simpa using aD)]
  have:g≠k:=fun e=>eM (by rw [e])
  simp [putRow,mapBlock,Sort.ahead,Array.getElem?_modify,this]
 have h1:w.ownsRow B e 1 (.slice g fp cap) fp.length (fp.map enc):=by rw [← KG];exact h
 have h2:=Lib.ownsRow_putRow (q:=q) h1 hy aD
 refine⟨?_,cT⟩
 unfold bd
 rw [KG,List.length_take,Nat.min_eq_left (by omega)]
 obtain⟨aT,aH⟩:=h2
 refine⟨aT,?_⟩
 rcases aH with ⟨e0,_⟩ | ⟨bA,Ko,cur,e0,bG,fc,r⟩
 ·cases e0
 ·refine .inr ⟨bA,Ko,cur,e0,bG,?_,r⟩
  rw [heap_grow_old _ _ (Array.getElem?_eq_some_iff.1 fc).1];exact fc
theorem aks {T:Type} [Inhabited T] {enc:T→Value} {B:Nat} {e:TypeId} {w:World} {g cap:Nat} {fp:List T} (h:bd B e 1 (fun x=>[enc x]) w (.slice g fp cap) fp):
  Holds enc w g 0 fp.toArray∧g < w.heap.size∧fp.length≤cap∧cap≤maxLen:=by
 have h1:w.ownsRow B e 1 (.slice g fp cap) fp.length (fp.map enc):=by rw [← KG];exact h
 obtain⟨bA,Ko,e1,h2,h3,h4,h5,h6,h7⟩:=Lib.holds_of_ownsRow h1 (by intro e;cases e)
 injection e1 with e2 _ e4
 injection e2 with e2
 injection e2 with e2
 subst e2;subst e4
 exact⟨h7,h3,h4,h5⟩
end Go.G9
namespace Go.Proofs.YtlaaemmmbodaaaaGreatDoor
open Go.RowKit Go.G9 Go.Sort
open Go.RowKit Go.G9
structure aK where
 id:Int
 name:ByteArray
 gD:Int
 second:Bool
 kZ:Bool
 lK:Bool
 hx:Int
 ok:name.size≤maxLen
def aK.cells (r:aK):List Value:=[.int .i64 r.id,.string r.name,.int .i64 r.gD,.bool r.second,.bool r.kZ,.bool r.lK,.int .i64 r.hx]
structure aQ where
 fR:Int
 mover:Int
 sec:Bool
def aQ.cells (q:aQ):List Value:=[.int .i64 q.fR,.int .i64 q.mover,.bool q.sec]
structure aO where
 mem:Int
 ek:Int
 dS:Int
def aO.cells (s:aO):List Value:=[.int .i64 s.mem,.int .i64 s.ek,.int .i64 s.dS]
structure Out where
 fR:Int
 mover:Int
 hB:Bool
def Out.cells (o:Out):List Value:=[.int .i64 o.fR,.int .i64 o.mover,.bool o.hB]
def qD (r:aK):Bool:=eT r.id 1 20 && (vb r.name && (eT r.gD 0 9 && eT r.hx 1 3))
def qE (xs:List aK):Nat→Bool
 | 0=>match xs[0]? with | some x=>qD x | none=>true
 | j + 1=>match xs[j]?,xs[j+1]? with | some y,some x=>qD x && (decide (y.id < x.id) && !(xs.take (j + 1)).any (fun z=>z.name.toList == x.name.toList)) | _,_=>true
def js (xs:List aK):Bool:=gy (qE xs) xs.length && decide (xs.length≤8)
theorem HE (r:aK) (v:Bool) (ax:qD r= v) (w:World):Calls Tryz.prog 212 #[.agg #[r.id,r.name,r.gD,r.second,r.kZ,r.lK,r.hx]] w fun e ah=>e= .returned v∧Below w w ah:=by
 subst ax
 obtain⟨id,nm,rk,s,d,a,dX,aV⟩:=r
 go_in
 go_wp2_with (first | (go_at_call 79;refine (iX _ _ _ _ rfl _).mono ?_;rintro e ah ⟨rfl,rfl⟩) | (go_at_call 281;refine (aiQ _ aV _ rfl _).mono ?_;rintro e ah ⟨rfl,rfl⟩) | (go_at_call 282;refine (aiP _ _ rfl _).mono ?_;rintro e ah ⟨rfl,rfl⟩))
 all_goals go_ret
 all_goals exact⟨by simp [qD, *],bT _ _⟩
theorem HH (r:aK) (v:Bool) (ax:qD r= v) (w:World):Calls Tryz.prog 215 #[.agg #[r.id,r.name,r.gD,r.second,r.kZ,r.lK,r.hx]] w fun e ah=>e= .returned v∧Below w w ah:=by
 subst ax
 obtain⟨id,nm,rk,s,d,a,dX,aV⟩:=r
 go_in
 go_wp2_with (first | (go_at_call 186;refine (jq _ _ _ _ rfl _).mono ?_;rintro e ah ⟨rfl,rfl⟩) | (go_at_call 283;refine (ajn _ aV _ rfl _).mono ?_;rintro e ah ⟨rfl,rfl⟩))
 all_goals go_ret
 all_goals exact⟨by simp [qD, *],bT _ _⟩
theorem OS {p:Prop} (h:p:=by
 go_wp2
 go_roundw
 case rel=>exact⟨k + 1,by omega,by go_num,mv cB.out (by simp [jb,cc.out,aN]),aj aF fh⟩
 case measure=>simp [intOf];omega):p:=h
theorem OV {p:Prop} (h:p:=by
 go_wp2
 go_ret
 exact⟨BJ (MP bu cB.out (by simp [jb,cc.out,aN])).symm,aj aF fh⟩):p:=h
theorem HB (A:Option Addr) (c:Nat) (xs:List aK) (aY:xs.length≤1048576) (f:FuncId) (oU:Array Value) (Ba:∀args W,(callFunc f args).run Tryz.prog W= .ok (.enter f args) W) (p:aK→Bool) (v:Int) (ax:nz p xs= v) (w:World) (bn:aS 7 aK.cells w A xs)
  (hf:∀x,x ∈ xs→∀W,Below w w W→Calls Tryz.prog f (#[.agg #[.int .i64 x.id,.string x.name,.int .i64 x.gD,.bool x.second,.bool x.kZ,.bool x.lK,.int .i64 x.hx]] ++ oU) W fun e ah=>e= .returned (.bool (p x))∧Below W W ah):
 Calls Tryz.prog 203 #[.slice A xs c,.func (.func f) #[] oU] w fun e ah=>e= .returned v∧Below w w ah:=by
 subst ax
 have cC:=J hf;clear hf
 go_in
 go_wp2
 go_loopw [8] (fun i wr=>∃k:Nat,k≤xs.length∧i= .int .i64 k∧gy (fun i=>!jb p xs i) k= true∧Below w w wr) (fun i _=>xs.length - (intOf i).toNat)
 case atStart=>exact⟨0,Nat.zero_le _,rfl,rfl,Below.refl _ _⟩
 case round=>
  obtain⟨k,aD,rfl,aT,aF⟩:=hrel
  have cB:=J aT;clear aT
  by_cases bu:k < xs.length
  ·obtain⟨b,off,x,rfl,ew,aw,bz⟩:=bn.at_ aF bu
   have Ck:=J (cC.out x (List.mem_of_getElem? aw))
   obtain⟨alv,aly,alA,alB,akX,akF,alx,rhs⟩:=x
   have f0:=bz 0 _ rfl;have f1:=bz 1 _ rfl;have f2:=bz 2 _ rfl;have f3:=bz 3 _ rfl;have f4:=bz 4 _ rfl;have f5:=bz 5 _ rfl;have f6:=bz 6 _ rfl
   simp only [Nat.add_zero] at f0
   have g0:=f0 (ay.self _);have g1:=f1 (ay.self _);have g2:=f2 (ay.self _);have g3:=f3 (ay.self _);have g4:=f4 (ay.self _);have g5:=f5 (ay.self _);have g6:=f6 (ay.self _)
   simp only [ay.self] at g0
   simp only [ay.self] at g1
   simp only [ay.self] at g2
   simp only [ay.self] at g3
   simp only [ay.self] at g4
   simp only [ay.self] at g5
   simp only [ay.self] at g6
   have cc:=J aw;clear aw bz
   go_wp2_with fail
   refine (Ck.out _ aF).mono ?_
   rintro e ah ⟨rfl,fh⟩
   cases aN:p ⟨alv,aly,alA,alB,akX,akF,alx,rhs⟩
   ·exact OS
   ·exact OV
  ·exact IW
theorem adA (A:Option Addr) (c:Nat) (xs:List aK) (aY:xs.length≤1048576) (f:FuncId) (oU:Array Value) (Ba:∀args W,(callFunc f args).run Tryz.prog W= .ok (.enter f args) W) (p:aK→Bool) (v:Bool) (ax:xs.any p= v) (w:World) (bn:aS 7 aK.cells w A xs)
  (hf:∀x,x ∈ xs→∀W,Below w w W→Calls Tryz.prog f (#[.agg #[.int .i64 x.id,.string x.name,.int .i64 x.gD,.bool x.second,.bool x.kZ,.bool x.lK,.int .i64 x.hx]] ++ oU) W fun e ah=>e= .returned (.bool (p x))∧Below W W ah):
 Calls Tryz.prog 213 #[.slice A xs c,.func (.func f) #[] oU] w fun e ah=>e= .returned v∧Below w w ah:=by
 subst ax
 have cC:=J hf;clear hf;have cT:=Hz p xs;have kF:=J cT;clear cT
 go_in
 go_wp2_with fail
 refine (HB A c xs aY f oU Ba p _ rfl _ bn cC.out).mono ?_
 rintro e ah ⟨rfl,aF⟩
 go_wp2
 go_ret
 exact⟨ed kF.out,aF⟩
theorem alC (id:Int) (g:Nat) (x:aK) (W:World) (cT:W.cell? ⟨g,0,none⟩ =some (.int .i64 id)) (aT:g < W.heap.size):
 Calls Tryz.prog 204 (#[.agg #[x.id,x.name,x.gD,x.second,x.kZ,x.lK,x.hx]] ++ #[.pointer (some ⟨g,0,none⟩)]) W fun e ah=>e= .returned (.bool (x.id == id))∧Below W W ah:=by
 cases aF:x.id == id
 all_goals
  go_in
  go_wp2
  go_ret
  exact⟨rfl,bT _ _⟩
theorem BL (A:Option Addr) (c:Nat) (xs:List aK) (aY:xs.length≤1048576) (id:Int) (v:Int) (ax:nz (fun r=>r.id == id) xs= v) (w:World) (bn:aS 7 aK.cells w A xs):
 Calls Tryz.prog 122 #[.slice A xs c,id] w fun e ah=>e= .returned v∧Below w w ah:=by
 have hf:∀x,x ∈ xs→∀W,Below (w.alloc (.cells #[id] 3)).heap.size (w.alloc (.cells #[id] 3)) W→Calls Tryz.prog 204 (#[.agg #[.int .i64 x.id,.string x.name,.int .i64 x.gD,.bool x.second,.bool x.kZ,.bool x.lK,.int .i64 x.hx]] ++ #[.pointer (some ⟨w.heap.size,0,none⟩)]) W fun e ah=>e= .returned (.bool (x.id == id))∧Below W W ah:=fun x _ W bL=>by
  have bG:=aB.ae (aB.new w 3 #[id]) bL (by simp)
  exact alC id w.heap.size x W (bG.cell 0) bG.lt
 have Bg:=HB A c xs aY 204 #[.pointer (some ⟨w.heap.size,0,none⟩)] (zT Tryz.func204 (by kernel_rfl) (by kernel_rfl)) (fun r=>r.id == id) v ax (w.alloc (.cells #[id] 3)) (bn.ae (bT _ _)) hf;have hT:=J Bg;clear Bg hf ax
 go_in
 go_wp2_with fail
 refine hT.out.mono ?_
 rintro e bh ⟨rfl,aF⟩
 go_wp2
 go_ret
 exact⟨rfl,aj (bT _ _) aF⟩
theorem tG (A:Option Addr) (c:Nat) (xs:List aK) (aY:xs.length≤1048576) (id:Int) (v:Int) (ax:nz (fun r=>r.id == id) xs= v) (w:World) (bn:aS 7 aK.cells w A xs):
 Calls Tryz.prog 72 #[.slice A xs c,id] w fun e ah=>e= .returned v∧ah= w:=by
 subst ax
 go_in
 go_wp2
 go_loop [5] (fun i=>∃k:Nat,k≤xs.length∧i= .int .i64 k∧gy (fun i=>!jb (fun r:aK=>r.id == id) xs i) k= true) (fun i=>xs.length - (intOf i).toNat)
 case atStart=>exact⟨0,Nat.zero_le _,rfl,rfl⟩
 case round=>
  obtain⟨k,aD,rfl,aT⟩:=hrel
  have cB:=J aT;clear aT
  by_cases bu:k < xs.length
  ·obtain⟨b,off,x,rfl,ew,aw,bz⟩:=bn.at_ (Below.refl _ _) bu
   obtain⟨FA,nm,rk,s,d,a,dX,aV⟩:=x
   have g0:=bz 0 _ rfl (ay.self _)
   simp only [Nat.add_zero,ay.self] at g0
   have cc:=J aw;clear aw bz
   by_cases he:FA= id
   ·have tm:(FA == id)= true:=beq_iff_eq.2 he
    have cW:=J tm
    go_wp2
    go_ret
    exact⟨BJ (MP bu cB.out (by simp [jb,cc.out,cW.out])).symm,rfl⟩
   ·have tm:(FA == id)= false:=beq_eq_false_iff_ne.2 he
    go_wp2
    go_round
    case rel=>exact⟨k + 1,by omega,by go_num,mv cB.out (by simp [jb,cc.out,tm])⟩
    case measure=>simp [intOf];omega
  ·obtain rfl:k= xs.length:=by omega
   go_wp2
   go_ret
   exact⟨BJ (MQ cB.out).symm,rfl⟩
open Go.RowKit Go.G9
theorem anI (id:Int) (nm:ByteArray) (rk:Int) (s d a:Bool) (dX l:Int) (aV:nm.size≤maxLen) (h0:0≤l) (h1:l≤1048576) (w:World):
 Calls Tryz.prog 43 #[.agg #[id,nm,rk,s,d,a,dX],l] w fun e ah=>∃r:Int,e= .returned r∧(-1≤r∧r≤l)∧Below w w ah:=by
 unfold maxLen at aV
 go_in
 go_wp2
 all_goals go_ret
 all_goals exact⟨_,rfl,by constructor <;> omega,bT _ _⟩
theorem aea (id:Int) (nm:ByteArray) (rk:Int) (s d a:Bool) (dX:Int) (w:World):
 Calls Tryz.prog 47 #[.agg #[id,nm,rk,s,d,a,dX],.agg #[id,nm,rk,s,d,a,dX]] w fun e ah=>e= .returned true∧Below w w ah:=by
 go_in
 go_wp2
 go_ret
 exact⟨rfl,CW _ _ _⟩
theorem anO (id:Int) (nm:ByteArray) (rk:Int) (s d a:Bool) (dX:Int) (w:World):
 Calls Tryz.prog 46 #[.agg #[id,nm,rk,s,d,a,dX]] w fun e ah=>e= .returned (.agg #[id,nm,rk,s,d,a,dX])∧Below w w ah:=by
 go_in
 go_wp2
 exact bodyPost_ret (v:= .agg #[id,nm,rk,s,d,a,dX]) (by simp [results,Tryz.results46,go_sem]) rfl ⟨rfl,az⟩
theorem EA:(Tryz.prog.info? 89).map (fun i=>(i.zero,i.size,i.bytes))= some (some (.agg #[(0:Int),.string ⟨#[]⟩,(0:Int),false,false,false,(0:Int)]),7,48):=by kernel_rfl
theorem anH (A:Option Addr) (c:Nat) (xs:List aK) (aY:xs.length≤maxLen) (l:Int) (h00:0≤l) (h01:l≤1048576) (w:World) (bn:aS 7 aK.cells w A xs):
 Calls Tryz.prog 9 #[.slice A xs c,l] w fun e ah=>∃r:Int,e= .returned r∧-1≤r∧r≤l∧(r < 0∨xs.length≤1048576)∧Below w w ah:=by
 unfold maxLen at aY
 by_cases aT:(xs.length:Int)≤l
 ·have agl:¬(l - (xs.length:Int)) < 0:=by omega
  go_in
  go_wp2
  go_loopw [1,5] (fun ajN i wr=>∃(k:Nat) (r:Int),k≤xs.length∧i= .int .i64 k∧ajN= .int .i64 r∧0≤r∧r≤l∧Below w w wr) (fun _ i _=>xs.length - (intOf i).toNat)
  case atStart=>exact⟨0,_,Nat.zero_le _,rfl,rfl,by omega,by omega,Below.refl _ _⟩
  case round=>
   obtain⟨k,r,aD,rfl,rfl,h0,h1,aF⟩:=hrel
   by_cases bu:k < xs.length
   ·obtain⟨b,off,x,rfl,ew,aw,bz⟩:=bn.at_ aF bu
    obtain⟨id,nm,rk,s,d,a,dX,aV⟩:=x
    have f0:=bz 0 _ rfl;have f1:=bz 1 _ rfl;have f2:=bz 2 _ rfl;have f3:=bz 3 _ rfl;have f4:=bz 4 _ rfl;have f5:=bz 5 _ rfl;have f6:=bz 6 _ rfl
    simp only [Nat.add_zero] at f0
    have g0:=f0 (ay.self _);have g1:=f1 (ay.self _);have g2:=f2 (ay.self _);have g3:=f3 (ay.self _);have g4:=f4 (ay.self _);have g5:=f5 (ay.self _);have g6:=f6 (ay.self _)
    simp only [ay.self] at g0
    simp only [ay.self] at g1
    simp only [ay.self] at g2
    simp only [ay.self] at g3
    simp only [ay.self] at g4
    simp only [ay.self] at g5
    simp only [ay.self] at g6
    clear aw bz
    go_wp2_with fail
    refine (anI _ _ _ _ _ _ _ _ aV h0 (by omega) _).mono ?_
    rintro e ah ⟨fX,rfl,⟨h2,h3⟩,fh⟩
    by_cases h4:fX < 0
    ·go_wp2
     go_ret
     exact⟨_,rfl,by omega,by omega,.inl (by omega),aj aF fh⟩
    ·go_wp2
     go_roundw
     case rel=>exact⟨k + 1,fX,by omega,by go_num,rfl,by omega,by omega,aj aF fh⟩
     case measure=>simp [intOf];omega
   ·go_wp2
    go_ret
    exact⟨_,rfl,by omega,by omega,.inr (by omega),aF⟩
 ·have agl:(l - (xs.length:Int)) < 0:=by omega
  go_in
  go_wp2
  go_ret
  exact⟨_,rfl,by omega,by omega,.inl (by omega),Below.refl _ _⟩
theorem adZ (A kS:Option Addr) (c cM:Nat) (xs:List aK) (aY:xs.length≤1048576) (w:World) (bn:aS 7 aK.cells w A xs) (afk:aS 7 aK.cells w kS xs):
 Calls Tryz.prog 15 #[.slice A xs c,.slice kS xs cM] w fun e ah=>e= .returned true∧Below w w ah:=by
 go_in
 go_wp2
 go_loopw [5] (fun i wr=>∃(k:Nat),k≤xs.length∧i= .int .i64 k∧Below w w wr) (fun i _=>xs.length - (intOf i).toNat)
 case atStart=>exact⟨0,Nat.zero_le _,rfl,Below.refl _ _⟩
 case round=>
  obtain⟨k,aD,rfl,aF⟩:=hrel
  by_cases bu:k < xs.length
  ·obtain⟨b,off,x,rfl,ew,aw,bz⟩:=bn.at_ aF bu
   obtain⟨dc,uK,bF,rfl,_,pa,qm⟩:=afk.at_ aF bu
   obtain rfl:x= bF:=Option.some.inj (aw.symm.trans pa)
   obtain⟨id,nm,rk,s,d,a,dX,aV⟩:=x
   have f0:=bz 0 _ rfl;have f1:=bz 1 _ rfl;have f2:=bz 2 _ rfl;have f3:=bz 3 _ rfl;have f4:=bz 4 _ rfl;have f5:=bz 5 _ rfl;have f6:=bz 6 _ rfl
   simp only [Nat.add_zero] at f0
   have e0:=qm 0 _ rfl;have e1:=qm 1 _ rfl;have e2:=qm 2 _ rfl;have e3:=qm 3 _ rfl;have e4:=qm 4 _ rfl;have e5:=qm 5 _ rfl;have e6:=qm 6 _ rfl
   simp only [Nat.add_zero] at e0
   clear aw bz pa qm
   go_wp2
   refine eK (by kernel_rfl) (by kernel_rfl) ?_
   repeat (go_big_quiet_step (((go_at_call 47;exact ay.call _ (Nat.le_refl _) (aea _ _ _ _ _ _ _ _)))))
   refine wpQuiet_nil ?_
   intro K
   go_wp2
   go_roundw
   case rel=>exact⟨k + 1,by omega,by go_num,aj aF K.ae⟩
   case measure=>simp [intOf];omega
  ·go_wp2
   go_ret
   exact⟨rfl,aF⟩
theorem Ot (A:Option Addr) (c:Nat) (xs:List aK) (aY:xs.length≤1048576) (w:World) (bn:aS 7 aK.cells w A xs):
 Calls Tryz.prog 12 #[.slice A xs c] w fun e ah=>∃kS,e= .returned (.slice kS xs xs)∧bd w 89 7 aK.cells ah (.slice kS xs xs) xs∧Below w w ah:=by
 obtain⟨i0,hi,dn,dC,dz⟩:=info_parts EA
 have ny:=alE (P:=Tryz.prog) 29 89 i0 _ Tryz.underlying29 hi dn .i64 .i64 xs.length xs.length (Nat.le_refl _) (by rw [dz];omega) (by omega)
 rw [dC] at ny
 go_in
 go_wp2
 go_loopw [4] (fun i wr=>∃(k:Nat) (cs:Array Value),k≤xs.length∧i= .int .i64 k∧aB wr w.heap.size 89 cs∧cs.size= xs.length * 7∧vn 7 aK.cells xs k cs∧Below w w wr) (fun i _=>xs.length - (intOf i).toNat)
 case atStart=>exact⟨0,_,Nat.zero_le _,rfl,aB.new _ _ _,by simp [madeCells],vn.zero,bT _ _⟩
 case round=>
  obtain⟨k,cs,aD,rfl,bG,gN,ai,aF⟩:=hrel
  have uf:=J gN;clear gN
  by_cases bu:k < xs.length
  ·obtain⟨b,off,x,rfl,ew,aw,bz⟩:=bn.at_ aF bu
   obtain⟨id,nm,rk,s,d,a,dX,aV⟩:=x
   have f0:=bz 0 _ rfl;have f1:=bz 1 _ rfl;have f2:=bz 2 _ rfl;have f3:=bz 3 _ rfl;have f4:=bz 4 _ rfl;have f5:=bz 5 _ rfl;have f6:=bz 6 _ rfl
   simp only [Nat.add_zero] at f0
   have g0:=f0 (ay.self _);have g1:=f1 (ay.self _);have g2:=f2 (ay.self _);have g3:=f3 (ay.self _);have g4:=f4 (ay.self _);have g5:=f5 (ay.self _);have g6:=f6 (ay.self _)
   simp only [ay.self] at g0
   simp only [ay.self] at g1
   simp only [ay.self] at g2
   simp only [ay.self] at g3
   simp only [ay.self] at g4
   simp only [ay.self] at g5
   simp only [ay.self] at g6
   clear bz;have cc:=J aw;clear aw
   go_wp2_with fail
   refine (anO _ _ _ _ _ _ _ _).mono ?_
   rintro e ah ⟨rfl,fh⟩
   have nN:=bG.ae fh bG.lt
   obtain⟨v0,c0⟩:=nN.some_ (k * 7) (by rw [uf.out];omega)
   have z0:=nN.frozen (k * 7)
   obtain⟨v1,av⟩:=nN.some_ (k * 7 + 1) (by rw [uf.out];omega)
   have bW:=nN.frozen (k * 7 + 1)
   obtain⟨v2,c2⟩:=nN.some_ (k * 7 + 2) (by rw [uf.out];omega)
   have z2:=nN.frozen (k * 7 + 2)
   obtain⟨v3,c3⟩:=nN.some_ (k * 7 + 3) (by rw [uf.out];omega)
   have z3:=nN.frozen (k * 7 + 3)
   obtain⟨v4,c4⟩:=nN.some_ (k * 7 + 4) (by rw [uf.out];omega)
   have z4:=nN.frozen (k * 7 + 4)
   obtain⟨v5,c5⟩:=nN.some_ (k * 7 + 5) (by rw [uf.out];omega)
   have z5:=nN.frozen (k * 7 + 5)
   obtain⟨v6,sU⟩:=nN.some_ (k * 7 + 6) (by rw [uf.out];omega)
   have eO:=nN.frozen (k * 7 + 6)
   go_wp2
   go_roundw
   case rel=>exact⟨k + 1,qF cs (k * 7) (aK.cells ⟨id,nm,rk,s,d,a,dX,aV⟩),by omega,by go_num,nN.qF (k * 7) (aK.cells ⟨id,nm,rk,s,d,a,dX,aV⟩),by rw [Xl,uf.out],ai.put cc.out (by rw [uf.out];simp [aK.cells];omega),(((((((aj aF fh).setCell (Nat.le_refl _) _).setCell (Nat.le_refl _) _).setCell (Nat.le_refl _) _).setCell (Nat.le_refl _) _).setCell (Nat.le_refl _) _).setCell (Nat.le_refl _) _).setCell (Nat.le_refl _) _⟩
   case measure=>simp [intOf];omega
  ·obtain rfl:k= xs.length:=by omega
   go_wp2
   go_ret
   exact⟨_,rfl,bd.filled bG (Nat.le_refl _) uf.out (by unfold maxLen;omega) ai.all,aF⟩
theorem si:(Tryz.prog.info? 115).map (fun i=>(i.zero,i.size,i.bytes))= some (some (.agg #[(0:Int),(0:Int),false]),3,24):=by kernel_rfl
theorem Bp:(Tryz.prog.info? 214).map (fun i=>(i.zero,i.size,i.bytes))= some (some (.agg #[(0:Int),(0:Int),(0:Int)]),3,24):=by kernel_rfl
theorem HC:(Tryz.prog.info? 163).map (fun i=>(i.zero,i.size,i.bytes))= some (some (.agg #[(0:Int),(0:Int),false]),3,24):=by kernel_rfl
open Go.RowKit Go.G9
theorem ada {T:Type} {p:T→Bool} {xs:List T} {k:Nat} (h:gy (fun i=>!jb p xs i) k= true):(xs.take k).any p= false:=by
 cases aH:(xs.take k).any p with
 | false=>rfl
 | true=>
  obtain⟨x,aw,aN⟩:=List.any_eq_true.1 aH
  obtain⟨m,hm⟩:=List.mem_iff_getElem?.1 aw
  rw [List.getElem?_take] at hm
  split at hm
  ·rename_i bu
   have:=lJ.1 h m bu
   simp [jb,hm,aN] at this
  ·cases hm
theorem adb {T:Type} {p:T→Bool} {xs:List T} {k m:Nat} {x:T} (hm:m < k) (aw:xs[m]? =some x) (aN:p x= true):(xs.take k).any p= true:=
 List.any_eq_true.2 ⟨x,List.mem_iff_getElem?.2 ⟨m,by rw [List.getElem?_take,if_pos hm];exact aw⟩,aN⟩
theorem NP {T:Type} {sz:Nat} {f:T→List Value} {w:World} {A:Option Addr} {xs:List T} (h:aS sz f w A xs) (k:Nat):aS sz f w A (xs.take k):=by
 intro aY
 have rl:0 < xs.length:=by simp at aY;omega
 obtain⟨b,off,h1,h2,h3⟩:=h rl
 exact⟨b,off,h1,h2,fun i x aw j u hu=>h3 i x (by rw [List.getElem?_take] at aw;split at aw;exact aw;cases aw) j u hu⟩
theorem zS {xs:List aK} {j:Nat} {x y:aK} (aw:xs[j + 1]? =some x) (hy:xs[j]? =some y):qE xs (j + 1)= (qD x && (decide (y.id < x.id) && !(xs.take (j + 1)).any (fun z=>z.name.toList == x.name.toList))):=by
 simp only [qE,aw,hy]
theorem alD (nm:ByteArray) (g:Nat) (x:aK) (W:World) (cT:W.cell? ⟨g,1,none⟩ =some (.string nm)) (aT:g < W.heap.size):
 Calls Tryz.prog 214 (#[.agg #[x.id,x.name,x.gD,x.second,x.kZ,x.lK,x.hx]] ++ #[.pointer (some ⟨g,0,none⟩)]) W fun e ah=>e= .returned (.bool (x.name.toList == nm.toList))∧Below W W ah:=by
 cases aF:x.name.toList == nm.toList
 all_goals
  go_in
  go_wp2
  go_ret
  exact⟨rfl,bT _ _⟩
theorem Zr {p:Prop} (h:p:=by
 obtain rfl:k= xs.length:=by omega
 go_wp2
 go_ret
 exact⟨ed (by rw [js,cB.out];simp;omega),aF⟩):p:=h
theorem zp (A:Option Addr) (c:Nat) (xs:List aK) (aY:xs.length≤1048576) (aH:xs.length≤c) (v:Bool) (ax:js xs= v) (w:World) (bn:aS 7 aK.cells w A xs):
 Calls Tryz.prog 133 #[.slice A xs c] w fun e ah=>e= .returned v∧Below w w ah:=by
 subst ax
 go_in
 go_wp2
 go_loopw [7] (fun i wr=>∃k:Nat,k≤xs.length∧i= .int .i64 k∧gy (qE xs) k= true∧Below w w wr) (fun i _=>xs.length - (intOf i).toNat)
 case atStart=>exact⟨0,Nat.zero_le _,rfl,rfl,Below.refl _ _⟩
 case round=>
  obtain⟨k,aD,rfl,aT,aF⟩:=hrel
  have cB:=J aT;clear aT
  by_cases bu:k < xs.length
  ·have yS:(k:Int)≤(c:Int):=by omega
   have Li:=bn.ae aF
   obtain⟨b,off,x,rfl,ew,aw,bz⟩:=bn.at_ aF bu
   obtain⟨id,nm,rk,af,fs,am,dX,aV⟩:=x
   have mB:=fun j=>boxed wr #[id,nm,rk,af,fs,am,dX] 89 j
   have n0:=mB 0 _ rfl;have n1:=mB 1 _ rfl;have n2:=mB 2 _ rfl;have n3:=mB 3 _ rfl;have n4:=mB 4 _ rfl;have n5:=mB 5 _ rfl;have n6:=mB 6 _ rfl;clear mB
   obtain⟨d,bJ⟩ :∃d,(xs.take k).any (fun z=>z.name.toList == nm.toList)= d:=⟨_,rfl⟩
   have yf:Hid (∀W Kq,Below (wr.alloc (.cells #[id,nm,rk,af,fs,am,dX] 89)).heap.size (wr.alloc (.cells #[id,nm,rk,af,fs,am,dX] 89)) W→
     Calls Tryz.prog 213 #[.slice (some ⟨b,off,none⟩) k Kq,.func (.func 214) #[] #[.pointer (some ⟨wr.heap.size,0,none⟩)]] W fun e ah=>e= .returned (.bool d)∧Below W W ah):=J fun W Kq bL=>by
    have pO:(xs.take k).length= k:=by rw [List.length_take];omega
    have bG:=aB.ae (aB.new wr 89 #[id,nm,rk,af,fs,am,dX]) bL (by simp);have h:=adA (some ⟨b,off,none⟩) Kq (xs.take k) (by omega) 214 #[.pointer (some ⟨wr.heap.size,0,none⟩)] (zT Tryz.func214 (by kernel_rfl) (by kernel_rfl)) (fun z=>z.name.toList == nm.toList) d bJ W ((NP Li k).ae (aj (bT _ _) bL)) (fun x _ V hM=>alD nm wr.heap.size x V ((bG.to hM).cell 1) (bG.to hM).lt)
    rw [pO] at h;exact h
   have fz:=J bJ;clear bJ Li
   cases k with
   | zero=>
    have afJ:d= false:=by rw [← fz.out];rfl
    subst afJ
    have f0:=bz 0 _ rfl;have f1:=bz 1 _ rfl;have f2:=bz 2 _ rfl;have f3:=bz 3 _ rfl;have f4:=bz 4 _ rfl;have f5:=bz 5 _ rfl;have f6:=bz 6 _ rfl
    simp only [Nat.zero_mul,Nat.add_zero] at f0
    simp only [Nat.zero_mul] at f1
    simp only [Nat.zero_mul] at f2
    simp only [Nat.zero_mul] at f3
    simp only [Nat.zero_mul] at f4
    simp only [Nat.zero_mul] at f5
    simp only [Nat.zero_mul] at f6
    have g0:=f0 (ay.self _);have g1:=f1 (ay.self _);have g2:=f2 (ay.self _);have g3:=f3 (ay.self _);have g4:=f4 (ay.self _);have g5:=f5 (ay.self _);have g6:=f6 (ay.self _)
    simp only [ay.self] at g0
    simp only [ay.self] at g1
    simp only [ay.self] at g2
    simp only [ay.self] at g3
    simp only [ay.self] at g4
    simp only [ay.self] at g5
    simp only [ay.self] at g6
    have cc:=J aw;clear aw bz
    cases ax:qD ⟨id,nm,rk,af,fs,am,dX,aV⟩
    all_goals
     have bo:=J ax
     go_wp2
     refine eK (by kernel_rfl) (by kernel_rfl) ?_
     repeat (go_big_quiet_step ((first | (go_at_call 212;exact ay.call _ (Nat.le_refl _) (HE ⟨id,nm,rk,af,fs,am,dX,aV⟩ _ bo.out _)) | (go_at_call 213;exact ay.call _ (Nat.le_refl _) (yf.out _ _ (ay.ae _))))))
     refine wpQuiet_nil ?_
     intro K
     go_wp2
    ·go_ret
     exact⟨ed (by rw [js,sQ bu (by simp [qE,cc.out,ax])];rfl),aj aF (aj (bT _ _) K.ae)⟩
    ·go_roundw
     case rel=>exact⟨1,by omega,by go_num,mv cB.out (by simp [qE,cc.out,ax]),aj aF (aj (bT _ _) K.ae)⟩
     case measure=>simp [intOf];omega
   | succ j=>
    obtain⟨dc,uK,y,gz,_,hy,cX⟩:=bn.at_ aF (k:=j) (by omega)
    simp only [Option.some.injEq,Addr.mk.injEq,and_true] at gz
    obtain⟨rfl,rfl⟩:=gz
    obtain⟨sF,BW,BZ,ys,xT,ni,BX,BY⟩:=y
    have f0:=bz 0 _ rfl;have f1:=bz 1 _ rfl;have f2:=bz 2 _ rfl;have f3:=bz 3 _ rfl;have f4:=bz 4 _ rfl;have f5:=bz 5 _ rfl;have f6:=bz 6 _ rfl
    simp only [Nat.add_zero] at f0
    have g0:=f0 (ay.self _);have g1:=f1 (ay.self _);have g2:=f2 (ay.self _);have g3:=f3 (ay.self _);have g4:=f4 (ay.self _);have g5:=f5 (ay.self _);have g6:=f6 (ay.self _)
    simp only [ay.self] at g0
    simp only [ay.self] at g1
    simp only [ay.self] at g2
    simp only [ay.self] at g3
    simp only [ay.self] at g4
    simp only [ay.self] at g5
    simp only [ay.self] at g6
    have kE:=cX 0 _ rfl
    simp only [Nat.add_zero] at kE
    have aon:=fun K:ay (wr.alloc _).heap.size (wr.alloc (.cells #[id,nm,rk,af,fs,am,dX] 89))=>kE (K.drop (bT _ _))
    simp only [ay.drop] at aon
    have cc:=J aw;clear aw bz;have gQ:=J hy;clear hy cX kE
    cases ax:qD ⟨id,nm,rk,af,fs,am,dX,aV⟩
    ·have bo:=J ax
     go_wp2
     refine eK (by kernel_rfl) (by kernel_rfl) ?_
     repeat (go_big_quiet_step ((first | (go_at_call 212;exact ay.call _ (Nat.le_refl _) (HE ⟨id,nm,rk,af,fs,am,dX,aV⟩ _ bo.out _)) | (go_at_call 213;exact ay.call _ (Nat.le_refl _) (yf.out _ _ (ay.ae _))))))
     refine wpQuiet_nil ?_
     intro K
     go_wp2
     go_ret
     exact⟨ed (by rw [js,sQ bu (by simp [qE,cc.out,gQ.out,ax])];rfl),aj aF (aj (bT _ _) K.ae)⟩
    ·have bo:=J ax
     by_cases hid:sF < id
     ·have hle:decide (id≤sF)= false:=decide_eq_false (by omega)
      cases d
      all_goals
       go_wp2
       refine eK (by kernel_rfl) (by kernel_rfl) ?_
       repeat (go_big_quiet_step ((first | (go_at_call 212;exact ay.call _ (Nat.le_refl _) (HE ⟨id,nm,rk,af,fs,am,dX,aV⟩ _ bo.out _)) | (go_at_call 213;exact ay.call _ (Nat.le_refl _) (yf.out _ _ (ay.ae _))))))
       refine wpQuiet_nil ?_
       intro K
       go_wp2
      ·go_roundw
       case rel=>exact⟨j + 1 + 1,by omega,by go_num,mv cB.out (by rw [zS cc.out gQ.out,ax,fz.out,decide_eq_true (show (aK.id ⟨sF,BW,BZ,ys,xT,ni,BX,BY⟩) < (aK.id ⟨id,nm,rk,af,fs,am,dX,aV⟩) from hid)];rfl),aj aF (aj (bT _ _) K.ae)⟩
       case measure=>simp [intOf];omega
      ·go_ret
       exact⟨ed (by rw [js,sQ bu (by rw [zS cc.out gQ.out,ax,fz.out,decide_eq_true (show (aK.id ⟨sF,BW,BZ,ys,xT,ni,BX,BY⟩) < (aK.id ⟨id,nm,rk,af,fs,am,dX,aV⟩) from hid)];rfl)];rfl),aj aF (aj (bT _ _) K.ae)⟩
     ·go_wp2
      refine eK (by kernel_rfl) (by kernel_rfl) ?_
      repeat (go_big_quiet_step ((first | (go_at_call 212;exact ay.call _ (Nat.le_refl _) (HE ⟨id,nm,rk,af,fs,am,dX,aV⟩ _ bo.out _)) | (go_at_call 213;exact ay.call _ (Nat.le_refl _) (yf.out _ _ (ay.ae _))))))
      refine wpQuiet_nil ?_
      intro K
      go_wp2
      go_ret
      exact⟨ed (by rw [js,sQ bu (by rw [zS cc.out gQ.out,ax,decide_eq_false (show¬(aK.id ⟨sF,BW,BZ,ys,xT,ni,BX,BY⟩) < (aK.id ⟨id,nm,rk,af,fs,am,dX,aV⟩) from by show¬(sF < id);omega)];rfl)];rfl),aj aF (aj (bT _ _) K.ae)⟩
  ·exact Zr
end Go.Proofs.YtlaaemmmbodaaaaGreatDoor
