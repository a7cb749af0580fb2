/- Parts. -/
import Derived.Lib.ItoaNum
import Derived.Test.YtlaaemmmbodaaaaGreatDoorEx0
import Derived.Ground.Names2Prog
import Derived.Ground.SlgfProg
import Derived.Shelf.LaysC
import Derived.Shelf.LaysM
import Derived.Shelf.Slices.SearchI
import Derived.Shelf.Slices.Turned
import Derived.Shelf.SlicesE.DeleteFunc
import Derived.Shelf.SlicesE.IndexFunc
import Derived.Shelf.Small.Wraps
import Derived.Shelf.Strconv.Atoi
import Derived.Shelf.Strconv.AtoiAll
import Derived.Shelf.Strconv.AtoiErrFast
import Derived.Shelf.Strconv.AtoiFail
import Derived.Shelf.Strconv.AtoiInnerAll
import Derived.Shelf.Strconv.AtoiLong
import Derived.Shelf.Strconv.Clone
import Derived.Shelf.Strconv.ErrVarAll
import Derived.Shelf.Strconv.Itoa0
import Derived.Shelf.Strconv.Itoa1
import Derived.Shelf.Strconv.Itoa2
import Derived.Shelf.Strconv.Itoa3
import Derived.Shelf.Strconv.Lower
import Derived.Shelf.Strconv.ParseInt10
import Derived.Shelf.Strconv.ParseIntEmpty
import Derived.Shelf.Strconv.ParseUint10
import Derived.Shelf.Strconv.ParseUint10Any
import Derived.Shelf.Strconv.ParseUint10Empty
import Derived.Shelf.Strconv.ParseUint10b16
import Derived.Shelf.Strconv.ParseUint10b32
import Derived.Shelf.Strconv.ParseUint10b64
import Derived.Shelf.Strconv.ParseUint10b8
import Derived.Shelf.Strconv.ParseUintEmpty
import Derived.Shelf.Strconv.RangeError
import Derived.Shelf.Strconv.SyntaxError
import Derived.Shelf.Strconv.ToError
import Derived.Shelf.Strconv.ToErrorRange
import Derived.Shelf.Strings.Builder1
import Derived.Shelf.Strings.Builder2
import Derived.Shelf.Strings.Count
import Derived.Shelf.Strings.Cut
import Derived.Shelf.Strings.Explode
import Derived.Shelf.Strings.OnBuilder
import Derived.Shelf.Strings.RuneCount
import Derived.Shelf.Strings.Search1
import Derived.Shelf.Strings.Search2
import Derived.Shelf.Strings.Search3
import Derived.Shelf.Strings.Shaped
import Derived.Shelf.Strings.Split
import Derived.Shelf.Strings.SplitShaped
import Derived.Shelf.Unicode.Decode
import Derived.Shelf.Unicode.DecodeAny
import Derived.Shelf.Unicode.DecodeSlow
import Derived.Shelf.Utf8.RuneCount
import Derived.Deep.Cut
import Derived.WalkSmall
import Derived.Lib.AtoiAllCases
import Derived.Lib.AtoiTie
import Derived.Lib.SlBytesRow
import Derived.BigRegion
import Derived.ChangeAlike
import Derived.Deep.RegionWith
import Derived.RegionTactic
import Derived.Maps.AppendAt
import Derived.Laws.CopyRow
import Derived.Lib.OwnBridge
import Derived.Lib.SlicesCompact
set_option maxHeartbeats 16000000
set_option maxRecDepth 100000
set_option linter.unnecessarySimpa false
set_option linter.unusedSimpArgs false
set_option linter.unusedVariables false
namespace Go.G9
open Go.RowKit
def eQ (n:Int):ByteArray:=⟨(Lib.itoa n).toArray⟩
theorem yI {a b:ByteArray} (h:a.data.toList= b.data.toList):a= b:=by
 obtain⟨⟨a⟩⟩:=a;obtain⟨⟨b⟩⟩:=b;simp at h;rw [h]
theorem xT:∀(k u:Nat),u < 10 ^ (k + 1)→(Lib.decDigits u).length≤k + 1
 | 0,u,h=>by rw [Lib.decDigits_one (by simpa using h)];simp
 | k + 1,u,h=>by
  rw [Lib.decDigits]
  split
  ·simp
  ·rw [List.length_append]
   have:=xT k (u / 10) (by rw [Nat.pow_succ] at h;omega)
   simp;omega
theorem xY (n:Int) (h:-1000000000 < n∧n < 1000000000):(eQ n).size≤10:=by
 show (Lib.itoa n).toArray.size≤10
 rw [List.size_toArray]
 unfold Lib.itoa
 split
 ·have:=xT 8 n.natAbs (by omega)
  simp;omega
 ·have:=xT 8 n.toNat (by omega)
  omega
end Go.G9
namespace Go.Proofs.YtlaaemmmbodaaaaGreatDoor
open Go.RowKit Go.G9
theorem WZ (n:Nat) (h:n≤1000000000) (w:World):Calls Tryz.prog 73 #[n] w fun e ag=>e= .returned (.string ⟨(Lib.decDigits n).toArray⟩)∧Below w w ag:=by
 induction n using Nat.strongRecOn generalizing w with
 | _ n eM=>
  have aeU:=J eM;clear eM
  by_cases aY:n < 10
  ·go_in
   go_wp2
   go_ret
   refine⟨?_,Below.refl _ _⟩
   show Ending.returned (Value.string _)= _
   rw [Lib.decDigits_one aY]
   have aE:∀k:Fin 10,(⟨#[48,49,50,51,52,53,54,55,56,57]⟩ :ByteArray).extract k (k + 1)=⟨#[UInt8.ofNat (48 + k)]⟩:=by decide +kernel
   have az:=aE ⟨n,aY⟩
   simp only at az
   rw [az]
  ·have aZ:∀W:World,Calls Tryz.prog 73 #[.int .i64 ((n:Int) / 10)] W fun e ag=>e= .returned (.string ⟨(Lib.decDigits (n / 10)).toArray⟩)∧Below W W ag:=by
    intro W
    have h:=aeU.out (n / 10) (by omega) (by omega) W
    rw [show ((n / 10:Nat):Int)= (n:Int) / 10 from by omega] at h
    exact h
   have cV:=J aZ;clear aZ
   have Oh:(0:Int)≤(n:Int) % 10:=by omega
   have AE:(n:Int) % 10 + 1≤10:=by omega
   have atI:(n:Int) % 10≤10:=by omega
   have eZ:(⟨#[48,49,50,51,52,53,54,55,56,57]⟩ :ByteArray).size= 10:=rfl
   have xG:(⟨(Lib.decDigits (n / 10)).toArray⟩ :ByteArray).size≤10:=by
    have:=xT 8 (n / 10) (by omega)
    show (Lib.decDigits (n / 10)).toArray.size≤10
    simp;omega
   have Df:((⟨#[48,49,50,51,52,53,54,55,56,57]⟩ :ByteArray).extract (n % 10) (n % 10 + 1)).size≤10:=by
    rw [ByteArray.size_extract];omega
   go_in
   go_wp2
   refine ew (by kernel_rfl) (by kernel_rfl) ?_
   repeat (go_big_quiet_step (((go_at_call 73;exact ax.call _ (by first | exact Nat.le_refl _ | omega) (cV.out _)))))
   refine wpQuiet_nil ?_
   intro K
   go_wp2
   go_ret
   refine⟨?_,K.below⟩
   show Ending.returned (Value.string _)= _
   have aE:∀k:Fin 10,(⟨#[48,49,50,51,52,53,54,55,56,57]⟩ :ByteArray).extract k (k + 1)=⟨#[UInt8.ofNat (48 + k)]⟩:=by decide +kernel
   have az:=aE ⟨n % 10,Nat.mod_lt _ (by omega)⟩
   simp only at az
   rw [az]
   refine congrArg Ending.returned (congrArg Value.string (yI ?_))
   conv=>rhs;rw [Lib.decDigits,dif_neg aY]
   simp
theorem rl (n:Int) (h0:-1000000000 < n) (h1:n < 1000000000) (w:World):Calls Tryz.prog 73 #[n] w fun e ag=>e= .returned (.string (eQ n))∧Below w w ag:=by
 by_cases aY:0≤n
 ·have h:=WZ n.toNat (by omega) w
  rw [Int.toNat_of_nonneg aY] at h
  unfold eQ Lib.itoa
  rw [if_neg (by omega)]
  exact h
 ·have tz:n < 0:=by omega
  clear aY
  have aZ:∀W:World,Calls Tryz.prog 73 #[.int .i64 (-n)] W fun e ag=>e= .returned (.string ⟨(Lib.decDigits n.natAbs).toArray⟩)∧Below W W ag:=by
   intro W
   have h:=WZ n.natAbs (by omega) W
   rw [show ((n.natAbs:Nat):Int)= -n from by omega] at h
   exact h
  have cV:=J aZ;clear aZ
  have xG:(Lib.decDigits n.natAbs).length≤10:=by have:=xT 8 n.natAbs (by omega);omega
  go_in
  go_wp2_with fail
  refine (cV.out _).mono ?_
  rintro e bd ⟨rfl,bz⟩
  go_wp2
  go_ret
  refine⟨?_,bz⟩
  show Ending.returned (Value.string _)= _
  refine congrArg Ending.returned (congrArg Value.string (yI ?_))
  unfold eQ Lib.itoa
  rw [if_pos (by omega)]
  simp
end Go.Proofs.YtlaaemmmbodaaaaGreatDoor
namespace Go.Proofs
open Go.Shelf
def Tryz.Xl:Go.Shelf.Ren:=⟨fun | 156=>249 | 165=>298 | 166=>299 | 169=>300 | 240=>324 | 241=>325 | 276=>337 | 277=>338 | n=>n,fun | 31=>57 | 9=>9 | 3=>3 | 4=>4 | 0=>0 | 20=>20 | 72=>285 | 76=>258 | 70=>283 | 37=>35 | 75=>257 | 127=>302 | 164=>318 | 5=>5 | 80=>135 | n=>n,fun | n=>n⟩
theorem Tryz.amG:Go.Proofs.Lays.n156 Tryz.prog Tryz.Xl:={
  mixed:=by kernel_rfl
  f156:=Tryz.func249.trans (congrArg some (by kernel_rfl))
  f165:=Tryz.func298.trans (congrArg some (by kernel_rfl))
  f166:=Tryz.func299.trans (congrArg some (by kernel_rfl))
  f169:=Tryz.func300.trans (congrArg some (by kernel_rfl))
  f240:=Tryz.func324.trans (congrArg some (by kernel_rfl))
  f241:=Tryz.func325.trans (congrArg some (by kernel_rfl))
  f276:=Tryz.func337.trans (congrArg some (by kernel_rfl))
  f277:=Tryz.func338.trans (congrArg some (by kernel_rfl))
  t0:=Tryz.underlying0
  a0:=Tryz.isAgg0
  z0:=Tryz.sizeOf0
  v0:=Tryz.zeroValue0
  t3:=Tryz.underlying3
  a3:=Tryz.isAgg3
  z3:=Tryz.sizeOf3
  v3:=Tryz.zeroValue3
  t4:=Tryz.underlying4
  a4:=Tryz.isAgg4
  z4:=Tryz.sizeOf4
  v4:=Tryz.zeroValue4
  t9:=Tryz.underlying9
  a9:=Tryz.isAgg9
  z9:=Tryz.sizeOf9
  v9:=Tryz.zeroValue9
  t20:=Tryz.underlying20
  a20:=Tryz.isAgg20
  z20:=Tryz.sizeOf20
  v20:=Tryz.zeroValue20
  t31:=Tryz.underlying57
  a31:=Tryz.isAgg57
  z31:=Tryz.sizeOf57
  v31:=Tryz.zeroValue57
  t37:=Tryz.underlying35
  a37:=Tryz.isAgg35
  z37:=Tryz.sizeOf35
  v37:=Tryz.zeroValue35
  t70:=Tryz.underlying283
  a70:=Tryz.isAgg283
  z70:=Tryz.sizeOf283
  v70:=Tryz.zeroValue283
  t72:=Tryz.underlying285
  a72:=Tryz.isAgg285
  z72:=Tryz.sizeOf285
  v72:=Tryz.zeroValue285
  t75:=Tryz.underlying257
  a75:=Tryz.isAgg257
  z75:=Tryz.sizeOf257
  v75:=Tryz.zeroValue257
  t76:=Tryz.underlying258
  a76:=Tryz.isAgg258
  z76:=Tryz.sizeOf258
  v76:=Tryz.zeroValue258
  t127:=Tryz.underlying302
  a127:=Tryz.isAgg302
  z127:=Tryz.sizeOf302
  v127:=Tryz.zeroValue302
  t164:=Tryz.underlying318
  a164:=Tryz.isAgg318
  z164:=Tryz.sizeOf318
  v164:=Tryz.zeroValue318}
open Go.RowKit in
def Tryz.amJ:Go.Shelf.Ren:=⟨fun | 171=>70 | 243=>128 | 246=>208 | 283=>277 | 284=>278 | 285=>279 | 286=>280 | 129=>311 | 317=>310 | 318=>312 | 319=>313 | 320=>314 | 337=>332 | 338=>333 | n=>n,fun | 3=>3 | 9=>9 | 2=>2 | 4=>4 | 171=>269 | 0=>0 | 53=>93 | 37=>35 | 5=>5 | 173=>272 | 212=>290 | 51=>291 | 20=>20 | 213=>292 | 46=>191 | 232=>323 | 233=>324 | n=>n,fun | 17=>2 | 18=>7 | 19=>8 | n=>n⟩
theorem Tryz.amI:Go.Proofs.LaysM.n171 Tryz.prog Tryz.amJ:={
  mixed:=by kernel_rfl
  f129:=Tryz.func311.trans (congrArg some (by kernel_rfl))
  f171:=Tryz.func70.trans (congrArg some (by kernel_rfl))
  f243:=Tryz.func128.trans (congrArg some (by kernel_rfl))
  f246:=Tryz.func208.trans (congrArg some (by kernel_rfl))
  f283:=Tryz.func277.trans (congrArg some (by kernel_rfl))
  f284:=Tryz.func278.trans (congrArg some (by kernel_rfl))
  f285:=Tryz.func279.trans (congrArg some (by kernel_rfl))
  f286:=Tryz.func280.trans (congrArg some (by kernel_rfl))
  f317:=Tryz.func310.trans (congrArg some (by kernel_rfl))
  f318:=Tryz.func312.trans (congrArg some (by kernel_rfl))
  f319:=Tryz.func313.trans (congrArg some (by kernel_rfl))
  f320:=Tryz.func314.trans (congrArg some (by kernel_rfl))
  f337:=Tryz.func332.trans (congrArg some (by kernel_rfl))
  f338:=Tryz.func333.trans (congrArg some (by kernel_rfl))
  t0:=Tryz.underlying0
  a0:=Tryz.isAgg0
  z0:=Tryz.sizeOf0
  v0:=Tryz.zeroValue0
  t2:=Tryz.underlying2
  a2:=Tryz.isAgg2
  z2:=Tryz.sizeOf2
  v2:=Tryz.zeroValue2
  t3:=Tryz.underlying3
  a3:=Tryz.isAgg3
  z3:=Tryz.sizeOf3
  v3:=Tryz.zeroValue3
  t4:=Tryz.underlying4
  a4:=Tryz.isAgg4
  z4:=Tryz.sizeOf4
  v4:=Tryz.zeroValue4
  t5:=Tryz.underlying5
  a5:=Tryz.isAgg5
  z5:=Tryz.sizeOf5
  v5:=Tryz.zeroValue5
  t9:=Tryz.underlying9
  a9:=Tryz.isAgg9
  z9:=Tryz.sizeOf9
  v9:=Tryz.zeroValue9
  t20:=Tryz.underlying20
  a20:=Tryz.isAgg20
  z20:=Tryz.sizeOf20
  v20:=Tryz.zeroValue20
  t37:=Tryz.underlying35
  a37:=Tryz.isAgg35
  z37:=Tryz.sizeOf35
  v37:=Tryz.zeroValue35
  t46:=Tryz.underlying191
  a46:=Tryz.isAgg191
  z46:=Tryz.sizeOf191
  v46:=Tryz.zeroValue191
  t51:=Tryz.underlying291
  a51:=Tryz.isAgg291
  z51:=Tryz.sizeOf291
  v51:=Tryz.zeroValue291
  t53:=Tryz.underlying93
  a53:=Tryz.isAgg93
  z53:=Tryz.sizeOf93
  v53:=Tryz.zeroValue93
  t171:=Tryz.underlying269
  a171:=Tryz.isAgg269
  z171:=Tryz.sizeOf269
  v171:=Tryz.zeroValue269
  t173:=Tryz.underlying272
  a173:=Tryz.isAgg272
  z173:=Tryz.sizeOf272
  v173:=Tryz.zeroValue272
  t212:=Tryz.underlying290
  a212:=Tryz.isAgg290
  z212:=Tryz.sizeOf290
  v212:=Tryz.zeroValue290
  t213:=Tryz.underlying292
  a213:=Tryz.isAgg292
  z213:=Tryz.sizeOf292
  t232:=Tryz.underlying323
  a232:=Tryz.isAgg323
  z232:=Tryz.sizeOf323
  v232:=Tryz.zeroValue323
  t233:=Tryz.underlying324
  a233:=Tryz.isAgg324
  z233:=Tryz.sizeOf324
  v233:=Tryz.zeroValue324
  g17:=by kernel_rfl
  g18:=by kernel_rfl
  g19:=by kernel_rfl
  i0:=by kernel_rfl
  i2:=by kernel_rfl
  i3:=by kernel_rfl
  i4:=by kernel_rfl
  i5:=by kernel_rfl
  i9:=by kernel_rfl
  i20:=by kernel_rfl
  i37:=by kernel_rfl
  i46:=by kernel_rfl
  i51:=by kernel_rfl
  i53:=by kernel_rfl
  i171:=by kernel_rfl
  i173:=by kernel_rfl
  i212:=by kernel_rfl
  i232:=by kernel_rfl
  i233:=by kernel_rfl
  m17:=by kernel_rfl
  m18:=by kernel_rfl
  m19:=by kernel_rfl}
open Go.RowKit Go.Sort Go.Lib in
theorem Tryz.strconv_Itoa (n:Int) (h0:-9223372036854775808≤n) (h1:n≤9223372036854775807) (w:World) (ajY:Lib.TabIs Tryz.prog w "internal/strconv.uint64pow10" .u64 Lib.pow10Tab):
    Calls Tryz.prog 70 #[n] w fun e ag=>e= .returned (.string ⟨(Lib.itoa n).toArray⟩)∧∃k os,ag= grow (w.drewN k) os:=Any.strconv_Itoa Tryz.amI n h0 h1 w ajY
open Go.RowKit Go.Sort Go.Lib in
def Tryz.amH:Go.Shelf.Ren:=⟨fun | 172=>247 | 244=>296 | 245=>297 | 247=>319 | 279=>320 | 280=>321 | 281=>322 | 282=>323 | 287=>334 | 316=>335 | 171=>70 | 205=>336 | 321=>343 | 322=>344 | 243=>128 | 246=>208 | 283=>277 | 284=>278 | 285=>279 | 286=>280 | 129=>311 | 317=>310 | 318=>312 | 319=>313 | 320=>314 | 337=>332 | 338=>333 | n=>n,fun | 9=>9 | 3=>3 | 75=>257 | 76=>258 | 4=>4 | 5=>5 | 167=>296 | 37=>35 | 0=>0 | 85=>297 | 2=>2 | 168=>299 | 53=>93 | 175=>313 | 46=>191 | 210=>316 | 127=>302 | 145=>328 | 143=>326 | 21=>21 | 171=>269 | 173=>272 | 212=>290 | 51=>291 | 20=>20 | 213=>292 | 232=>323 | 233=>324 | 80=>135 | n=>n,fun | 15=>5 | 16=>6 | 17=>2 | 18=>7 | 19=>8 | n=>n⟩
theorem Tryz.Xm:Go.Proofs.LaysC.n172 Tryz.prog Tryz.amH:={
  mixed:=by kernel_rfl
  f129:=Tryz.func311.trans (congrArg some (by kernel_rfl))
  f171:=Tryz.func70.trans (congrArg some (by kernel_rfl))
  f172:=Tryz.func247.trans (congrArg some (by kernel_rfl))
  f205:=Tryz.func336.trans (congrArg some (by kernel_rfl))
  f243:=Tryz.func128.trans (congrArg some (by kernel_rfl))
  f244:=Tryz.func296.trans (congrArg some (by kernel_rfl))
  f245:=Tryz.func297.trans (congrArg some (by kernel_rfl))
  f246:=Tryz.func208.trans (congrArg some (by kernel_rfl))
  f247:=Tryz.func319.trans (congrArg some (by kernel_rfl))
  f279:=Tryz.func320.trans (congrArg some (by kernel_rfl))
  f280:=Tryz.func321.trans (congrArg some (by kernel_rfl))
  f281:=Tryz.func322.trans (congrArg some (by kernel_rfl))
  f282:=Tryz.func323.trans (congrArg some (by kernel_rfl))
  f283:=Tryz.func277.trans (congrArg some (by kernel_rfl))
  f284:=Tryz.func278.trans (congrArg some (by kernel_rfl))
  f285:=Tryz.func279.trans (congrArg some (by kernel_rfl))
  f286:=Tryz.func280.trans (congrArg some (by kernel_rfl))
  f287:=Tryz.func334.trans (congrArg some (by kernel_rfl))
  f316:=Tryz.func335.trans (congrArg some (by kernel_rfl))
  f317:=Tryz.func310.trans (congrArg some (by kernel_rfl))
  f318:=Tryz.func312.trans (congrArg some (by kernel_rfl))
  f319:=Tryz.func313.trans (congrArg some (by kernel_rfl))
  f320:=Tryz.func314.trans (congrArg some (by kernel_rfl))
  f321:=Tryz.func343.trans (congrArg some (by kernel_rfl))
  f322:=Tryz.func344.trans (congrArg some (by kernel_rfl))
  f337:=Tryz.func332.trans (congrArg some (by kernel_rfl))
  f338:=Tryz.func333.trans (congrArg some (by kernel_rfl))
  t0:=Tryz.underlying0
  a0:=Tryz.isAgg0
  z0:=Tryz.sizeOf0
  v0:=Tryz.zeroValue0
  t2:=Tryz.underlying2
  a2:=Tryz.isAgg2
  z2:=Tryz.sizeOf2
  v2:=Tryz.zeroValue2
  t3:=Tryz.underlying3
  a3:=Tryz.isAgg3
  z3:=Tryz.sizeOf3
  v3:=Tryz.zeroValue3
  t4:=Tryz.underlying4
  a4:=Tryz.isAgg4
  z4:=Tryz.sizeOf4
  v4:=Tryz.zeroValue4
  t5:=Tryz.underlying5
  a5:=Tryz.isAgg5
  z5:=Tryz.sizeOf5
  v5:=Tryz.zeroValue5
  t9:=Tryz.underlying9
  a9:=Tryz.isAgg9
  z9:=Tryz.sizeOf9
  v9:=Tryz.zeroValue9
  t20:=Tryz.underlying20
  a20:=Tryz.isAgg20
  z20:=Tryz.sizeOf20
  v20:=Tryz.zeroValue20
  t21:=Tryz.underlying21
  a21:=Tryz.isAgg21
  z21:=Tryz.sizeOf21
  v21:=Tryz.zeroValue21
  t37:=Tryz.underlying35
  a37:=Tryz.isAgg35
  z37:=Tryz.sizeOf35
  v37:=Tryz.zeroValue35
  t46:=Tryz.underlying191
  a46:=Tryz.isAgg191
  z46:=Tryz.sizeOf191
  v46:=Tryz.zeroValue191
  t51:=Tryz.underlying291
  a51:=Tryz.isAgg291
  z51:=Tryz.sizeOf291
  v51:=Tryz.zeroValue291
  t53:=Tryz.underlying93
  a53:=Tryz.isAgg93
  z53:=Tryz.sizeOf93
  v53:=Tryz.zeroValue93
  t75:=Tryz.underlying257
  a75:=Tryz.isAgg257
  z75:=Tryz.sizeOf257
  v75:=Tryz.zeroValue257
  t76:=Tryz.underlying258
  a76:=Tryz.isAgg258
  z76:=Tryz.sizeOf258
  v76:=Tryz.zeroValue258
  t85:=Tryz.underlying297
  a85:=Tryz.isAgg297
  z85:=Tryz.sizeOf297
  v85:=Tryz.zeroValue297
  t127:=Tryz.underlying302
  a127:=Tryz.isAgg302
  z127:=Tryz.sizeOf302
  v127:=Tryz.zeroValue302
  t143:=Tryz.underlying326
  a143:=Tryz.isAgg326
  z143:=Tryz.sizeOf326
  v143:=Tryz.zeroValue326
  t145:=Tryz.underlying328
  a145:=Tryz.isAgg328
  z145:=Tryz.sizeOf328
  v145:=Tryz.zeroValue328
  t167:=Tryz.underlying296
  a167:=Tryz.isAgg296
  z167:=Tryz.sizeOf296
  v167:=Tryz.zeroValue296
  t168:=Tryz.underlying299
  a168:=Tryz.isAgg299
  z168:=Tryz.sizeOf299
  v168:=Tryz.zeroValue299
  t171:=Tryz.underlying269
  a171:=Tryz.isAgg269
  z171:=Tryz.sizeOf269
  v171:=Tryz.zeroValue269
  t173:=Tryz.underlying272
  a173:=Tryz.isAgg272
  z173:=Tryz.sizeOf272
  v173:=Tryz.zeroValue272
  t175:=Tryz.underlying313
  a175:=Tryz.isAgg313
  z175:=Tryz.sizeOf313
  v175:=Tryz.zeroValue313
  t210:=Tryz.underlying316
  a210:=Tryz.isAgg316
  z210:=Tryz.sizeOf316
  v210:=Tryz.zeroValue316
  t212:=Tryz.underlying290
  a212:=Tryz.isAgg290
  z212:=Tryz.sizeOf290
  v212:=Tryz.zeroValue290
  t213:=Tryz.underlying292
  a213:=Tryz.isAgg292
  z213:=Tryz.sizeOf292
  t232:=Tryz.underlying323
  a232:=Tryz.isAgg323
  z232:=Tryz.sizeOf323
  v232:=Tryz.zeroValue323
  t233:=Tryz.underlying324
  a233:=Tryz.isAgg324
  z233:=Tryz.sizeOf324
  v233:=Tryz.zeroValue324
  g15:=by kernel_rfl
  g16:=by kernel_rfl
  g17:=by kernel_rfl
  g18:=by kernel_rfl
  g19:=by kernel_rfl
  t80:=Tryz.underlying135
  a80:=Tryz.isAgg135
  z80:=Tryz.sizeOf135
  v80:=Tryz.zeroValue135
  i0:=by kernel_rfl
  i2:=by kernel_rfl
  i3:=by kernel_rfl
  i4:=by kernel_rfl
  i5:=by kernel_rfl
  i9:=by kernel_rfl
  i20:=by kernel_rfl
  i21:=by kernel_rfl
  i37:=by kernel_rfl
  i46:=by kernel_rfl
  i51:=by kernel_rfl
  i53:=by kernel_rfl
  i75:=by kernel_rfl
  i76:=by kernel_rfl
  i80:=by kernel_rfl
  i85:=by kernel_rfl
  i127:=by kernel_rfl
  i143:=by kernel_rfl
  i145:=by kernel_rfl
  i167:=by kernel_rfl
  i168:=by kernel_rfl
  i171:=by kernel_rfl
  i173:=by kernel_rfl
  i175:=by kernel_rfl
  i210:=by kernel_rfl
  i212:=by kernel_rfl
  i232:=by kernel_rfl
  i233:=by kernel_rfl
  m15:=by kernel_rfl
  m16:=by kernel_rfl
  m17:=by kernel_rfl
  m18:=by kernel_rfl
  m19:=by kernel_rfl
  c0:=by kernel_rfl
  c2:=by kernel_rfl
  c3:=by kernel_rfl
  c4:=by kernel_rfl
  c5:=by kernel_rfl
  c9:=by kernel_rfl
  c20:=by kernel_rfl
  c21:=by kernel_rfl
  c37:=by kernel_rfl
  c46:=by kernel_rfl
  c51:=by kernel_rfl
  c53:=by kernel_rfl
  c75:=by kernel_rfl
  c76:=by kernel_rfl
  c80:=by kernel_rfl
  c85:=by kernel_rfl
  c127:=by kernel_rfl
  c143:=by kernel_rfl
  c145:=by kernel_rfl
  c167:=by kernel_rfl
  c168:=by kernel_rfl
  c171:=by kernel_rfl
  c173:=by kernel_rfl
  c175:=by kernel_rfl
  c210:=by kernel_rfl
  c212:=by kernel_rfl
  c213:=by kernel_rfl
  c232:=by kernel_rfl
  c233:=by kernel_rfl}
open Go.RowKit in
theorem Tryz.strconv_Atoi_ok (s:ByteArray) (ajy:s.size≤9223372036854775806) (v:Int) (h:Lib.atoiAll s.data.toList= .ok v) (w:World):
    Calls Tryz.prog 247 #[s] w fun e ag=>e= .returned (.tuple #[v,.nilIface])∧(ag= w∨∃t,ag= Lib.bytesWorld w 5 t):=Any.strconv_Atoi_ok Tryz.Xm s ajy v h w
open Go.RowKit in
theorem Tryz.strconv_Atoi_syntax_var (s:ByteArray) (ajx:s.size≤281474976710656) (h:Lib.atoiAll s.data.toList= Lib.atoiAll []) (wM:TypeId) (p:Value) (w:World) (OU:w.var? Tryz.prog "strconv.ErrSyntax" =some #[.iface wM p]):
    Calls Tryz.prog 247 #[s] w fun e ag=>∃N,e= .returned (.tuple #[(0:Int),.iface 299 (.pointer (some ⟨N,0,none⟩))])∧w.heap.size≤N∧ag.heap[N]? =some (.cells #[.string ⟨#[65,116,111,105]⟩,s,.iface wM p] 316 (0,0))∧Below w w ag:=Any.strconv_Atoi_syntax_var Tryz.Xm s ajx h wM p w OU
open Go.RowKit in
open Go.RowKit Go.Lib in
def Tryz.amF:Go.Shelf.Ren:=⟨fun | 146=>66 | 221=>126 | 268=>206 | 138=>207 | 143=>167 | 195=>274 | 197=>275 | 218=>276 | 219=>246 | 260=>309 | 217=>292 | 225=>293 | 224=>294 | 267=>295 | 266=>317 | 314=>318 | n=>n,fun | 9=>9 | 31=>57 | 3=>3 | 4=>4 | 0=>0 | 105=>266 | 21=>21 | 5=>5 | 46=>191 | 119=>308 | 139=>311 | 138=>310 | 146=>294 | 51=>291 | n=>n,fun | 1=>1 | 3=>3 | 4=>4 | n=>n⟩
theorem Tryz.amE:Go.Proofs.Lays.n146 Tryz.prog Tryz.amF:={
  mixed:=by kernel_rfl
  f138:=Tryz.func207.trans (congrArg some (by kernel_rfl))
  f143:=Tryz.func167.trans (congrArg some (by kernel_rfl))
  f146:=Tryz.func66.trans (congrArg some (by kernel_rfl))
  f195:=Tryz.func274.trans (congrArg some (by kernel_rfl))
  f197:=Tryz.func275.trans (congrArg some (by kernel_rfl))
  f217:=Tryz.func292.trans (congrArg some (by kernel_rfl))
  f218:=Tryz.func276.trans (congrArg some (by kernel_rfl))
  f219:=Tryz.func246.trans (congrArg some (by kernel_rfl))
  f221:=Tryz.func126.trans (congrArg some (by kernel_rfl))
  f224:=Tryz.func294.trans (congrArg some (by kernel_rfl))
  f225:=Tryz.func293.trans (congrArg some (by kernel_rfl))
  f260:=Tryz.func309.trans (congrArg some (by kernel_rfl))
  f266:=Tryz.func317.trans (congrArg some (by kernel_rfl))
  f267:=Tryz.func295.trans (congrArg some (by kernel_rfl))
  f268:=Tryz.func206.trans (congrArg some (by kernel_rfl))
  f314:=Tryz.func318.trans (congrArg some (by kernel_rfl))
  t0:=Tryz.underlying0
  a0:=Tryz.isAgg0
  z0:=Tryz.sizeOf0
  v0:=Tryz.zeroValue0
  t3:=Tryz.underlying3
  a3:=Tryz.isAgg3
  z3:=Tryz.sizeOf3
  v3:=Tryz.zeroValue3
  t4:=Tryz.underlying4
  a4:=Tryz.isAgg4
  z4:=Tryz.sizeOf4
  v4:=Tryz.zeroValue4
  t5:=Tryz.underlying5
  a5:=Tryz.isAgg5
  z5:=Tryz.sizeOf5
  v5:=Tryz.zeroValue5
  t9:=Tryz.underlying9
  a9:=Tryz.isAgg9
  z9:=Tryz.sizeOf9
  v9:=Tryz.zeroValue9
  t21:=Tryz.underlying21
  a21:=Tryz.isAgg21
  z21:=Tryz.sizeOf21
  v21:=Tryz.zeroValue21
  t31:=Tryz.underlying57
  a31:=Tryz.isAgg57
  z31:=Tryz.sizeOf57
  v31:=Tryz.zeroValue57
  t46:=Tryz.underlying191
  a46:=Tryz.isAgg191
  z46:=Tryz.sizeOf191
  v46:=Tryz.zeroValue191
  t51:=Tryz.underlying291
  a51:=Tryz.isAgg291
  z51:=Tryz.sizeOf291
  v51:=Tryz.zeroValue291
  t105:=Tryz.underlying266
  a105:=Tryz.isAgg266
  z105:=Tryz.sizeOf266
  v105:=Tryz.zeroValue266
  t119:=Tryz.underlying308
  a119:=Tryz.isAgg308
  z119:=Tryz.sizeOf308
  t138:=Tryz.underlying310
  a138:=Tryz.isAgg310
  z138:=Tryz.sizeOf310
  v138:=Tryz.zeroValue310
  t139:=Tryz.underlying311
  a139:=Tryz.isAgg311
  z139:=Tryz.sizeOf311
  v139:=Tryz.zeroValue311
  t146:=Tryz.underlying294
  a146:=Tryz.isAgg294
  z146:=Tryz.sizeOf294
  v146:=Tryz.zeroValue294
  g1:=by kernel_rfl
  g3:=by kernel_rfl
  g4:=by kernel_rfl}
open Go.RowKit Go.Lib in
theorem Tryz.strings_Split (s sep:ByteArray) (m:Int) (w:World) (aX:s.size < 4294967281) (hm:w.cell? ⟨1,0,none⟩ =some (.int .i64 m)) (h1:1≤sep.size):
    Calls Tryz.prog 66 #[s,sep] w fun e ag=>
      e= .returned (.slice w.heap.size (Lib.countB s sep + 1) (Lib.countB s sep + 1))∧ag= w.alloc (.cells ((Lib.splitB sep 0 (Lib.countB s sep) s).map Value.string).toArray 9):=Any.strings_Split Tryz.amE (by kernel_rfl) s sep m w aX hm h1
open Go.RowKit Go.Lib in
open Go.RowKit Go.Lib in
def Tryz.amL:Go.Shelf.Ren:=⟨fun | 10=>329 | 6=>340 | n=>n,fun | 22=>38 | 23=>3 | 25=>97 | 3=>3 | 4=>4 | 0=>0 | n=>n,fun | n=>n⟩
theorem Tryz.amK:Go.Proofs.SlLaysH.n10 Tryz.prog Tryz.amL:={
  mixed:=by kernel_rfl
  f6:=⟨Tryz.f340.name,by decide,Tryz.func340.trans (congrArg some (by kernel_rfl))⟩
  f10:=⟨Tryz.f329.name,by decide,Tryz.func329.trans (congrArg some (by kernel_rfl))⟩
  t0:=Tryz.underlying0
  a0:=Tryz.isAgg0
  z0:=Tryz.sizeOf0
  v0:=Tryz.zeroValue0
  t3:=Tryz.underlying3
  a3:=Tryz.isAgg3
  z3:=Tryz.sizeOf3
  v3:=Tryz.zeroValue3
  t4:=Tryz.underlying4
  a4:=Tryz.isAgg4
  z4:=Tryz.sizeOf4
  v4:=Tryz.zeroValue4
  t22:=Tryz.underlying38
  a22:=Tryz.isAgg38
  z22:=Tryz.sizeOf38
  v22:=Tryz.zeroValue38
  a23:=Tryz.isAgg3
  z23:=Tryz.sizeOf3
  t25:=Tryz.underlying97
  a25:=Tryz.isAgg97
  z25:=Tryz.sizeOf97
  v25:=Tryz.zeroValue97}
open Go.RowKit Go.Lib Go.Sort in
theorem Tryz.slices_DeleteFunc {α:Type} [Inhabited α] (enc:α→Value) (bP:OneCell enc) (p:α→Bool) (g:Nat) (zs:Array Value) (FA:∀args w,(callFunc g args).run Tryz.prog w= .ok (.enter g args) w) (Rh:α) (v23:∀w,(zeroValue 3).run Tryz.prog w= .ok (enc Rh) w) (Cp off cap:Nat) (d:Array α) (w:World) (aO:PredAt Tryz.prog g zs enc p w) (Oy:PredOver Tryz.prog g zs enc p Cp off d.size w) (aib:Holds enc w Cp off d) (eZ:d.size≤9223372036854775807) (sB:d.size≤cap):
    Calls Tryz.prog 329 #[.slice (some ⟨Cp,off,none⟩) d.size cap,.func (.func g) #[] zs] w fun e ag=>e= .returned (.slice (some ⟨Cp,off,none⟩) (d.toList.filter fun x=>!p x).length cap)∧∃q,ag= putRow enc (Sort.ahead w q) Cp off ((d.toList.filter fun x=>!p x) ++ List.replicate (d.size - (d.toList.filter fun x=>!p x).length) Rh).toArray:=AnyE.slices_DeleteFunc Tryz.amK enc bP p g zs FA Rh v23 Cp off cap d w aO Oy aib eZ sB
end Go.Proofs
namespace Go.G9
open Go.RowKit
def mJ (c:UInt8):Bool:=decide (48≤c.toNat) && decide (c.toNat≤57)
def kF:List UInt8→Nat→Nat
 | [],a=>a
 | c ::l,a=>kF l (10 * a + (c.toNat - 48))
theorem MG:∀(l m:List UInt8) (a:Nat),kF (l ++ m) a= kF m (kF l a)
 | [],_,_=>rfl
 | c ::l,m,a=>by simp only [List.cons_append,kF];exact MG l m _
theorem IX:∀(l:List UInt8) (a:Nat),(∀c ∈ l,mJ c= true)→kF l a < (a + 1) * 10 ^ l.length
 | [],a,_=>by simp [kF]
 | c ::l,a,h=>by
  have aE:=h c (by simp)
  simp only [mJ,Bool.and_eq_true,decide_eq_true_eq] at aE
  have eM:=IX l (10 * a + (c.toNat - 48)) (fun x ay=>h x (by simp [ay]));have h2:(10 * a + (c.toNat - 48) + 1) * 10 ^ l.length≤((a + 1) * 10) * 10 ^ l.length:=Nat.mul_le_mul_right _ (by omega)
  have h3:((a + 1) * 10) * 10 ^ l.length= (a + 1) * 10 ^ (l.length + 1):=by rw [Nat.pow_succ,Nat.mul_assoc,Nat.mul_comm 10]
  simp only [kF,List.length_cons]
  omega
theorem An (u:Nat):kF (Lib.decDigits u) 0= u∧(∀c ∈ Lib.decDigits u,mJ c= true)∧Lib.decDigits u≠[]:=by
 rw [Lib.decDigits]
 have one:∀d,d < 10→(UInt8.ofNat (48 + d)).toNat= 48 + d:=fun d bO=>by
  rw [UInt8.toNat_ofNat'];omega
 split
 ·rename_i h
  refine⟨by simp only [kF];rw [one u h];omega,fun c aE=>?_,by simp⟩
  simp only [List.mem_singleton] at aE
  subst aE
  simp only [mJ,one u h,Bool.and_eq_true,decide_eq_true_eq];omega
 ·rename_i h
  obtain⟨h1,h2,h3⟩:=An (u / 10)
  have bO:u % 10 < 10:=Nat.mod_lt _ (by omega)
  refine⟨by rw [MG,h1];simp only [kF];rw [one _ bO];omega,fun c aE=>?_,by simp⟩
  simp only [List.mem_append,List.mem_singleton] at aE
  rcases aE with aE | aE
  ·exact h2 c aE
  ·subst aE
   simp only [mJ,one _ bO,Bool.and_eq_true,decide_eq_true_eq];omega
termination_by u
decreasing_by omega
def wF:List UInt8→Bool
 | c ::_ ::_=>c == 45
 | _=>false
def mW (l:List UInt8):List UInt8:=if wF l then l.tail else l
def hk (l:List UInt8):Int:=if wF l then -(kF (mW l) 0:Int) else (kF (mW l) 0:Int)
def fg (s:ByteArray):Bool:=decide (1≤(mW s.data.toList).length) && (decide ((mW s.data.toList).length≤6) && ((mW s.data.toList).all mJ && decide (eQ (hk s.data.toList)= s)))
def jQ (s:ByteArray):Value:=if fg s then .tuple #[.int .i64 (hk s.data.toList),.bool true] else .tuple #[.int .i64 0,.bool false]
theorem PQ {s:ByteArray} (h6:(mW s.data.toList).length≤6) (bO:(mW s.data.toList).all mJ= true):-999999≤hk s.data.toList∧hk s.data.toList≤999999:=by
 have h:=IX (mW s.data.toList) 0 (fun c aE=>List.all_eq_true.1 bO c aE);have h2:10 ^ (mW s.data.toList).length≤10 ^ 6:=Nat.pow_le_pow_right (by omega) h6
 unfold hk;split <;> omega
theorem aow (v:Int) (h0:-999999≤v) (h1:v≤999999):fg (eQ v)= true∧hk (eQ v).data.toList= v:=by
 have aS:(eQ v).data.toList= Lib.itoa v:=rfl
 have key:mW (Lib.itoa v)= Lib.decDigits v.natAbs∧wF (Lib.itoa v)= decide (v < 0):=by
  unfold Lib.itoa
  split
  ·rename_i h
   obtain⟨_,_,h3⟩:=An v.natAbs
   obtain⟨c,l,jK⟩:=List.exists_cons_of_ne_nil h3
   rw [jK]
   exact⟨by simp [mW,wF],by simp [wF,h]⟩
  ·rename_i h
   have aw:v.toNat= v.natAbs:=by omega
   rw [aw]
   obtain⟨_,h2,h3⟩:=An v.natAbs
   obtain⟨c,l,jK⟩:=List.exists_cons_of_ne_nil h3
   have aE:=h2 c (by rw [jK];simp)
   simp only [mJ,Bool.and_eq_true,decide_eq_true_eq] at aE
   have aX:wF (c ::l)= false:=by
    cases l with
    | nil=>rfl
    | cons d l=>
     show (c == 45)= false
     rw [beq_eq_false_iff_ne]
     intro e;subst e;simp at aE
   rw [jK]
   exact⟨by simp [mW,aX],by rw [aX];exact (decide_eq_false h).symm⟩
 obtain⟨eB,cp⟩:=key
 obtain⟨d1,d2,d3⟩:=An v.natAbs
 have aY:hk (Lib.itoa v)= v:=by
  rw [hk,eB,cp,d1]
  by_cases h:v < 0
  ·rw [decide_eq_true h];simp;omega
  ·rw [decide_eq_false h];simp;omega
 refine⟨?_,by rw [aS];exact aY⟩
 have e6:=xT 5 v.natAbs (by omega);have e1:1≤(Lib.decDigits v.natAbs).length:=List.length_pos_iff.2 d3
 rw [fg,aS,eB,aY,decide_eq_true e1,decide_eq_true e6,List.all_eq_true.2 d2]
 simp
theorem PT {s:ByteArray} (h:fg s= true):s= eQ (hk s.data.toList)∧-999999≤hk s.data.toList∧hk s.data.toList≤999999:=by
 simp only [fg,Bool.and_eq_true,decide_eq_true_eq] at h
 exact⟨h.2.2.2.symm,PQ h.2.1 h.2.2.1⟩
theorem Qn {a b:ByteArray} (h:a≠b):(a.toList == b.toList)= false:=beq_eq_false_iff_ne.2 (by rw [ByteArray.toList_eq,ByteArray.toList_eq];exact fun e=>h (yI e))
theorem DQ (t:ByteArray) {k:Nat} (az:k < t.size):t.data.toList.take (k + 1)= t.data.toList.take k ++ [t[k]]:=by
 have h:k < t.data.toList.length:=by simpa using az
 rw [List.take_succ_eq_append_getElem h]
 congr 1
theorem TM (t:ByteArray) {k:Nat} (az:k < t.size):kF (t.data.toList.take (k + 1)) 0= 10 * kF (t.data.toList.take k) 0 + (t[k].toNat - 48):=by
 rw [DQ t az,MG];rfl
end Go.G9
namespace Go.Proofs.YtlaaemmmbodaaaaGreatDoor
open Go.RowKit Go.G9
theorem amO (s:ByteArray):(s.extract 1 s.size).data.toList= s.data.toList.drop 1:=by
 rw [ByteArray.data_extract,Array.toList_extract]
 simp
 rw [List.take_of_length_le (by simp)]
theorem Zw (s:ByteArray) (h:1 < s.size):wF s.data.toList= (s[0] == 45):=by
 obtain⟨⟨l⟩⟩:=s
 match l with
 | []=>simp [ByteArray.size] at h
 | [c]=>simp [ByteArray.size] at h
 | c ::d ::l=>rfl
theorem aqo (s:ByteArray) (h:¬1 < s.size):wF s.data.toList= false:=by
 obtain⟨⟨l⟩⟩:=s
 match l with
 | []=>rfl
 | [c]=>rfl
 | c ::d ::l=>simp [ByteArray.size] at h
theorem aax {p:Prop} (h:p:=by
 have hlen:(mW s.data.toList).length= s.size:=by rw [bX.out];simp
 have oK:=J hlen;clear hlen
 by_cases bu:1≤s.size∧s.size≤6
 case neg=>
  have iY:fc (s.size:Int) 1 6= false:=by
   cases aE:fc (s.size:Int) 1 6 with
   | false=>rfl
   | true=>simp only [fc,Bool.and_eq_true,decide_eq_true_eq] at aE;omega
  have sX:=J iY;clear iY
  go_wp2_with fail
  refine (jF _ 1 6 _ sX.out _).mono ?_
  rintro e w0 ⟨rfl,h0⟩
  rw [h0]
  clear h0 w0
  go_wp2
  go_ret2
  have hM:fg s= false:=by
   cases aE:fg s with
   | false=>rfl
   | true=>simp only [fg,oK.out,Bool.and_eq_true,decide_eq_true_eq] at aE;omega
  exact⟨by rw [jQ,hM];rfl,Below.refl _ _⟩
 obtain⟨wk,OC⟩:=bu
 have iY:fc (s.size:Int) 1 6= true:=by simp only [fc,Bool.and_eq_true,decide_eq_true_eq];omega
 have sX:=J iY;clear iY
 go_wp2_with fail
 refine (jF _ 1 6 _ sX.out _).mono ?_
 rintro e w0 ⟨rfl,h0⟩
 rw [h0]
 clear h0 w0
 go_wp2
 go_loop [5,6] (fun n i=>∃k:Nat,k≤s.size∧i= .int .i64 k∧n= .int .i64 (kF (s.data.toList.take k) 0:Nat)∧(∀c ∈ s.data.toList.take k,mJ c= true)) (fun _ i=>s.size - (intOf i).toNat)
 case atStart=>exact⟨0,Nat.zero_le _,rfl,rfl,by simp⟩
 case round=>
  obtain⟨k,az,rfl,rfl,bO⟩:=hrel
  have aB:=IX (s.data.toList.take k) 0 bO;have aN:10 ^ (s.data.toList.take k).length≤10 ^ 6:=Nat.pow_le_pow_right (by omega) (by rw [List.length_take];omega)
  have bG:kF (s.data.toList.take k) 0 < 1000000:=by omega
  clear aB aN;have fG:=J bO;clear bO
  by_cases bl:k < s.size
  ·have hK:s[k].toNat < 256:=s[k].toNat_lt
   by_cases h1:s[k].toNat < 48
   case pos=>
    go_wp2
    go_ret2
    have hM:fg s= false:=by
     cases aE:fg s with
     | false=>rfl
     | true=>
      simp only [fg,bX.out,Bool.and_eq_true,decide_eq_true_eq,List.all_eq_true] at aE
      have ay:=aE.2.2.1 s[k] (List.mem_of_mem_take (i:=k + 1) (by rw [DQ s bl];simp))
      simp only [mJ,Bool.and_eq_true,decide_eq_true_eq] at ay;omega
    exact⟨by rw [jQ,hM];rfl,Below.refl _ _⟩
   by_cases h2:57 < s[k].toNat
   case pos=>
    go_wp2
    go_ret2
    have hM:fg s= false:=by
     cases aE:fg s with
     | false=>rfl
     | true=>
      simp only [fg,bX.out,Bool.and_eq_true,decide_eq_true_eq,List.all_eq_true] at aE
      have ay:=aE.2.2.1 s[k] (List.mem_of_mem_take (i:=k + 1) (by rw [DQ s bl];simp))
      simp only [mJ,Bool.and_eq_true,decide_eq_true_eq] at ay;omega
    exact⟨by rw [jQ,hM];rfl,Below.refl _ _⟩
   have pG:∀c ∈ s.data.toList.take (k + 1),mJ c= true:=fun c aE=>by
    rw [DQ s bl] at aE
    simp only [List.mem_append,List.mem_singleton] at aE
    rcases aE with aE | aE
    ·exact fG.out c aE
    ·subst aE;simp only [mJ,Bool.and_eq_true,decide_eq_true_eq];omega
   have ve:=TM s bl;have gu:=J pG;have LQ:=J ve;clear pG ve
   go_wp2
   go_round
   case rel=>exact⟨k + 1,by omega,by go_num,by rw [LQ.out];(try rfl);congr 1;omega,gu.out⟩
   case measure=>simp [intOf];omega
  ·obtain rfl:k= s.size:=by omega
   have lY:(mW s.data.toList).all mJ= true:=by
    rw [bX.out,List.all_eq_true]
    have h:=fG.out
    rwa [List.take_of_length_le (by simp)] at h
   have aY:hk s.data.toList= (kF (s.data.toList.take s.size) 0:Nat):=by
    rw [hk,eA.out,bX.out,List.take_of_length_le (by simp)];rfl
   have rH:=PQ (s:=s) (by rw [oK.out];exact OC) lY
   rw [aY] at rH
   have Ef:=J lY;have Ab:=J aY;clear lY aY
   by_cases he:eQ ((kF (s.data.toList.take s.size) 0:Nat))= s
   ·have CU:((eQ ((kF (s.data.toList.take s.size) 0:Nat))).toList == s.toList)= true:=beq_iff_eq.2 (by rw [he])
    have cX:=J he;clear he
    go_wp2_with fail
    refine (rl _ (by omega) (by omega) _).mono ?_
    rintro e bd ⟨rfl,bz⟩
    go_wp2
    go_ret2
    have AO:fg s= true:=by simp only [fg,oK.out,Ef.out,Ab.out,cX.out];simp;omega
    exact⟨by rw [jQ,AO,Ab.out];rfl,bz⟩
   ·have CU:((eQ ((kF (s.data.toList.take s.size) 0:Nat))).toList == s.toList)= false:=Qn he
    have cX:=J he;clear he
    go_wp2_with fail
    refine (rl _ (by omega) (by omega) _).mono ?_
    rintro e bd ⟨rfl,bz⟩
    go_wp2
    go_ret2
    have hM:fg s= false:=by
     cases aE:fg s with
     | false=>rfl
     | true=>
      simp only [fg,Bool.and_eq_true,decide_eq_true_eq,Ab.out] at aE
      exact absurd aE.2.2.2 cX.out
    exact⟨by rw [jQ,hM];rfl,bz⟩):p:=h
theorem acT {p:Prop} (h:p:=by
 go_wp2
 go_ret2
 have hM:fg s= false:=by
  cases aE:fg s with
  | false=>rfl
  | true=>
   simp only [fg,bX.out,Bool.and_eq_true,decide_eq_true_eq,List.all_eq_true] at aE
   have ay:=aE.2.2.1 t[k] (List.mem_of_mem_take (i:=k + 1) (by rw [DQ t bl];simp))
   simp only [mJ,Bool.and_eq_true,decide_eq_true_eq] at ay;omega
 exact⟨by rw [jQ,hM];rfl,Below.refl _ _⟩):p:=h
theorem amh (s:ByteArray) (aX:s.size≤maxLen) (w:World):Calls Tryz.prog 194 #[s] w fun e ag=>e= .returned (jQ s)∧Below w w ag:=by
 unfold maxLen at aX
 by_cases h1:1 < s.size
 case neg=>
  have uZ:=aqo s h1;have eA:=J uZ;have bX:Hid (mW s.data.toList= s.data.toList):=J (by rw [mW,uZ];rfl);clear uZ
  go_in
  go_upto_region 4 with fail
  exact aax
 have rf:s[0].toNat < 256:=s[0].toNat_lt
 by_cases h2:s[0]= 45
 case neg=>
  have uZ:wF s.data.toList= false:=by rw [Zw s h1];exact beq_eq_false_iff_ne.2 h2
  have eA:=J uZ;have bX:Hid (mW s.data.toList= s.data.toList):=J (by rw [mW,uZ];rfl)
  have gE:((s[0].toNat:Int) == 45)= false:=by
   rw [beq_eq_false_iff_ne];intro e
   exact h2 (UInt8.toNat_inj.1 (by have:(45:UInt8).toNat= 45:=rfl;omega))
  clear uZ
  go_in
  go_upto_region 4 with fail
  clear gE
  exact aax
 have uZ:wF s.data.toList= true:=by rw [Zw s h1];exact beq_iff_eq.2 h2
 have eA:=J uZ
 have gE:((s[0].toNat:Int) == 45)= true:=by rw [h2];rfl
 go_in
 go_upto_region 4 with fail
 clear gE
 obtain⟨t,cE⟩ :∃t,t= s.extract 1 s.size:=⟨_,rfl⟩
 rw [← cE]
 have bX:Hid (mW s.data.toList= t.data.toList):=J (by rw [mW,uZ,cE,amO];simp)
 have OR:t.size + 1= s.size:=by rw [cE,ByteArray.size_extract];omega
 clear uZ cE
 have hlen:(mW s.data.toList).length= t.size:=by rw [bX.out];simp
 have oK:=J hlen;clear hlen
 by_cases bu:1≤t.size∧t.size≤6
 case neg=>
  have iY:fc (t.size:Int) 1 6= false:=by
   cases aE:fc (t.size:Int) 1 6 with
   | false=>rfl
   | true=>simp only [fc,Bool.and_eq_true,decide_eq_true_eq] at aE;omega
  have sX:=J iY;clear iY
  go_wp2_with fail
  refine (jF _ 1 6 _ sX.out _).mono ?_
  rintro e w0 ⟨rfl,h0⟩
  rw [h0]
  clear h0 w0
  go_wp2
  go_ret2
  have hM:fg s= false:=by
   cases aE:fg s with
   | false=>rfl
   | true=>simp only [fg,oK.out,Bool.and_eq_true,decide_eq_true_eq] at aE;omega
  exact⟨by rw [jQ,hM];rfl,Below.refl _ _⟩
 obtain⟨wk,OC⟩:=bu
 have iY:fc (t.size:Int) 1 6= true:=by simp only [fc,Bool.and_eq_true,decide_eq_true_eq];omega
 have sX:=J iY;clear iY
 go_wp2_with fail
 refine (jF _ 1 6 _ sX.out _).mono ?_
 rintro e w0 ⟨rfl,h0⟩
 rw [h0]
 clear h0 w0
 go_wp2
 go_loop [5,6] (fun n i=>∃k:Nat,k≤t.size∧i= .int .i64 k∧n= .int .i64 (kF (t.data.toList.take k) 0:Nat)∧(∀c ∈ t.data.toList.take k,mJ c= true)) (fun _ i=>t.size - (intOf i).toNat)
 case atStart=>exact⟨0,Nat.zero_le _,rfl,rfl,by simp⟩
 case round=>
  obtain⟨k,az,rfl,rfl,bO⟩:=hrel
  have aB:=IX (t.data.toList.take k) 0 bO;have aN:10 ^ (t.data.toList.take k).length≤10 ^ 6:=Nat.pow_le_pow_right (by omega) (by rw [List.length_take];omega)
  have bG:kF (t.data.toList.take k) 0 < 1000000:=by omega
  clear aB aN;have fG:=J bO;clear bO
  by_cases bl:k < t.size
  ·have hK:t[k].toNat < 256:=t[k].toNat_lt
   by_cases h1:t[k].toNat < 48
   case pos=>
    exact acT
   by_cases h2:57 < t[k].toNat
   case pos=>
    exact acT
   have pG:∀c ∈ t.data.toList.take (k + 1),mJ c= true:=fun c aE=>by
    rw [DQ t bl] at aE
    simp only [List.mem_append,List.mem_singleton] at aE
    rcases aE with aE | aE
    ·exact fG.out c aE
    ·subst aE;simp only [mJ,Bool.and_eq_true,decide_eq_true_eq];omega
   have ve:=TM t bl;have gu:=J pG;have LQ:=J ve;clear pG ve
   go_wp2
   go_round
   case rel=>exact⟨k + 1,by omega,by go_num,by rw [LQ.out];(try rfl);congr 1;omega,gu.out⟩
   case measure=>simp [intOf];omega
  ·obtain rfl:k= t.size:=by omega
   have lY:(mW s.data.toList).all mJ= true:=by
    rw [bX.out,List.all_eq_true]
    have h:=fG.out
    rwa [List.take_of_length_le (by simp)] at h
   have aY:hk s.data.toList= -(kF (t.data.toList.take t.size) 0:Nat):=by
    rw [hk,eA.out,bX.out,List.take_of_length_le (by simp)];rfl
   have rH:=PQ (s:=s) (by rw [oK.out];exact OC) lY
   rw [aY] at rH
   have Ef:=J lY;have Ab:=J aY;clear lY aY
   by_cases he:eQ (-(kF (t.data.toList.take t.size) 0:Nat))= s
   ·have CU:((eQ (-(kF (t.data.toList.take t.size) 0:Nat))).toList == s.toList)= true:=beq_iff_eq.2 (by rw [he])
    have cX:=J he;clear he
    go_wp2_with fail
    refine (rl _ (by omega) (by omega) _).mono ?_
    rintro e bd ⟨rfl,bz⟩
    go_wp2
    go_ret2
    have AO:fg s= true:=by simp only [fg,oK.out,Ef.out,Ab.out,cX.out];simp;omega
    exact⟨by rw [jQ,AO,Ab.out];rfl,bz⟩
   ·have CU:((eQ (-(kF (t.data.toList.take t.size) 0:Nat))).toList == s.toList)= false:=Qn he
    have cX:=J he;clear he
    go_wp2_with fail
    refine (rl _ (by omega) (by omega) _).mono ?_
    rintro e bd ⟨rfl,bz⟩
    go_wp2
    go_ret2
    have hM:fg s= false:=by
     cases aE:fg s with
     | false=>rfl
     | true=>
      simp only [fg,Bool.and_eq_true,decide_eq_true_eq,Ab.out] at aE
      exact absurd aE.2.2.2 cX.out
    exact⟨by rw [jQ,hM];rfl,bz⟩
open Go.RowKit Go.G9
theorem MY:Tryz.prog.globalNamed "internal/strconv.uint64pow10" =some 2:=by kernel_rfl
def ll (w:World):Prop:=2 < w.heap.size∧Lib.TabIs Tryz.prog w "internal/strconv.uint64pow10" .u64 Lib.pow10Tab
theorem ll.below {w ag:World} (h:ll w) (aB:Below w w ag):ll ag:=⟨Nat.lt_of_lt_of_le h.1 aB.size,var?_below aB MY h.1 h.2⟩
theorem AU (n:Int) (h0:-1000000000 < n) (h1:n < 1000000000) (w:World) (dt:ll w):Calls Tryz.prog 70 #[n] w fun e ag=>e= .returned (.string (eQ n))∧Below w w ag:=by
 refine (Tryz.strconv_Itoa n (by omega) (by omega) w dt.2).mono ?_
 rintro e ag ⟨rfl,k,os,rfl⟩
 exact⟨rfl,rfl,rfl,rfl,by simp [Sort.grow],fun i hi=>(show (w.heap ++ os)[i]? =w.heap[i]? from Array.getElem?_append_left hi)⟩
end Go.Proofs.YtlaaemmmbodaaaaGreatDoor
namespace Go.G9
open Go.RowKit
theorem Yj:∀(l:List UInt8) (a:Nat),(∀c ∈ l,mJ c= true)→(a + 1) * 10 ^ l.length≤10000000→Lib.parseUint10 a l= .ok (kF l a)
 | [],a,_,_=>rfl
 | c ::l,a,h,aB=>by
  have aE:=h c (by simp)
  simp only [mJ,Bool.and_eq_true,decide_eq_true_eq] at aE
  have aO:1≤10 ^ l.length:=Nat.pow_pos (by omega)
  have h3:(a + 1) * 10 ^ (l.length + 1)= (a + 1) * 10 * 10 ^ l.length:=by rw [Nat.pow_succ,Nat.mul_assoc,Nat.mul_comm 10]
  simp only [List.length_cons] at aB
  rw [h3] at aB
  have h4:(a * 10 + (c.toNat - 48) + 1) * 10 ^ l.length≤(a + 1) * 10 * 10 ^ l.length:=Nat.mul_le_mul_right _ (by omega);have h5:(a + 1) * 10 * 1≤(a + 1) * 10 * 10 ^ l.length:=Nat.mul_le_mul_left _ aO;have eM:=Yj l (a * 10 + (c.toNat - 48)) (fun x ay=>h x (by simp [ay])) (by omega)
  rw [Lib.parseUint10,if_pos aE,if_neg (by omega),if_neg (by omega),eM]
  simp only [kF,Nat.mul_comm 10 a]
theorem afF (v:Int) (h0:-999999≤v) (h1:v≤999999):Lib.atoiAll (eQ v).data.toList= .ok v:=by
 show Lib.atoiAll (Lib.itoa v)= .ok v
 have aS:∀u,u < 1000000→Lib.parseMag (Lib.decDigits u)= .ok u:=fun u hu=>by
  obtain⟨d1,d2,d3⟩:=An u
  have e6:=xT 5 u (by omega);have aO:10 ^ (Lib.decDigits u).length≤10 ^ 6:=Nat.pow_le_pow_right (by omega) e6
  rw [Lib.parseMag,if_neg d3,Yj _ 0 d2 (by omega),d1]
 unfold Lib.itoa
 split
 ·rename_i h
  rw [Lib.atoiAll_minus,aS _ (by omega)]
  simp only [Lib.signed]
  rw [if_neg (by omega)]
  congr 1;omega
 ·rename_i h
  obtain⟨_,d2,d3⟩:=An v.toNat
  have dQ:=aS v.toNat (by omega)
  obtain⟨c,l,jK⟩:=List.exists_cons_of_ne_nil d3
  have aE:=d2 c (by rw [jK];simp)
  simp only [mJ,Bool.and_eq_true,decide_eq_true_eq] at aE
  rw [jK] at dQ ⊢
  rw [Lib.atoiAll_plain c l (by omega) (by omega),dQ]
  simp only [Lib.signless]
  rw [if_neg (by omega)]
  congr 1;omega
theorem PR {s:ByteArray} (h:fg s= true):Lib.atoiAll s.data.toList= .ok (hk s.data.toList):=by
 obtain⟨e,dx,dz⟩:=PT h
 have h2:=afF (hk s.data.toList) dx dz
 rw [← e] at h2;exact h2
theorem aox {s:ByteArray} (h:fg s= true):s.size≤7:=by
 simp only [fg,Bool.and_eq_true,decide_eq_true_eq] at h
 have h6:=h.2.1
 have:s.data.toList.length= s.size:=by simp
 unfold mW at h6
 split at h6
 ·rw [List.length_tail] at h6;omega
 ·omega
end Go.G9
namespace Go.Proofs.YtlaaemmmbodaaaaGreatDoor
open Go.RowKit Go.G9
theorem MZ:Tryz.prog.globalNamed "strconv.ErrSyntax" =some 5:=by kernel_rfl
def BJ (w:World):Prop:=5 < w.heap.size∧∃wM p,w.var? Tryz.prog "strconv.ErrSyntax" =some #[.iface wM p]
theorem BJ.below {w ag:World} (h:BJ w) (aB:Below w w ag):BJ ag:=by
 obtain⟨h1,wM,p,h2⟩:=h
 exact⟨Nat.lt_of_lt_of_le h1 aB.size,wM,p,var?_below aB MZ h1 h2⟩
theorem QY {p:Prop} (h:p:=by
 rcases sF with rfl | ⟨t,rfl⟩
 ·exact Below.refl _ _
 ·exact Lib.bytesWorld_below _ _ _):p:=h
theorem WB (s:ByteArray) (aX:s.size≤maxLen) (w:World) (bX:ll w) (cX:BJ w):Calls Tryz.prog 168 #[s] w fun e ag=>e= .returned (jQ s)∧Below w w ag:=by
 unfold maxLen at aX
 have no:∀{ag:World},fg s= false→Below w w ag→(Ending.returned (.tuple #[(0:Int),false])= Ending.returned (jQ s)∧Below w w ag):=fun h aB=>⟨by rw [jQ,h];rfl,aB⟩
 by_cases h7:s.size≤7
 case neg=>
  have hM:fg s= false:=Bool.eq_false_iff.2 fun h=>h7 (aox h)
  go_in
  go_wp2
  go_ret2
  exact no hM (Below.refl _ _)
 cases cT:Lib.atoiAll s.data.toList
 rotate_left
 ·have hM:fg s= false:=Bool.eq_false_iff.2 fun h=>by rw [PR h] at cT;cases cT
  obtain⟨_,wM,p,OU⟩:=cX
  have mh:=J (fun W (h:W.var? Tryz.prog "strconv.ErrSyntax" =some #[.iface wM p])=>Tryz.strconv_Atoi_syntax_var s (by omega) cT wM p W h);clear cT
  go_in
  go_wp2_with fail
  refine (mh.out _ OU).mono ?_
  rintro e bd ⟨N,rfl,_,_,bz⟩
  go_wp2
  go_ret2
  exact no hM bz
 ·exfalso
  rw [Lib.atoiAll_short _ (by simp;omega)] at cT
  cases ay:Lib.atoi s.data.toList <;> rw [ay] at cT <;> cases cT
 ·rename_i v
  obtain⟨eb,dx⟩:=Lib.atoiAll_bounds cT
  have mh:=J (fun W=>Tryz.strconv_Atoi_ok s (by omega) v cT W)
  cases iY:fc v (-999999) 999999
  ·have hM:fg s= false:=Bool.eq_false_iff.2 fun h=>by
    have e:=PR h
    rw [cT] at e
    obtain⟨_,c0,c1⟩:=PT h
    injection e with e
    rw [← e] at c0 c1
    have:fc v (-999999) 999999= true:=by simp only [fc,Bool.and_eq_true,decide_eq_true_eq];omega
    rw [this] at iY;cases iY
   have sX:=J iY;clear iY cT
   go_in
   go_wp2_with fail
   refine (mh.out _).mono ?_
   rintro e bd ⟨rfl,sF⟩
   have bz:Below w w bd:=by
    exact QY
   clear sF
   go_wp2_with fail
   refine (jj v (-999999) 999999 _ sX.out _).mono ?_
   rintro e w0 ⟨rfl,h0⟩
   rw [h0]
   clear h0 w0
   go_wp2
   go_ret2
   exact no hM bz
  have pI:-999999≤v∧v≤999999:=by simp only [fc,Bool.and_eq_true,decide_eq_true_eq] at iY;omega
  have sX:=J iY;clear iY
  by_cases he:eQ v= s
  ·have CU:((eQ v).toList == s.toList)= true:=beq_iff_eq.2 (by rw [he])
   have AO:=aow v pI.1 pI.2
   rw [he] at AO
   have iv:=J AO;clear AO cT he
   go_in
   go_wp2_with fail
   refine (mh.out _).mono ?_
   rintro e bd ⟨rfl,sF⟩
   have bz:Below w w bd:=by
    exact QY
   clear sF
   go_wp2_with fail
   refine (jj v (-999999) 999999 _ sX.out _).mono ?_
   rintro e w0 ⟨rfl,h0⟩
   rw [h0]
   clear h0 w0
   go_wp2_with fail
   refine (AU v (by omega) (by omega) _ (bX.below bz)).mono ?_
   rintro e aM ⟨rfl,aN⟩
   go_wp2
   go_ret2
   exact⟨by rw [jQ,iv.out.1,iv.out.2];rfl,ah bz aN⟩
  ·have CU:((eQ v).toList == s.toList)= false:=Qn he
   have hM:fg s= false:=Bool.eq_false_iff.2 fun h=>by
    have e:=PR h
    rw [cT] at e
    injection e with e
    have:=(PT h).1
    rw [← e] at this
    exact he this.symm
   clear cT he
   go_in
   go_wp2_with fail
   refine (mh.out _).mono ?_
   rintro e bd ⟨rfl,sF⟩
   have bz:Below w w bd:=by
    exact QY
   clear sF
   go_wp2_with fail
   refine (jj v (-999999) 999999 _ sX.out _).mono ?_
   rintro e w0 ⟨rfl,h0⟩
   rw [h0]
   clear h0 w0
   go_wp2_with fail
   refine (AU v (by omega) (by omega) _ (bX.below bz)).mono ?_
   rintro e aM ⟨rfl,aN⟩
   go_wp2
   go_ret2
   exact no hM (ah bz aN)
end Go.Proofs.YtlaaemmmbodaaaaGreatDoor
namespace Go.G9
open Go.RowKit
def jm {T:Type} (p:T→Bool) (xs:List T) (i:Nat):Bool:=match xs[i]? with | some x=>p x | none=>false
def oS {T:Type} (p:T→Bool) (xs:List T):Int:=match xs.findIdx? p with | some i=>i | none=>-1
theorem Pa {T:Type} {p:T→Bool} {xs:List T} (h:hH (fun i=>!jm p xs i) xs.length= true):oS p xs= -1:=by
 have:xs.findIdx? p= none:=by
  rw [List.findIdx?_eq_none_iff]
  intro x ay
  obtain⟨i,hi⟩:=List.getElem?_of_mem ay
  have:=oZ.1 h i (List.getElem?_eq_some_iff.1 hi).1
  simpa [jm,hi] using this
 simp [oS,this]
theorem OZ {T:Type} {p:T→Bool} {xs:List T} {k:Nat} (az:k < xs.length) (h:hH (fun i=>!jm p xs i) k= true) (aO:jm p xs k= true):oS p xs= k:=by
 have:xs.findIdx? p= some k:=by
  rw [List.findIdx?_eq_some_iff_getElem]
  refine⟨az,?_,fun j bH=>?_⟩
  ·simpa [jm,List.getElem?_eq_getElem az] using aO
  ·have:=oZ.1 h j bH
   simpa [jm,List.getElem?_eq_getElem (show j < xs.length by omega)] using this
 simp [oS,this]
theorem JK {T:Type} (p:T→Bool) (xs:List T):(decide (0≤oS p xs))= xs.any p:=by
 unfold oS
 cases h:xs.findIdx? p with
 | none=>simp at h;simpa using fun x ay=>by simpa using h x ay
 | some i=>
  rw [List.findIdx?_eq_some_iff_getElem] at h
  obtain⟨hi,aO,_⟩:=h
  have:xs.any p= true:=List.any_eq_true.2 ⟨_,List.getElem_mem hi,aO⟩
  rw [this];simp
theorem alH {T:Type} (p:T→Bool) (xs:List T):-1≤oS p xs∧oS p xs < xs.length:=by
 unfold oS
 cases h:xs.findIdx? p with
 | none=>simp;omega
 | some i=>
  rw [List.findIdx?_eq_some_iff_getElem] at h
  obtain⟨hi,_⟩:=h
  simp;omega
theorem Bt {P:Program} {f:FuncId} {fn:Func} (hf:P.funcs[f]? =some fn) (ajB:(fn.name == "runtime.NumGoroutine")= false) (aB:fn.body.isNone= false) (args:Array Value) (W:World):
  (callFunc f args).run P W= .ok (.enter f args) W:=by
 have h1:fn.name≠ "runtime.NumGoroutine":=by simpa using ajB
 have h2:fn.body≠none:=by intro h;rw [h] at aB;simp at aB
 simp [callFunc,hf,h1,h2]
def bR (x:Int):List Value:=[.int .i64 x]
structure Str where
 s:ByteArray
 ok:s.size≤maxLen
def Str.cells (x:Str):List Value:=[.string x.s]
end Go.G9
namespace Go.Proofs.YtlaaemmmbodaaaaGreatDoor
open Go.RowKit Go.G9
theorem Ub {T:Type} {f:T→List Value} {sz:Nat} (hf:∀y,(f y).length= sz):∀(xs:List T) (i:Nat) (x y:T) (j:Nat) (u:Value),xs[i]? =some x→f y= (f x).set j u→j < sz→(xs.flatMap f).set (i * sz + j) u= (xs.set i y).flatMap f
 | [],i,x,y,j,u,h,_,_=>by simp at h
 | a ::xs,0,x,y,j,u,h,hy,bH=>by
  simp at h;subst h
  simp only [List.flatMap_cons,List.set_cons_zero,Nat.zero_mul,Nat.zero_add,hy]
  rw [List.set_append_left _ _ (by rw [hf];exact bH)]
 | a ::xs,i + 1,x,y,j,u,h,hy,bH=>by
  have eM:=Ub hf xs i x y j u (by simpa using h) hy bH
  simp only [List.flatMap_cons,List.set_cons_succ]
  rw [List.set_append_right _ _ (by rw [hf,Nat.succ_mul];omega),hf,show (i + 1) * sz + j - sz= i * sz + j by rw [Nat.succ_mul];omega,eM]
theorem aV.aqm {T:Type} {f:T→List Value} {B sz:Nat} {e:TypeId} {w:World} {v:Value} {xs:List T} {g:Nat} (bP:aV B e sz f w v xs) (cw:v.ownBlock= some g) (hf:∀y,(f y).length= sz) {i j:Nat} {x y:T} {u:Value} (ay:xs[i]? =some x) (hy:f y= (f x).set j u) (bH:j < sz):
  aV B e sz f (w.setCell ⟨g,i * sz + j,none⟩ u) v (xs.set i y):=by
 have h:=Yh (j:=i * sz + j) (u:=u) bP cw
 rw [Ub hf xs i x y j u ay hy bH] at h
 unfold aV
 rw [List.length_set]
 exact h
def Du (k:Nat):ByteArray:=if _h:k= 0 then ⟨#[]⟩ else Du (k / 10) ++⟨#[48 + UInt8.ofNat (k % 10)]⟩
termination_by k
decreasing_by omega
def Bb (k:Nat):ByteArray:=⟨#[109]⟩ ++ Du k
theorem amU (k:Nat) (h0:0 < k) (h1:k≤1000000000) (w:World):Calls Tryz.prog 85 #[k] w fun e ag=>e= .returned (.string (Bb k))∧Below w w ag:=by
 go_in
 go_wp2
 go_loopw [0,3] (fun n s wr=>∃(j:Nat) (t:ByteArray),j≤k∧n= .int .i64 j∧s= .string t∧Du k= Du j ++ t∧t.size + j≤k∧Below w w wr) (fun n _ _=>(intOf n).toNat)
 case atStart=>exact⟨k,⟨#[]⟩,Nat.le_refl _,rfl,rfl,by rw [show (⟨#[]⟩ :ByteArray)= ByteArray.empty from rfl,ByteArray.append_empty],Nat.le_of_eq (Nat.zero_add k),Below.refl _ _⟩
 case round=>
  obtain⟨j,t,bH,rfl,rfl,hm,aX,aB⟩:=hrel
  have dR:=J hm;clear hm
  by_cases bl:0 < j
  ·have aE:Lib.Bytes (wr.alloc (.cells #[.int .u8 (48 + (j:Int) % 10)] 5)) wr.heap.size 0 ⟨#[UInt8.ofNat (48 + j % 10)]⟩:=by
    intro i hi
    obtain rfl:i= 0:=by simp [ByteArray.size] at hi;omega
    have hu:(UInt8.ofNat (48 + j % 10)).toNat= 48 + j % 10:=by simp;omega
    show _= some (Value.int .u8 ((UInt8.ofNat (48 + j % 10)).toNat:Int))
    rw [hu]
    have h:=(aq.new wr 5 #[.int .u8 (48 + (j:Int) % 10)]).cell 0
    refine h.trans ?_
    simp
   have ga:=Lib.run_convert_whole (P:=Tryz.prog) _ 35 5 9 Tryz.underlying35 Tryz.underlying5 Tryz.underlying9 wr.heap.size 0 ⟨#[UInt8.ofNat (48 + j % 10)]⟩ aE 1
   rw [show (⟨#[UInt8.ofNat (48 + j % 10)]⟩ :ByteArray).size= 1 from rfl] at ga
   clear aE
   go_wp2
   go_roundw
   case rel=>exact⟨j / 10,_,by omega,by go_num,rfl,by rw [dR.out,Du,dif_neg (by omega),ByteArray.append_assoc],by simp [ByteArray.size_append];show 1 + _ + _≤_;omega,aB.alloc aB.size _⟩
   case measure=>simp [intOf];omega
  ·obtain rfl:j= 0:=by omega
   go_wp2
   go_ret
   refine⟨?_,aB⟩
   show Ending.returned (Value.string (⟨#[109]⟩ ++ t))= _
   rw [Bb,dR.out,Du,dif_pos rfl,show ((⟨#[]⟩ :ByteArray) ++ t)= t from ByteArray.empty_append]
open Go.RowKit Go.G9
def hasB (xs:List Int) (n:Int):Bool:=xs.any (fun x=>x == n)
theorem aiz {xs:List Int} {n x:Int} {k:Nat} (ay:xs[k]? =some x) (h:x= n):hasB xs n= true:=by
 subst h;exact List.any_eq_true.2 ⟨x,List.mem_of_getElem? ay,by simp⟩
theorem aiy {xs:List Int} {n:Int} (h:hH (fun i=>!jm (fun x=>x == n) xs i) xs.length= true):hasB xs n= false:=by
 have:=JK (fun x=>x == n) xs
 rw [Pa h] at this
 exact this.symm
theorem abg {p:Prop} (h:p:=by
 go_wp2
 go_roundw
 case rel=>exact⟨k + 1,by omega,by go_num,nz cH.out (by simp [jm,cb.out,he]),aB⟩
 case measure=>simp [intOf];omega):p:=h
theorem zr (A:Option Addr) (c:Nat) (xs:List Int) (n:Int) (aY:xs.length≤1048576) (v:Bool) (aw:hasB xs n= v) (w:World) (bL:aH 1 bR w A xs):
 Calls Tryz.prog 265 #[.slice A xs c,n] w fun e ag=>e= .returned v∧Below w w ag:=by
 subst aw
 go_in
 go_wp2
 go_loopw [5] (fun i wr=>∃k:Nat,k≤xs.length∧i= .int .i64 k∧hH (fun i=>!jm (fun x=>x == n) xs i) k= true∧Below w w wr) (fun i _=>xs.length - (intOf i).toNat)
 case atStart=>exact⟨0,Nat.zero_le _,rfl,rfl,Below.refl _ _⟩
 case round=>
  obtain⟨k,az,rfl,aS,aB⟩:=hrel
  have cH:=J aS;clear aS
  by_cases bl:k < xs.length
  ·obtain⟨b,off,x,rfl,dU,ay,bk⟩:=bL.at_ aB bl
   have f0:=bk 0 _ rfl
   simp only [Nat.mul_one,Nat.add_zero] at f0
   have g0:=f0 (ax.self _)
   simp only [ax.self] at g0
   have cb:=J ay;clear ay bk
   by_cases he:x= n
   ·have uR:(x == n)= true:=beq_iff_eq.2 he
    have cX:=J he;clear he
    go_wp2
    go_ret
    exact⟨ek (aiz cb.out cX.out).symm,aB⟩
   ·have uR:(x == n)= false:=beq_eq_false_iff_ne.2 he
    exact abg
  ·obtain rfl:k= xs.length:=by omega
   go_wp2
   go_ret
   exact⟨ek (aiy cH.out).symm,aB⟩
theorem KW {p:Prop} (h:p:=by
 obtain rfl:k= xs.length:=by omega
 go_wp2
 go_ret
 exact⟨vp (Pa cH.out).symm,aB⟩):p:=h
theorem alK (A:Option Addr) (c:Nat) (xs:List Int) (n:Int) (aY:xs.length≤1048576) (v:Int) (aw:oS (fun x=>x == n) xs= v) (w:World) (bL:aH 1 bR w A xs):
 Calls Tryz.prog 270 #[.slice A xs c,n] w fun e ag=>e= .returned v∧Below w w ag:=by
 subst aw
 go_in
 go_wp2
 go_loopw [8] (fun i wr=>∃k:Nat,k≤xs.length∧i= .int .i64 k∧hH (fun i=>!jm (fun x=>x == n) xs i) k= true∧Below w w wr) (fun i _=>xs.length - (intOf i).toNat)
 case atStart=>exact⟨0,Nat.zero_le _,rfl,rfl,Below.refl _ _⟩
 case round=>
  obtain⟨k,az,rfl,aS,aB⟩:=hrel
  have cH:=J aS;clear aS
  by_cases bl:k < xs.length
  ·obtain⟨b,off,x,rfl,dU,ay,bk⟩:=bL.at_ aB bl
   have f0:=bk 0 _ rfl
   simp only [Nat.mul_one,Nat.add_zero] at f0
   have g0:=f0 (ax.self _)
   simp only [ax.self] at g0
   have cb:=J ay;clear ay bk
   by_cases he:x= n
   ·have uR:(n == x)= true:=beq_iff_eq.2 he.symm
    have cX:=J he;clear he
    go_wp2
    go_ret
    exact⟨vp (OZ bl cH.out (by simp [jm,cb.out,cX.out])).symm,aB⟩
   ·have uR:(n == x)= false:=beq_eq_false_iff_ne.2 (Ne.symm he)
    exact abg
  ·exact KW
theorem Am (A:Option Addr) (c:Nat) (xs:List Int) (n:Int) (aY:xs.length≤1048576) (v:Bool) (aw:hasB xs n= v) (w:World) (bL:aH 1 bR w A xs):
 Calls Tryz.prog 199 #[.slice A xs c,n] w fun e ag=>e= .returned v∧Below w w ag:=by
 subst aw
 have cw:=JK (fun x=>x == n) xs;have hO:=J cw;clear cw
 go_in
 go_wp2_with fail
 refine (alK A c xs n aY _ rfl _ bL).mono ?_
 rintro e ag ⟨rfl,aB⟩
 go_wp2
 go_ret
 exact⟨ek hO.out,aB⟩
open Go.RowKit Go.G9
theorem rN:(Tryz.prog.info? 3).map (fun i=>(i.zero,i.size,i.bytes))= some (some (.int .i64 0),1,8):=by kernel_rfl
theorem fZ (y:Int):(bR y).length= 1:=rfl
theorem pj (y:Int) (u:Value) (h:u ∈ bR y):u.oneCell'= true:=by simp [bR] at h;subst h;rfl
theorem aqO (A:Option Addr) (c:Nat) (xs:List Int) (aY:xs.length≤maxLen) (l:Int) (h00:0≤l) (h01:l≤1048576) (w:World):
 Calls Tryz.prog 216 #[.slice A xs c,l] w fun e ag=>∃r:Int,e= .returned r∧-1≤r∧r≤l∧(r < 0∨xs.length≤1048576)∧ag= w:=by
 unfold maxLen at aY
 go_in
 go_wp2
 all_goals go_ret
 all_goals exact⟨_,rfl,by omega,by omega,by omega,rfl⟩
theorem HW {p:Prop} (h:p:=by
 refine wpQuiet_nil ?_
 intro K
 go_wp2
 go_roundw
 case rel=>exact⟨k + 1,by omega,by go_num,ah aB K.below⟩
 case measure=>simp [intOf];omega):p:=h
theorem agB (A hc:Option Addr) (c cM:Nat) (xs:List Int) (aY:xs.length≤1048576) (w:World) (bL:aH 1 bR w A xs) (xx:aH 1 bR w hc xs):
 Calls Tryz.prog 223 #[.slice A xs c,.slice hc xs cM] w fun e ag=>e= .returned true∧Below w w ag:=by
 go_in
 go_wp2
 go_loopw [5] (fun i wr=>∃(k:Nat),k≤xs.length∧i= .int .i64 k∧Below w w wr) (fun i _=>xs.length - (intOf i).toNat)
 case atStart=>exact⟨0,Nat.zero_le _,rfl,Below.refl _ _⟩
 case round=>
  obtain⟨k,az,rfl,aB⟩:=hrel
  by_cases bl:k < xs.length
  ·obtain⟨b,off,x,rfl,dU,ay,bk⟩:=bL.at_ aB bl
   obtain⟨cL,rT,bF,rfl,_,lf,jL⟩:=xx.at_ aB bl
   obtain rfl:x= bF:=Option.some.inj (ay.symm.trans lf)
   have f0:=bk 0 _ rfl;have e0:=jL 0 _ rfl
   simp only [Nat.mul_one,Nat.add_zero] at f0 e0
   clear ay bk lf jL
   go_wp2
   refine ew (by kernel_rfl) (by kernel_rfl) ?_
   repeat (go_big_quiet_step ((fail)))
   exact HW
  ·go_wp2
   go_ret
   exact⟨rfl,aB⟩
theorem HX {p:Prop} (h:p:=by
 obtain rfl:k= xs.length:=by omega
 go_wp2
 go_ret
 exact⟨_,rfl,aV.filled bm (Nat.le_refl _) fb.out (by unfold maxLen;omega) ai.all,aB⟩):p:=h
theorem ard (A:Option Addr) (c:Nat) (xs:List Int) (aY:xs.length≤1048576) (w:World) (bL:aH 1 bR w A xs):
 Calls Tryz.prog 219 #[.slice A xs c] w fun e ag=>∃hc,e= .returned (.slice hc xs xs)∧aV w 3 1 bR ag (.slice hc xs xs) xs∧Below w w ag:=by
 obtain⟨i0,hi,dy,dC,dN⟩:=info_parts rN
 have lr:=HB (P:=Tryz.prog) 38 3 i0 _ Tryz.underlying38 hi dy .i64 .i64 xs.length xs.length (Nat.le_refl _) (by rw [dN];omega) (by omega)
 rw [dC] at lr
 go_in
 go_wp2
 go_loopw [4] (fun i wr=>∃(k:Nat) (cs:Array Value),k≤xs.length∧i= .int .i64 k∧aq wr w.heap.size 3 cs∧cs.size= xs.length * 1∧lh 1 bR xs k cs∧Below w w wr) (fun i _=>xs.length - (intOf i).toNat)
 case atStart=>exact⟨0,_,Nat.zero_le _,rfl,aq.new _ _ _,by simp [madeCells],lh.zero,bZ _ _⟩
 case round=>
  obtain⟨k,cs,az,rfl,bm,eZ,ai,aB⟩:=hrel
  have fb:=J eZ;clear eZ
  by_cases bl:k < xs.length
  ·obtain⟨b,off,x,rfl,dU,ay,bk⟩:=bL.at_ aB bl
   have f0:=bk 0 _ rfl
   simp only [Nat.mul_one,Nat.add_zero] at f0
   have g0:=f0 (ax.self _)
   simp only [ax.self] at g0
   clear bk;have cb:=J ay;clear ay
   obtain⟨v0,c0⟩:=bm.some_ k (by rw [fb.out];omega)
   have z0:=bm.frozen k
   go_wp2
   go_roundw
   case rel=>exact⟨k + 1,gQ cs (k * 1) (bR x),by omega,by go_num,by have h:=bm.gQ (k * 1) (bR x);rw [Nat.mul_one] at h ⊢;exact h,by rw [pV,fb.out],ai.put cb.out (by rw [fb.out];simp [bR];omega),aB.setCell (Nat.le_refl _) _⟩
   case measure=>simp [intOf];omega
  ·exact HX
theorem acL {p:Prop} (h:p:=by
 go_in
 go_wp2_with ((at_builtin;refine KP rfl _ _ 38 rfl w.heap.size 3 i0 _ 1 8 Tryz.underlying38 hi dy dC dN rfl (by decide) bR fZ pj _ ([]:List Int) rfl (aV.made w (Nat.le_refl _) _) A c xs rfl (bL.alloc _) aR (by unfold maxLen;simp;omega) (by simp;omega) (by simp) ?_;intro mf bd bP cw))
 go_ret
 obtain⟨hc,cM,rfl,_,_⟩:=bP.form fZ
 exact⟨hc,cM,rfl,bP,(bZ _ _).trans (Na cw (by simp) (fun k az=>Nat.le_of_eq (Option.some.inj az)))⟩):p:=h
theorem amg (A:Option Addr) (c:Nat) (xs:List Int) (aY:xs.length≤1048576) (aR:A= none→xs= []∧c= 0) (w:World) (bL:aH 1 bR w A xs):
 Calls Tryz.prog 242 #[.slice A xs c] w fun e ag=>∃hc cM,e= .returned (.slice hc xs cM)∧aV w 3 1 bR ag (.slice hc xs cM) xs∧Below w w ag:=by
 obtain⟨i0,hi,dy,dC,dN⟩:=info_parts rN
 exact acL
open Go.RowKit Go.G9
structure Sv where
 id:Int
 ZU:ByteArray
 given:Int
 days:Int
 ok:ZU.size≤maxLen
def Sv.cells (n:Sv):List Value:=[.int .i64 n.id,.string n.ZU,.int .i64 n.given,.int .i64 n.days]
end Go.Proofs.YtlaaemmmbodaaaaGreatDoor
namespace Go.G9
open Go.RowKit
def fE (m s:Int) (n:Nat):List Int:=(List.range n).map fun (i:Nat)=>m + s * (i:Int)
theorem HG (cs:Array Value) (i:Nat) (a:Value) (bs:List Value):gQ (gQ cs i [a]) (i + 1) bs= gQ cs i (a ::bs):=rfl
theorem tF (m s:Int) (n:Nat):(fE m s n).length= n:=by simp [fE]
theorem zv {m s:Int} {n k:Nat} (h:k < n):(fE m s n)[k]? =some (m + s * k):=by simp [fE,h]
section
variable {T uw:Type} {B:Nat} {e:TypeId} {sz:Nat} {f:T→List Value} {h:uw→List Value} {w ag:World} {v:Value} {xs:List T}
theorem aV.block (bP:aV B e sz f w v xs) (aY:0 < xs.length):∃g cap cur,v= .slice (some ⟨g,0,none⟩) xs.length cap∧B≤g∧aq w g e cur∧xs.length≤cap∧cap≤maxLen∧cur.size= cap * sz:=by
 rcases bP.2 with ⟨_,h0⟩ | ⟨g,cap,cur,aw,bm,dQ,nj,kq,iy,_⟩
 ·omega
 ·exact⟨g,cap,cur,aw,bm,dQ,nj,kq,iy⟩
theorem aV.empty {A:Option Addr} {n c:Nat} {m s:Int} (bP:aV B e sz f w (.slice A n c) ([]:List T)) {p:Int→List Value}:aV B e sz p w (.slice A 0 c) (fE m s 0):=by
 obtain⟨aS,bP⟩:=bP
 refine⟨by simp [fE],?_⟩
 rcases bP with ⟨aw,h0⟩ | ⟨g,cap,cur,aw,bm,dQ,nj,kq,iy,wm⟩
 ·injection aw with h1 h2 h3
  subst h1 h2 h3
  exact .inl ⟨rfl,by simp [fE]⟩
 ·injection aw with h1 h2 h3
  subst h1 h3
  simp at h2
  exact .inr ⟨g,c,cur,by simp [fE],bm,dQ,by simp [fE],kq,iy,by simp [fE]⟩
theorem aV.Dx {g cap:Nat} {cs:Array Value} (aB:aq w g e cs) (bm:B≤g) (aE:xs.length≤cap) (hm:cap≤maxLen) (eZ:cs.size= cap * sz) (ai:∀i x,xs[i]? =some x→∀j u,(f x)[j]? =some u→cs[i * sz + j]? =some u)
  (hf:∀y,(f y).length= sz:=by intro y;rfl):aV B e sz f w (.slice g xs cap) xs:=by
 refine⟨mq hf xs,.inr ⟨g,cap,cs,rfl,bm,aB,aE,hm,eZ,?_⟩⟩
 have hle:xs.length * sz≤cap * sz:=Nat.mul_le_mul_right sz aE
 apply List.ext_getElem?
 intro k
 rw [List.getElem?_take]
 by_cases az:k < (xs.flatMap f).length
 ·obtain⟨i,j,x,ay,bH,rfl⟩:=Jc hf xs k _ (List.getElem?_eq_getElem az)
  rw [mq hf] at az
  rw [if_pos az,List.getElem?_eq_getElem (l:=xs.flatMap f) (by rw [mq hf];exact az),← ai i x ay j _ bH];simp
 ·rw [mq hf] at az
  rw [if_neg az,List.getElem?_eq_none (by rw [mq hf];omega)]
end
end Go.G9
namespace Go.Proofs.YtlaaemmmbodaaaaGreatDoor
open Go.RowKit Go.G9
theorem Xw (z:Int) (h0:0 < z) (h1:z≤1000000000) (w:World):Calls Tryz.prog 85 #[z] w fun e ag=>e= .returned (.string (Bb z.toNat))∧Below w w ag:=by
 have h:=amU z.toNat (by omega) (by omega) w
 rw [show ((z.toNat:Nat):Int)= z from Int.toNat_of_nonneg (by omega)] at h
 exact h
end Go.Proofs.YtlaaemmmbodaaaaGreatDoor
namespace Go.G9
open Go.RowKit
def pU (p:Int→Bool) (S:List Int):Nat→Nat
 | 0=>0
 | j + 1=>match S[j]? with | some z=>if p z then pU p S j else j + 1 | none=>j + 1
def zp (p:Int→Bool) (S:List Int) (z:Int):List Int:=S.take (pU p S S.length) ++ z ::S.drop (pU p S S.length)
def ik (c:Int→Int→Int) (xs:List Int):Nat→List Int
 | 0=>[]
 | i + 1=>match xs[i]? with | some x=>zp (fun z=>decide (c x z < 0)) (ik c xs i) x | none=>ik c xs i
theorem Qc (p:Int→Bool) (S:List Int):∀j,pU p S j≤j
 | 0=>Nat.le_refl _
 | j + 1=>by
  have:=Qc p S j
  unfold pU
  split
  ·split <;> omega
  ·omega
theorem Zm {p:Int→Bool} {S:List Int} {j:Nat} {z:Int} (cc:S[j]? =some z) (aO:p z= true):pU p S (j + 1)= pU p S j:=by
 rw [pU,cc];simp [aO]
theorem Zk {p:Int→Bool} {S:List Int} {j:Nat} {z:Int} (cc:S[j]? =some z) (aO:p z= false):pU p S (j + 1)= j + 1:=by
 rw [pU,cc];simp [aO]
theorem alM (p:Int→Bool) (S:List Int) (z:Int):(zp p S z).length= S.length + 1:=by
 have:=Qc p S S.length
 simp [zp];omega
section
variable {c:Int→Int→Int} {xs:List Int}
theorem KC {k:Nat} {x:Int} (ay:xs[k]? =some x):ik c xs (k + 1)= zp (fun z=>decide (c x z < 0)) (ik c xs k) x:=by rw [ik,ay]
theorem wK:∀k,k≤xs.length→(ik c xs k).length= k
 | 0,_=>rfl
 | k + 1,h=>by
  have eM:=wK k (by omega)
  rw [KC (List.getElem?_eq_getElem (by omega:k < xs.length)),alM,eM]
theorem KD:∀k z,z ∈ ik c xs k→z ∈ xs
 | 0,z,cc=>by simp [ik] at cc
 | k + 1,z,cc=>by
  cases ay:xs[k]? with
  | none=>rw [ik,ay] at cc;exact KD k z cc
  | some x=>
   rw [KC ay] at cc
   simp only [zp,List.mem_append,List.mem_cons] at cc
   rcases cc with cc | rfl | cc
   ·exact KD k z (List.mem_of_mem_take cc)
   ·exact List.mem_of_getElem? ay
   ·exact KD k z (List.mem_of_mem_drop cc)
def pS (c:Int→Int→Int) (xs:List Int) (k:Nat) (x:Int) (j:Nat):List Int:=(ik c xs k).take j ++ x ::((ik c xs k).drop j ++ xs.drop (k + 1))
def vq (c:Int→Int→Int) (xs:List Int) (k:Nat):List Int:=ik c xs k ++ xs.drop k
theorem YT {k:Nat} {x:Int} (ay:xs[k]? =some x):vq c xs k= pS c xs k x k:=by
 obtain⟨h,he⟩:=List.getElem?_eq_some_iff.1 ay
 have aS:=wK (c:=c) (xs:=xs) k (by omega)
 unfold vq pS
 rw [List.drop_eq_getElem_cons h,he,List.take_of_length_le (by omega),List.drop_of_length_le (l:=ik c xs k) (by omega),List.nil_append]
theorem aoW {k j:Nat} {x:Int} (h:k < xs.length) (bH:j≤k):(pS c xs k x j)[j]? =some x:=by
 have aS:=wK (c:=c) (xs:=xs) k (by omega)
 unfold pS
 rw [List.getElem?_append_right (by simp;omega)]
 simp [aS,Nat.min_eq_left bH]
theorem aoX {k j:Nat} {x z:Int} (h:k < xs.length) (bH:j < k) (cc:(ik c xs k)[j]? =some z):(pS c xs k x (j + 1))[j]? =some z:=by
 have aS:=wK (c:=c) (xs:=xs) k (by omega)
 unfold pS
 rw [List.getElem?_append_left (by simp;omega),List.getElem?_take,if_pos (by omega)]
 exact cc
theorem aoY {k j:Nat} {x z:Int} (h:k < xs.length) (bH:j < k) (cc:(ik c xs k)[j]? =some z):
  pS c xs k x (j + 1)= (ik c xs k).take j ++ (z ::x ::((ik c xs k).drop (j + 1) ++ xs.drop (k + 1)))∧pS c xs k x j= (ik c xs k).take j ++ (x ::z ::((ik c xs k).drop (j + 1) ++ xs.drop (k + 1))):=by
 have aS:=wK (c:=c) (xs:=xs) k (by omega)
 have ie:j < (ik c xs k).length:=by omega
 have Wr:(ik c xs k)[j]= z:=by rw [List.getElem?_eq_getElem ie] at cc;exact Option.some.inj cc
 unfold pS
 refine⟨?_,?_⟩
 ·rw [List.take_succ_eq_append_getElem ie,Wr];simp
 ·rw [List.drop_eq_getElem_cons ie,Wr];simp
theorem aoZ {k j:Nat} {x z:Int} (h:k < xs.length) (bH:j < k) (cc:(ik c xs k)[j]? =some z):
  ((pS c xs k x (j + 1)).set (j + 1) z).set j x= pS c xs k x j:=by
 obtain⟨e1,e2⟩:=aoY (x:=x) h bH cc
 have aS:=wK (c:=c) (xs:=xs) k (by omega)
 have vc:((ik c xs k).take j).length= j:=by rw [List.length_take];omega
 rw [e1,e2]
 rw [List.set_append_right _ _ (by omega),vc,show j + 1 - j= 1 by omega,List.set_cons_succ,List.set_cons_zero,List.set_append_right _ _ (by omega),vc,Nat.sub_self,List.set_cons_zero]
theorem Qb {k j:Nat} {x:Int} (ay:xs[k]? =some x) (aX:pU (fun z=>decide (c x z < 0)) (ik c xs k) k= j):pS c xs k x j= vq c xs (k + 1):=by
 have h:=(List.getElem?_eq_some_iff.1 ay).1;have aS:=wK (c:=c) (xs:=xs) k (by omega)
 unfold pS vq
 rw [KC ay]
 simp only [zp,aS,aX]
 simp
theorem YU {k j:Nat} {x:Int} (h:k < xs.length) (bH:j≤k):(pS c xs k x j).length= xs.length:=by
 have aS:=wK (c:=c) (xs:=xs) k (by omega)
 simp [pS,aS];omega
theorem aoV:vq c xs 0= xs:=by simp [vq,ik]
theorem aoU:vq c xs 1= xs:=by
 cases xs with
 | nil=>rfl
 | cons x r=>
  have ay:(x ::r)[0]? =some x:=rfl
  conv=>rhs;rw [← aoV (c:=c) (xs:=x ::r)]
  rw [YT ay,Qb (j:=0) ay rfl]
theorem aoT {k:Nat} (h1:k≤xs.length∨k= 1) (h2:¬k < xs.length):vq c xs k= ik c xs xs.length:=by
 rcases h1 with h1 | h1
 ·obtain rfl:k= xs.length:=by omega
  rw [vq,List.drop_length,List.append_nil]
 ·subst h1
  by_cases h:xs.length= 1
  ·rw [vq,← h,List.drop_length,List.append_nil]
  ·have:xs= []:=List.length_eq_zero_iff.1 (by omega)
   subst this;rfl
end
end Go.G9
namespace Go.Proofs.YtlaaemmmbodaaaaGreatDoor
open Go.RowKit Go.G9
theorem Hq {B n c:Nat} {e:TypeId} {w:World} {g:Nat} {D:List Int} (bP:aV B e 1 bR w (.slice g n c) D) {j:Nat} {z:Int} (cc:D[j]? =some z):w.cell? ⟨g,j,none⟩ =some (.int .i64 z)∧w.frozen? ⟨g,j,none⟩ =false:=by
 have bH:j < D.length:=(List.getElem?_eq_some_iff.1 cc).1
 have aS:(D.flatMap bR).length= D.length:=by rw [mq fZ,Nat.mul_one]
 obtain⟨h1,h2⟩:=Yg (j:=j) bP rfl (by rw [aS];exact bH)
 refine⟨h1.trans ?_,h2⟩
 have h3:=CG fZ D j z cc 0 (.int .i64 z) rfl
 rw [Nat.mul_one,Nat.add_zero,List.getElem?_eq_getElem (by rw [aS];exact bH)] at h3
 exact h3
theorem Ye {B n c:Nat} {e:TypeId} {w:World} {g:Nat} {D:List Int} (bP:aV B e 1 bR w (.slice g n c) D) {j:Nat} (bH:j < D.length) (y:Int):aV B e 1 bR (w.setCell ⟨g,j,none⟩ (.int .i64 y)) (.slice g n c) (D.set j y):=by
 have h:=aV.aqm (u:= .int .i64 y) (i:=j) (j:=0) (x:=D[j]) (y:=y) bP rfl fZ (List.getElem?_eq_getElem bH) (by simp [bR]) (by decide)
 simpa using h
theorem alQ (c:Int→Int→Int) (xs:List Int) (aY:xs.length≤20) (B g cap:Nat) (eb:Nat) (w:World) (oh:B≤g) (oi:B≤w.heap.size)
  (bP:aV B 3 1 bR w (.slice g xs cap) xs) (hf:∀x z,x ∈ xs→z ∈ xs→∀W,w.grownBy W (some g)→Calls Tryz.prog 251 #[.int .i64 x,.int .i64 z,.pointer (some ⟨eb,0,none⟩)] W fun e ag=>e= .returned (.int .i64 (c x z))∧Below W W ag):
 Calls Tryz.prog 326 #[.slice g xs cap,(0:Int),xs.length,.func (.func 251) #[] #[.pointer (some ⟨eb,0,none⟩)]] w fun e ag=>
  e= .returned (.tuple #[])∧aV B 3 1 bR ag (.slice g xs cap) (ik c xs xs.length)∧w.grownBy ag (some g):=by
 have cB:=J hf;clear hf
 go_in
 go_wp2
 go_loopw [8,9] (fun i _ wr=>∃k:Nat,1≤k∧(k≤xs.length∨k= 1)∧i= .int .i64 k∧aV B 3 1 bR wr (.slice g xs cap) (vq c xs k)∧w.grownBy wr (some g)) (fun i _ _=>xs.length - (intOf i).toNat)
 case atStart=>exact⟨1,Nat.le_refl _,.inr rfl,rfl,by rw [aoU];exact bP,qP _ _⟩
 case round=>
  clear bP
  obtain⟨k,uV,az,rfl,gW,gw⟩:=hrel
  by_cases bl:k < xs.length
  ·obtain⟨x,ay⟩ :∃x,xs[k]? =some x:=⟨_,List.getElem?_eq_getElem bl⟩
   rw [YT ay] at gW
   have cb:=J ay;clear ay;have lB:=J gW;clear gW
   go_wp2
   go_loopw [9] (fun j ws=>∃q:Nat,q≤k∧j= .int .i64 q∧pU (fun z=>decide (c x z < 0)) (ik c xs k) k= pU (fun z=>decide (c x z < 0)) (ik c xs k) q∧aV B 3 1 bR ws (.slice g xs cap) (pS c xs k x q)∧w.grownBy ws (some g)) (fun j _=>(intOf j).toNat)
   case atStart=>exact⟨k,Nat.le_refl _,rfl,rfl,lB.out,gw⟩
   case round=>
    clear lB
    obtain⟨q,aZ,rfl,JA,pc,hL⟩:=hrel
    have hx:=J pc;have eA:=J JA;clear pc JA
    by_cases iA:q= 0
    ·subst iA
     go_wp2
     refine ew (by kernel_rfl) (by kernel_rfl) ?_
     repeat (go_big_quiet_step ((fail)))
     refine wpQuiet_nil ?_
     intro K
     go_wp2
     go_roundw
     case rel=>exact⟨k + 1,by omega,.inl (by omega),by go_num,by rw [← Qb cb.out eA.out];exact hx.out.later K.below,qg hL (lU K.below _)⟩
     case measure=>simp [intOf];omega
    ·obtain⟨fy,rfl⟩ :∃fy,q= fy + 1:=⟨q - 1,by omega⟩
     have tA:=wK (c:=c) (xs:=xs) k (by omega)
     obtain⟨z,cc⟩ :∃z,(ik c xs k)[fy]? =some z:=⟨_,List.getElem?_eq_getElem (by omega)⟩
     have Ws:z ∈ xs:=KD k z (List.mem_of_getElem? cc)
     obtain⟨v,aw⟩ :∃v,c x z= v:=⟨_,rfl⟩
     have jH:Hid (∀W,Below wr wr W→Calls Tryz.prog 251 #[.int .i64 x,.int .i64 z,.pointer (some ⟨eb,0,none⟩)] W fun e ag=>e= .returned (.int .i64 v)∧Below W W ag):=J fun W bI=>by
      rw [← aw]
      exact cB.out x z (List.mem_of_getElem? cb.out) Ws W (qg hL (lU bI _))
     have Jn:decide (c x z < 0)= decide (v < 0):=by rw [aw]
     have RI:=J Jn;have bf:=J cc;have oW:=J (aoW (c:=c) (xs:=xs) (x:=x) bl aZ);have RU:=J (aoX (x:=x) bl (show fy < k by omega) cc);clear Jn cc aw Ws tA
     have c1:=fun K:ax wr.heap.size wr=>(Hq (hx.out.later K.below) oW.out).1
     have c2:=fun K:ax wr.heap.size wr=>(Hq (hx.out.later K.below) RU.out).1
     by_cases Om:v < 0
     ·go_wp2
      refine ew (by kernel_rfl) (by kernel_rfl) ?_
      repeat (go_big_quiet_step ((go_at_call 251;exact ax.call _ (by first | exact Nat.le_refl _ | omega) (jH.out _ (ax.below _)))))
      refine wpQuiet_nil ?_
      intro K
      have nD:=hx.out.later K.below;have xC:=qg hL (lU K.below _);clear c1 c2
      generalize K.world= IH at *
      obtain⟨c1,f1⟩:=Hq nD oW.out
      obtain⟨c2,f2⟩:=Hq nD RU.out
      have ka:=J nD;clear nD
      go_wp2
      go_region
      have fj:aV B 3 1 bR (World.drew (World.setCell (World.setCell IH ⟨g,fy + 1,none⟩ (.int .i64 z)) ⟨g,fy,none⟩ (.int .i64 x))) (.slice g xs cap) (pS c xs k x fy):=by
       have h:=Ye (Ye ka.out (j:=fy + 1) (by rw [YU bl aZ];omega) z) (j:=fy) (by rw [List.length_set,YU bl aZ];omega) x
       rw [aoZ bl (by omega) bf.out] at h
       exact h.later (Below.refl _ _).drew
      have gx:=qg (lp (j:=fy) (lp (j:=fy + 1) xC (.int .i64 z)) (.int .i64 x)) (lU (Below.refl _ (World.setCell (World.setCell IH ⟨g,fy + 1,none⟩ (.int .i64 z)) ⟨g,fy,none⟩ (.int .i64 x))).drew (some g));clear c1 c2 f1 f2 ka
      generalize (World.drew (World.setCell (World.setCell IH ⟨g,fy + 1,none⟩ (.int .i64 z)) ⟨g,fy,none⟩ (.int .i64 x)))= nx at *
      go_wp2
      go_roundw
      case rel=>exact⟨fy,by omega,by go_num,eA.out.trans (Zm bf.out (by rw [RI.out];exact decide_eq_true Om)),fj,gx⟩
      case measure=>simp [intOf]
     ·go_wp2
      refine ew (by kernel_rfl) (by kernel_rfl) ?_
      repeat (go_big_quiet_step ((go_at_call 251;exact ax.call _ (by first | exact Nat.le_refl _ | omega) (jH.out _ (ax.below _)))))
      refine wpQuiet_nil ?_
      intro K
      have nD:=hx.out.later K.below;have xC:=qg hL (lU K.below _);clear c1 c2
      generalize K.world= IH at *
      go_wp2
      go_roundw
      case rel=>exact⟨k + 1,by omega,.inl (by omega),by go_num,by rw [← Qb cb.out (eA.out.trans (Zk bf.out (by rw [RI.out];exact decide_eq_false (by omega))))];exact nD,xC⟩
      case measure=>simp [intOf];omega
  ·go_wp2
   refine⟨rfl,Value.tuple #[],by simp [results,Tryz.results326,go_sem],rfl,?_,gw⟩
   rw [← aoT az bl];exact gW
theorem aqD (c:Int→Int→Int) (xs:List Int) (aY:xs.length≤20) (VS:xs.length < 20) (B g cap:Nat) (eb:Nat) (w:World) (oh:B≤g) (oi:B≤w.heap.size)
  (bP:aV B 3 1 bR w (.slice g xs cap) xs) (hf:∀x z,x ∈ xs→z ∈ xs→∀W,w.grownBy W (some g)→Calls Tryz.prog 251 #[.int .i64 x,.int .i64 z,.pointer (some ⟨eb,0,none⟩)] W fun e ag=>e= .returned (.int .i64 (c x z))∧Below W W ag):
 Calls Tryz.prog 301 #[.slice g xs cap,xs.length,.func (.func 251) #[] #[.pointer (some ⟨eb,0,none⟩)]] w fun e ag=>
  e= .returned (.tuple #[])∧aV B 3 1 bR ag (.slice g xs cap) (ik c xs xs.length)∧w.grownBy ag (some g):=by
 have hP:=J (alQ c xs aY B g cap eb w oh oi bP hf);clear bP hf
 go_in
 go_wp2
 go_loopw [7,8] (fun a b wr=>a= .int .i64 0∧b= .int .i64 20∧wr= w) (fun _ _ _=>0)
 case atStart=>exact⟨rfl,rfl,rfl⟩
 case round=>
  obtain⟨rfl,rfl,rfl⟩:=hrel
  go_wp2_with fail
  refine hP.out.mono ?_
  rintro e bd ⟨rfl,gW,gw⟩
  go_wp2
  go_loopw [6,7,8] (fun a _ _ wr=>a= .int .i64 20∧wr= bd) (fun _ _ _ _=>0)
  case atStart=>exact⟨rfl,rfl⟩
  case round=>
   obtain⟨rfl,rfl⟩:=hrel
   go_wp2
   exact⟨rfl,Value.tuple #[],by simp [results,Tryz.results301,go_sem],rfl,gW,gw⟩
theorem aqr (c:Int→Int→Int) (xs:List Int) (VS:xs.length < 20) (B g cap:Nat) (eb:Nat) (w:World) (oh:B≤g) (oi:B≤w.heap.size)
  (bP:aV B 3 1 bR w (.slice g xs cap) xs) (hf:∀x z,x ∈ xs→z ∈ xs→∀W,w.grownBy W (some g)→Calls Tryz.prog 251 #[.int .i64 x,.int .i64 z,.pointer (some ⟨eb,0,none⟩)] W fun e ag=>e= .returned (.int .i64 (c x z))∧Below W W ag):
 Calls Tryz.prog 250 #[.slice g xs cap,.func (.func 251) #[] #[.pointer (some ⟨eb,0,none⟩)]] w fun e ag=>
  e= .returned (.tuple #[])∧aV B 3 1 bR ag (.slice g xs cap) (ik c xs xs.length)∧w.grownBy ag (some g):=by
 have hP:=J (aqD c xs (by omega) VS B g cap eb w oh oi bP hf);clear bP hf
 go_in
 go_wp2_with fail
 refine hP.out.mono ?_
 rintro e bd ⟨rfl,gW,gw⟩
 go_wp2
 exact⟨rfl,Value.tuple #[],by simp [results,Tryz.results250,go_sem],rfl,gW,gw⟩
open Go.RowKit Go.G9
def tJ (q:Int):List Value:=[.int .i64 (q)]
theorem anN (q:Int):(tJ q).length= 1:=rfl
theorem HY {p:Prop} (h:p:=by
 have dq:=J fB;clear bP fB
 go_in
 go_wp2
 go_loopw [1,5] (fun pN i wr=>pN= .int .i64 m∧i= .int .i64 0∧wr= w) (fun _ _ _=>0)
 case atStart=>exact⟨rfl,rfl,rfl⟩
 case round=>
  obtain⟨rfl,rfl,rfl⟩:=hrel
  go_wp2
  go_ret
  exact⟨by simp,by simpa using dq.out,qP _ _⟩):p:=h
theorem ane (B:Nat) (A:Option Addr) (c:Nat) (xs:List Int) (aY:xs.length≤1048576) (m:Int) (h0:0 < m) (h1:m≤100000000) (w:World) (bP:aV B 3 1 bR w (.slice A xs c) xs):
 Calls Tryz.prog 226 #[.slice A xs c,m] w fun e ag=>e= .returned (.int .i64 (m + xs.length))∧aV B 3 1 tJ ag (.slice A xs c) (fE m 1 xs.length)∧w.grownBy ag (Value.slice A xs c).ownBlock:=by
 by_cases cc:xs.length= 0
 ·have lK:xs= []:=List.length_eq_zero_iff.1 cc
  subst lK
  clear cc;have fB:aV B 3 1 tJ w (.slice A 0 c) (fE m 1 0):=bP.empty
  exact HY
 obtain⟨g,cap,xg,xJ,bm,hK,nj,kq,iy⟩:=bP.block (by omega)
 injection xJ with xK _ xL
 subst xK xL
 have wX:=J iy;have wV:=J hK;clear iy hK bP cc
 go_in
 go_wp2
 go_loopw [1,5] (fun pN i wr=>∃(k:Nat) (q:Int) (cs:Array Value),k≤xs.length∧i= .int .i64 k∧pN= .int .i64 q∧q= m + 1 * k∧aq wr g 3 cs∧cs.size= c * 1∧lh 1 tJ (fE m 1 xs.length) k cs∧w.grownBy wr (some g)) (fun _ i _=>xs.length - (intOf i).toNat)
 case atStart=>exact⟨0,m,xg,Nat.zero_le _,rfl,rfl,by simp,wV.out,wX.out,lh.zero,qP _ _⟩
 case round=>
  obtain⟨k,q,cs,az,rfl,rfl,aZ,gU,eZ,ai,cw⟩:=hrel
  have au:0 < q:=by omega
  have ao:q≤200000000:=by omega
  have cV:=J aZ;have fb:=J eZ;have cB:=J ai;have hO:=J cw;clear aZ eZ ai cw
  by_cases bl:k < xs.length
  ·have dU:=gU.lt
   have ay:(fE m 1 xs.length)[k]? =some q:=by rw [zv bl,cV.out]
   have cb:=J ay;clear ay
   obtain⟨v0,c0⟩:=gU.some_ (k) (by have dQ:=fb.out;omega)
   have z0:=gU.frozen (k)
   go_wp2
   go_roundw
   case rel=>
    have jM:Go.G9.gQ cs (k) [.int .i64 (q)]= Go.G9.gQ cs (k) (tJ q):=by first | exact Go.G9.HG cs _ _ _ | rfl
    refine⟨k + 1,_,Go.G9.gQ cs (k) [.int .i64 (q)],by omega,by go_num,rfl,by have:=cV.out;omega,?_,?_,?_,(lp hO.out _)⟩
    ·exact aq.gQ (k) [.int .i64 (q)] gU
    ·rw [jM,pV,fb.out]
    ·rw [jM];have h:=cB.out.put cb.out (by rw [fb.out,anN];omega);rw [Nat.mul_one k] at h;exact h
   case measure=>simp [intOf];omega
  ·obtain rfl:k= xs.length:=by omega
   go_wp2
   go_ret
   refine⟨vp (by have:=cV.out;omega),?_,hO.out⟩
   have h:=aV.Dx (B:=B) (xs:=fE m 1 xs.length) gU bm (by rw [tF];exact nj) kq fb.out (fun i x ay=>cB.out i x (by have:=(List.getElem?_eq_some_iff.1 ay).1;rwa [tF] at this) ay)
   rw [tF] at h
   exact h
theorem abn {p:Prop} (h:p:=by
 go_wp2
 go_roundw
 case rel=>exact⟨k + 1,_,by omega,by go_num,rfl,by have:=cV.out;omega,aB⟩
 case measure=>simp [intOf];omega):p:=h
theorem abU {p:Prop} (h:p:=by
 obtain rfl:k= n:=by omega
 go_wp2
 go_ret
 exact⟨vp (by have:=cV.out;omega),aB⟩):p:=h
theorem aiR (A:Option Addr) (c n:Nat) (aY:n≤1048576) (m:Int) (h0:0 < m) (h1:m≤100000000) (w:World) (bL:aH 1 tJ w A (fE m 1 n)):
 Calls Tryz.prog 228 #[.slice A n c,m] w fun e ag=>e= .returned (.int .i64 (m + n))∧Below w w ag:=by
 go_in
 go_wp2
 go_loopw [1,5] (fun pN i wr=>∃(k:Nat) (q:Int),k≤n∧i= .int .i64 k∧pN= .int .i64 q∧q= m + 1 * k∧Below w w wr) (fun _ i _=>n - (intOf i).toNat)
 case atStart=>exact⟨0,m,Nat.zero_le _,rfl,rfl,by simp,Below.refl _ _⟩
 case round=>
  obtain⟨k,q,az,rfl,rfl,aZ,aB⟩:=hrel
  have au:0 < q:=by omega
  have ao:q≤200000000:=by omega
  have cV:=J aZ;clear aZ
  by_cases bl:k < n
  ·obtain⟨b,off,x,rfl,dU,ay,bk⟩:=bL.at_ aB (k:=k) (by rw [tF];exact bl)
   have GN:x= q:=by rw [zv bl] at ay;rw [cV.out];exact (Option.some.inj ay).symm
   subst GN
   have f0:=bk 0 _ rfl
   simp only [Nat.add_zero,Nat.mul_one] at f0
   clear ay bk;have g0:=f0 (ax.self _)
   simp only [ax.self] at g0
   exact abn
  ·exact abU
end Go.Proofs.YtlaaemmmbodaaaaGreatDoor
namespace Go.G9
open Go.RowKit
def vR (vs:List Value) (a b:Nat):Prop:=∀v ∈ vs,∀k,v.ownBlock= some k→a≤k∧k < b
structure oV (w ag:World) (vs:List Value):Prop where
 os:ag.os= w.os
 tape:ag.tape= w.tape
 output:ag.output= w.output
 size:w.heap.size≤ag.heap.size
 block:∀i,i < w.heap.size→(∀v ∈ vs,v.ownBlock≠some i)→ag.heap[i]? =w.heap[i]?
theorem FG {w ag:World} {v:Value} (h:w.grownBy ag v.ownBlock):oV w ag [v]:=
 ⟨h.os,h.tape,h.output,h.size,fun i hi aw=>h.block i hi (fun e=>aw v (List.mem_singleton.2 rfl) e.symm)⟩
theorem oV.trans {w bd aM:World} {vs us:List Value} (h:oV w bd vs) (k:oV bd aM us):oV w aM (vs ++ us):=
 ⟨k.os.trans h.os,k.tape.trans h.tape,k.output.trans h.output,Nat.le_trans h.size k.size,fun i hi aw=>(k.block i (Nat.lt_of_lt_of_le hi h.size) (fun v hm=>aw v (List.mem_append_right _ hm))).trans (h.block i hi (fun v hm=>aw v (List.mem_append_left _ hm)))⟩
theorem oV.Px {w ag:World} {vs:List Value} (h:Below w w ag):oV w ag vs:=⟨h.os,h.tape,h.output,h.size,fun i hi _=>h.block i hi⟩
theorem oV.below {w ag:World} {us:List Value} {B c d:Nat} (h:oV w ag us) (hu:vR us c d) (aE:B≤c) (bm:B≤w.heap.size):Below B w ag:=
 ⟨h.os,h.tape,h.output,h.size,fun i hi=>h.block i (Nat.lt_of_lt_of_le hi bm) (fun v aw e=>by have:=(hu v aw i e).1;omega)⟩
theorem aV.mv {T:Type} {B:Nat} {e:TypeId} {sz:Nat} {f:T→List Value} {w ag:World} {v:Value} {xs:List T} {us vs:List Value} {a b c d:Nat} (h:aV B e sz f w v xs) (cw:oV w ag us) (aw:vR vs a b) (hu:vR us c d) (hm:v ∈ vs) (bl:b≤c∨d≤a):
  aV B e sz f ag v xs:=by
 have aS:=h.lt
 refine⟨h.1,?_⟩
 rcases h.2 with aY | ⟨g,cap,cur,rfl,bm,dQ,r⟩
 ·exact .inl aY
 ·have gw:=aw _ hm g rfl
  exact .inr ⟨g,cap,cur,rfl,bm,by rw [cw.block g (aS g rfl).2 (fun u OS e=>by have:=hu u OS g e;omega)];exact dQ,r⟩
theorem aV.pJ {T:Type} {B:Nat} {e:TypeId} {sz:Nat} {f:T→List Value} {w ag:World} {v:Value} {xs:List T} {us:List Value} (h:aV B e sz f w v xs) (cw:oV w ag us) (eP:∀k,v.ownBlock= some k→∀u ∈ us,u.ownBlock≠some k):aV B e sz f ag v xs:=by
 have aS:=h.lt
 refine⟨h.1,?_⟩
 rcases h.2 with aY | ⟨g,cap,cur,rfl,bm,dQ,r⟩
 ·exact .inl aY
 ·exact .inr ⟨g,cap,cur,rfl,bm,by rw [cw.block g (aS g rfl).2 (eP g rfl)];exact dQ,r⟩
theorem aq.mv {w ag:World} {g:Nat} {t:TypeId} {cs:Array Value} {us:List Value} {c d:Nat} (h:aq w g t cs) (cw:oV w ag us) (hu:vR us c d) (bl:g < c∨d≤g):aq ag g t cs:=
 (cw.block g h.lt (fun u OS e=>by have:=hu u OS g e;omega)).trans h
def qy (vs:List Value):Prop:=vs.Pairwise fun u v=>∀k,u.ownBlock= some k→some k≠v.ownBlock
theorem qy.at {vs:List Value} (h:qy vs) {i j:Nat} (ze:i < j) {u v:Value} (hu:vs[i]? =some u) (aw:vs[j]? =some v):∀k,u.ownBlock= some k→some k≠v.ownBlock:=by
 obtain⟨hi,rfl⟩:=List.getElem?_eq_some_iff.1 hu
 obtain⟨bH,rfl⟩:=List.getElem?_eq_some_iff.1 aw
 exact (List.pairwise_iff_getElem.1 h) i j hi bH ze
theorem afs {u v:Value} (h:∀k,u.ownBlock= some k→some k≠v.ownBlock):qy [u,v]:=
 .cons (fun x ay=>by simp only [List.mem_singleton] at ay;subst ay;exact h) (.cons (fun _ h=>by cases h) .nil)
open Go.RowKit
theorem lA {P:Program} {w:World} {ops:Array Oper} {rest:List Oper} {o:Oper} {a:Act} {Q:Exit→Act→World→Prop} (nF:o.guard= none) (s x:Operand) (t:TypeId)
  (cY:o.op= .call {callee:= .builtin .append,args:=#[s,x],argTypes:=#[t,t]})
  (B:Nat) (e:TypeId) (i:TypeInfo) (z:Value) (sz bytes:Nat) (cE:P.underlying t= some (.slice e)) (hi:P.info? e= some i) (cc:i.zero= some z)
  (va:i.size= sz) (uN:i.bytes= bytes) (vi:z.cells.size= sz) (eZ:0 < sz) {T:Type} (f:T→List Value) (hf:∀y,(f y).length= sz) (ks:∀y u,u ∈ f y→u.oneCell'= true)
  (v:Value) (xs:List T) (aX:a.eval s= v) (GD:aV B e sz f w v xs) (jf:Addr) (c2:Nat) (y:T) (ay:a.eval x= .slice (some jf) 1 c2) (bL:aH sz f w (some jf) [y])
  (h63:xs.length + 1≤maxLen) (uO:(xs.length + 1) * bytes≤140737488355328) (Gf:B≤w.heap.size)
  (h:∀mf ag,aV B e sz f ag mf (xs ++ [y])→w.grownBy ag v.ownBlock→(mf.ownBlock= v.ownBlock∨mf.ownBlock= some w.heap.size)→wpList P ops Q rest (a.put o.dst mf) ag):wpList P ops Q (o ::rest) a w:=by
 refine wpList_append_own_at w nF s x t cY B e i z sz bytes cE hi cc va uN vi eZ v xs.length (xs.flatMap f) aX GD jf 1 c2 ([y].flatMap f) ay (by rw [mq hf];simp) (fun j u hu=>aH.flat bL hf j u hu)
  (fun u hu=>by obtain⟨nL,_,hy⟩:=List.mem_flatMap.1 hu;exact ks nL u hy) h63 uO Gf (fun mf ag h1 h2 _ h4=>h mf ag ?_ h2 h4)
 unfold aV;rw [List.length_append,List.flatMap_append];exact h1
theorem aV.built {T:Type} {B sz:Nat} {f:T→List Value} (w:World) (xs:List T) (e:TypeId) (bm:B≤w.heap.size) (hm:xs.length≤maxLen) (hf:∀y,(f y).length= sz):
  aV B e sz f (w.alloc (.cells (xs.flatMap f).toArray e)) (.slice w.heap.size xs xs) xs:=
 aV.Dx (aq.new w e _) bm (Nat.le_refl _) hm (by simp [mq hf]) (fun i x ay j u hu=>by simpa using CG hf xs i x ay j u hu) hf
def qE (u v:Value):Prop:=∀k,u.ownBlock= some k→v.ownBlock≠some k
theorem qE.symm {u v:Value} (h:qE u v):qE v u:=fun k h1 h2=>h k h2 h1
theorem qE.step {u mX v:Value} {H:Nat} (h:qE u v) (aw:∀k,v.ownBlock= some k→k < H) (cT:mX.ownBlock= u.ownBlock∨mX.ownBlock= some H):qE mX v:=fun k h1 h2=>by
 rcases cT with cT | cT
 ·exact h k (cT ▸ h1) h2
 ·rw [cT] at h1;have:=aw k h2;injection h1 with h1;omega
theorem aV.ne {T:Type} {B sz:Nat} {e:TypeId} {f:T→List Value} {w ag:World} {u v:Value} {xs:List T} (h:aV B e sz f w v xs) (cw:w.grownBy ag u.ownBlock) (aY:qE u v):aV B e sz f ag v xs:=
 h.kept cw (fun k h1 h2=>aY k h2.symm h1)
open Go.RowKit
theorem aq.setRow {w:World} {g:Nat} {t:TypeId} {cs uC:Array Value} (h:aq w g t cs):aq (w.setRow g uC) g t uC:=setRow_heap w g cs uC t (0,0) h
theorem FH {w:World} {g:Nat} {uC:Array Value}:w.grownBy (w.setRow g uC) (some g):=
 ⟨rfl,rfl,rfl,by simp,fun i _ eP=>by
  unfold World.setRow
  simp only [Array.getElem?_modify]
  rw [if_neg (fun e=>eP (by rw [e]))]⟩
theorem arM {P:Program} {w:World} {ops:Array Oper} {rest:List Oper} {o:Oper} {a:Act} {Q:Exit→Act→World→Prop} (nF:o.guard= none) (s x:Operand) (t:TypeId)
  (cY:o.op= .call {callee:= .builtin .append,args:=#[s,x],argTypes:=#[t,t]})
  (e:TypeId) (i:TypeInfo) (cE:P.underlying t= some (.slice e)) (hi:P.info? e= some i) (g n cap:Nat) (cur:Array Value) (aX:a.eval s= .slice g n cap) (cw:aq w g e cur)
  (jf:Addr) (m c:Nat) (news:List Value) (ay:a.eval x= .slice (some jf) m c) (aS:news.length= m * i.size) (ajC:∀j u,news[j]? =some u→w.cell? (jf.add j)= some u) (h1:∀u ∈ news,u.oneCell'= true)
  (OE:n + m≤cap) (xB:n * i.size + news.length≤cur.size)
  (h:∀(eE:World) (uC:List Value),uC= cur.toList.take (n * i.size) ++ news ++ cur.toList.drop (n * i.size + news.length)→aq eE g e uC.toArray→w.grownBy eE (some g)→wpList P ops Q rest (a.put o.dst (.slice g (n + m) cap)) eE):wpList P ops Q (o ::rest) a w:=by
 refine wpList_plain nF fun _ gj=>?_
 have bu:=run_append_room (P:=P) w t o.type e i cE hi g n cap cur cw jf m c news aS ajC h1 OE xB
 unfold Oper.wp execOp
 simp only [cY,resolve,invoke,builtin,Sem.run_bind,Sem.run_pure,Result.andThen_ok,List.map_toArray,List.map_cons,List.map_nil,aX,ay,bu]
 exact gj _ _ (h _ _ rfl cw.setRow FH)
theorem aV.whole {T:Type} {B sz:Nat} {f:T→List Value} {e:TypeId} {w:World} {v:Value} {xs:List T} (bP:aV B e sz f w v xs) (hf:∀y,(f y).length= sz) (aY:0 < xs.length):
  ∃g cap cs,v= .slice (some ⟨g,0,none⟩) xs.length cap∧B≤g∧aq w g e cs∧xs.length≤cap∧cap≤maxLen∧cs.size= cap * sz∧∀i x,xs[i]? =some x→∀j u,(f x)[j]? =some u→cs[i * sz + j]? =some u:=by
 rcases bP.2 with ⟨_,h0⟩ | ⟨g,cap,cur,aw,bm,dQ,nj,kq,iy,wm⟩
 ·omega
 ·refine⟨g,cap,cur,aw,bm,dQ,nj,kq,iy,fun i x ay j u hu=>?_⟩
  have h1:=CG hf xs i x ay j u hu
  rw [← wm,List.getElem?_take] at h1
  split at h1
  ·simpa using h1
  ·cases h1
theorem Ua {T:Type} {sz:Nat} {f:T→List Value} (hf:∀y,(f y).length= sz) (xs:List T) (k j:Nat) (u:Value) (h:((xs.drop k).flatMap f)[j]? =some u):(xs.flatMap f)[k * sz + j]? =some u:=by
 obtain⟨i,rO,x,ay,bH,rfl⟩:=Jc hf _ _ _ h
 rw [List.getElem?_drop] at ay
 have:=CG hf xs (k + i) x ay rO u bH
 rwa [Nat.add_mul,Nat.add_assoc] at this
open Go.RowKit
theorem aar {P:Program} {w:World} {ops:Array Oper} {rest:List Oper} {o:Oper} {a:Act} {Q:Exit→Act→World→Prop} (nF:o.guard= none) (s x:Operand) (t:TypeId)
  (cY:o.op= .call {callee:= .builtin .append,args:=#[s,x],argTypes:=#[t,t]})
  (B:Nat) (e:TypeId) (i:TypeInfo) (z:Value) (sz bytes:Nat) (cE:P.underlying t= some (.slice e)) (hi:P.info? e= some i) (cc:i.zero= some z)
  (va:i.size= sz) (uN:i.bytes= bytes) (vi:z.cells.size= sz) (eZ:0 < sz) {T:Type} (f:T→List Value) (hf:∀y,(f y).length= sz) (asn:∀y u,u ∈ f y→u.oneCell'= true)
  (g:Nat) (aX:a.eval s= .slice g 0 0) (cw:aq w g e #[]) (oh:B≤g) (jf:Addr) (c2:Nat) (ys:List T) (ay:a.eval x= .slice (some jf) ys c2) (bL:aH sz f w (some jf) ys)
  (h63:ys.length≤maxLen) (uO:ys.length * bytes≤140737488355328)
  (h:∀bo cM ag,aV B e sz f ag (.slice (some ⟨bo,0,none⟩) ys cM) ys→Below w w ag→(bo= g∨w.heap.size≤bo)→wpList P ops Q rest (a.put o.dst (.slice (some ⟨bo,0,none⟩) ys cM)) ag):wpList P ops Q (o ::rest) a w:=by
 rcases Nat.eq_zero_or_pos ys.length with h0 | h0
 ·have hy:ys= []:=List.length_eq_zero_iff.1 h0
  subst hy
  refine arM nF s x t cY e i cE hi g 0 0 #[] aX cw jf 0 c2 [] ay (by simp) (fun j u hu=>by simp at hu) (fun u hu=>by simp at hu) (by omega) (by simp) fun eE uC iy aB Gq=>?_
  have aiO:uC= []:=by rw [iy];simp
  subst aiO
  have eW:aq eE g e #[]:=aB
  refine h g 0 eE ?_ ⟨Gq.os,Gq.tape,Gq.output,Gq.size,fun k az=>?_⟩ (.inl rfl)
  ·exact aV.filled (xs:=[]) eW oh (by simp) (by unfold maxLen;simp) (by simp) hf
  ·by_cases VG:k= g
   ·subst VG;exact Eq.trans eW (Eq.symm cw)
   ·exact Gq.block k az (fun e=>VG (Option.some.inj e))
 ·subst va;subst uN
  have wh:=grownCap_ge w (0 + ys.length) 0 e;have kq:=grownCap_le_maxLen w (0 + ys.length) 0 e (by omega);have jE:=h63
  unfold maxLen at jE
  have bu:=run_append_grow (P:=P) w t o.type e i z cE hi cc ⟨g,0,none⟩ 0 0 [] (by simp) (by intro j v bH;simp at bH) jf ys.length c2 (ys.flatMap f) (mq hf ys) (fun j u hu=>aH.flat bL hf j u hu)
   (by omega) (by omega) (by rw [Nat.zero_add,nextslicecap_zero h0];omega)
  refine wpList_plain nF fun _ gj=>?_
  unfold Oper.wp execOp
  simp only [cY,resolve,invoke,builtin,Sem.run_bind,Sem.run_pure,Result.andThen_ok,List.map_toArray,List.map_cons,List.map_nil,aX,ay,bu]
  refine gj _ _ ?_
  rw [Nat.zero_add]
  rw [Nat.zero_add] at wh kq
  refine h w.heap.size _ _ ?_ ⟨rfl,rfl,rfl,by simp,fun k az=>(bZ w.drew _).block k az⟩ (.inr (Nat.le_refl _))
  refine⟨mq hf ys,.inr ⟨w.heap.size,_,_,rfl,Nat.le_trans oh (Nat.le_of_lt (Array.getElem?_eq_some_iff.1 cw).1),(aq.new w.drew _ _),wh,kq,?_,?_⟩⟩
  ·simp only [Array.size_append,List.size_toArray,size_zeroCells,vi,mq hf,List.length_nil,Nat.zero_add,← Nat.add_mul]
   congr 1
   omega
  ·simp [mq hf]
end Go.G9
namespace Go.Proofs.YtlaaemmmbodaaaaGreatDoor
open Go.RowKit Go.G9
structure SC where
 XL:ByteArray
 hA:Int
 yes:Int
 no:Int
 bx:Int
 ok:XL.size≤maxLen
def SC.cells (r:SC):List Value:=[.string r.XL,.int .i64 r.hA,.int .i64 r.yes,.int .i64 r.no,.int .i64 r.bx]
def tQ (y n a:Int):Bool:=fc y 0 1000 && (fc n 0 1000 && fc a 0 1000)
theorem abp {p:Prop} (h:p:=by
 subst aw
 go_in
 go_wp2_with (go_at_call 79;refine (jj _ _ _ _ rfl _).mono ?_;rintro e ag ⟨rfl,rfl⟩)
 go_ret
 exact⟨rfl,rfl⟩):p:=h
theorem afw (n:Int) (v:Bool) (aw:fc n 0 1000= v) (w:World):Calls Tryz.prog 328 #[n] w fun e ag=>e= .returned v∧ag= w:=by
 exact abp
theorem ame (n:Int) (v:Bool) (aw:fc n 0 1000= v) (w:World):Calls Tryz.prog 315 #[n] w fun e ag=>e= .returned v∧ag= w:=by
 subst aw
 go_in
 go_wp2_with (go_at_call 186;refine (jF _ _ _ _ rfl _).mono ?_;rintro e ag ⟨rfl,rfl⟩)
 go_ret
 exact⟨rfl,rfl⟩
theorem alV (n:Int) (v:Bool) (aw:fc n 1 3= v) (w:World):Calls Tryz.prog 282 #[n] w fun e ag=>e= .returned v∧ag= w:=by
 exact abp
theorem Pc (y n a:Int) (v:Bool) (aw:tQ y n a= v) (w:World):Calls Tryz.prog 304 #[.agg #[y,n,a]] w fun e ag=>e= .returned v∧Below w w ag:=by
 subst aw
 go_in
 go_wp2_with (go_at_call 328;refine (afw _ _ rfl _).mono ?_;rintro e ag ⟨rfl,rfl⟩)
 all_goals go_ret
 all_goals exact⟨by simp [tQ, *],bZ _ _⟩
theorem Pe (y n a:Int) (v:Bool) (aw:tQ y n a= v) (w:World):Calls Tryz.prog 287 #[.agg #[y,n,a]] w fun e ag=>e= .returned v∧Below w w ag:=by
 subst aw
 go_in
 go_wp2_with (go_at_call 315;refine (ame _ _ rfl _).mono ?_;rintro e ag ⟨rfl,rfl⟩)
 all_goals go_ret
 all_goals exact⟨by simp [tQ, *],bZ _ _⟩
open Go.RowKit Go.G9
structure Rw where
 id:Int
 day:Int
 hA:Int
 yes:List Int
 no:List Int
 done:Bool
open Go.RowKit Go.G9
theorem aq.MJ {w:World} {g:Nat} {t:TypeId} {cs:Array Value} (h:aq w g t cs) {p:Addr} (aO:g≠p.block) (u:Value):aq (w.setCell p u) g t cs:=(Below.heap_setCell w p u g aO).trans h
open Go.RowKit Go.G9
def pC (hA y n:Int):Bool:=if hA= 1 then decide (n < y) else if hA= 2 then decide (0 < y + n) && decide (2 * n≤y) else decide (0 < y) && decide (n= 0)
theorem acv {p:Prop} (h:p:=by
 subst aw
 by_cases c1:hA= 1
 ·subst c1
  go_in
  go_wp2
  go_ret
  exact⟨ek (by simp [pC]),rfl⟩
 by_cases c2:hA= 2
 ·subst c2
  by_cases c3:0 < y + n
  ·go_in
   go_wp2
   go_ret
   exact⟨ek (by rw [Bool.eq_iff_iff];simp [pC] <;> omega),rfl⟩
  ·go_in
   go_wp2
   go_ret
   exact⟨ek (by rw [Bool.eq_iff_iff];simp [pC] <;> omega),rfl⟩
 ·have d1:(hA == 1)= false:=beq_eq_false_iff_ne.2 c1
  have d2:(hA == 2)= false:=beq_eq_false_iff_ne.2 c2
  by_cases c3:0 < y
  ·go_in
   go_wp2
   go_ret
   exact⟨ek (by rw [Bool.eq_iff_iff];simp [pC,c1,c2] <;> omega),rfl⟩
  ·go_in
   go_wp2
   go_ret
   exact⟨ek (by rw [Bool.eq_iff_iff];simp [pC,c1,c2] <;> omega),rfl⟩):p:=h
theorem alU (hA y n:Int) (h0:-10000≤y) (h1:y≤10000) (h2:-10000≤n) (h3:n≤10000) (v:Bool) (aw:pC hA y n= v) (w:World):Calls Tryz.prog 305 #[hA,y,n] w fun e ag=>e= .returned v∧ag= w:=by
 exact acv
theorem amd (hA y n:Int) (h0:-10000≤y) (h1:y≤10000) (h2:-10000≤n) (h3:n≤10000) (v:Bool) (aw:pC hA y n= v) (w:World):Calls Tryz.prog 316 #[hA,y,n] w fun e ag=>e= .returned v∧ag= w:=by
 exact acv
def Rw.hB (d:Rw):Bool:=pC d.hA d.yes.length d.no.length
end Go.Proofs.YtlaaemmmbodaaaaGreatDoor
namespace Go.G9
open Go.RowKit Go.Sort Go.Proofs
theorem MV {T:Type} (enc:T→Value) (xs:List T):xs.flatMap (fun x=>[enc x])= xs.map enc:=by induction xs <;> simp_all
theorem anI {T:Type} [Inhabited T] {enc:T→Value} {B:Nat} {e:TypeId} {w:World} {g cap q k:Nat} {fU ys:List T} {os:Array Obj} (h:aV B e 1 (fun x=>[enc x]) w (.slice g fU cap) fU) (hy:ys.length= fU.length) (az:k≤fU.length):
  aV B e 1 (fun x=>[enc x]) (grow (putRow enc (Sort.ahead w q) g 0 ys.toArray) os) (.slice g k cap) (ys.take k)∧w.grownBy (grow (putRow enc (Sort.ahead w q) g 0 ys.toArray) os) (some g):=by
 have cw:w.grownBy (grow (putRow enc (Sort.ahead w q) g 0 ys.toArray) os) (some g):=by
  refine⟨rfl,rfl,rfl,by simp,fun k az eP=>?_⟩
  rw [heap_grow_old _ _ (by simpa using az)]
  have:g≠k:=fun e=>eP (by rw [e])
  simp [putRow,mapBlock,Sort.ahead,Array.getElem?_modify,this]
 have h1:w.ownsRow B e 1 (.slice g fU cap) fU.length (fU.map enc):=by rw [← MV];exact h
 have h2:=Lib.ownsRow_putRow (q:=q) h1 hy az
 refine⟨?_,cw⟩
 unfold aV
 rw [MV,List.length_take,Nat.min_eq_left (by omega)]
 obtain⟨aS,aE⟩:=h2
 refine⟨aS,?_⟩
 rcases aE with ⟨e0,_⟩ | ⟨bo,Mt,cur,e0,bm,dQ,r⟩
 ·cases e0
 ·refine .inr ⟨bo,Mt,cur,e0,bm,?_,r⟩
  rw [heap_grow_old _ _ (Array.getElem?_eq_some_iff.1 dQ).1];exact dQ
theorem anH {T:Type} [Inhabited T] {enc:T→Value} {B:Nat} {e:TypeId} {w:World} {g cap:Nat} {fU:List T} (h:aV B e 1 (fun x=>[enc x]) w (.slice g fU cap) fU):
  Holds enc w g 0 fU.toArray∧g < w.heap.size∧fU.length≤cap∧cap≤maxLen:=by
 have h1:w.ownsRow B e 1 (.slice g fU cap) fU.length (fU.map enc):=by rw [← MV];exact h
 obtain⟨bo,Mt,e1,h2,h3,h4,h5,h6,h7⟩:=Lib.holds_of_ownsRow h1 (by intro e;cases e)
 injection e1 with e2 _ e4
 injection e2 with e2
 injection e2 with e2
 subst e2;subst e4
 exact⟨h7,h3,h4,h5⟩
end Go.G9
namespace Go.Proofs.YtlaaemmmbodaaaaGreatDoor
open Go.RowKit Go.G9 Go.Sort
open Go.RowKit Go.G9
structure aJ where
 id:Int
 name:ByteArray
 gG:Int
 second:Bool
 lV:Bool
 mH:Bool
 hA:Int
 ok:name.size≤maxLen
def aJ.cells (r:aJ):List Value:=[.int .i64 r.id,.string r.name,.int .i64 r.gG,.bool r.second,.bool r.lV,.bool r.mH,.int .i64 r.hA]
structure aL where
 fW:Int
 mover:Int
 sec:Bool
def aL.cells (q:aL):List Value:=[.int .i64 q.fW,.int .i64 q.mover,.bool q.sec]
structure aI where
 mem:Int
 cZ:Int
 cQ:Int
def aI.cells (s:aI):List Value:=[.int .i64 s.mem,.int .i64 s.cZ,.int .i64 s.cQ]
structure Out where
 fW:Int
 mover:Int
 hB:Bool
def Out.cells (o:Out):List Value:=[.int .i64 o.fW,.int .i64 o.mover,.bool o.hB]
def rZ (r:aJ):Bool:=fc r.id 1 20 && (wO r.name && (fc r.gG 0 9 && fc r.hA 1 3))
def sa (xs:List aJ):Nat→Bool
 | 0=>match xs[0]? with | some x=>rZ x | none=>true
 | j + 1=>match xs[j]?,xs[j+1]? with | some y,some x=>rZ x && (decide (y.id < x.id) && !(xs.take (j + 1)).any (fun z=>z.name.toList == x.name.toList)) | _,_=>true
def kx (xs:List aJ):Bool:=hH (sa xs) xs.length && decide (xs.length≤8)
theorem JN (r:aJ) (v:Bool) (aw:rZ r= v) (w:World):Calls Tryz.prog 212 #[.agg #[r.id,r.name,r.gG,r.second,r.lV,r.mH,r.hA]] w fun e ag=>e= .returned v∧Below w w ag:=by
 subst aw
 obtain⟨id,nm,rk,s,d,a,ef,aX⟩:=r
 go_in
 go_wp2_with (first | (go_at_call 79;refine (jj _ _ _ _ rfl _).mono ?_;rintro e ag ⟨rfl,rfl⟩) | (go_at_call 281;refine (alW _ aX _ rfl _).mono ?_;rintro e ag ⟨rfl,rfl⟩) | (go_at_call 282;refine (alV _ _ rfl _).mono ?_;rintro e ag ⟨rfl,rfl⟩))
 all_goals go_ret
 all_goals exact⟨by simp [rZ, *],bZ _ _⟩
theorem JR (r:aJ) (v:Bool) (aw:rZ r= v) (w:World):Calls Tryz.prog 215 #[.agg #[r.id,r.name,r.gG,r.second,r.lV,r.mH,r.hA]] w fun e ag=>e= .returned v∧Below w w ag:=by
 subst aw
 obtain⟨id,nm,rk,s,d,a,ef,aX⟩:=r
 go_in
 go_wp2_with (first | (go_at_call 186;refine (jF _ _ _ _ rfl _).mono ?_;rintro e ag ⟨rfl,rfl⟩) | (go_at_call 283;refine (amv _ aX _ rfl _).mono ?_;rintro e ag ⟨rfl,rfl⟩))
 all_goals go_ret
 all_goals exact⟨by simp [rZ, *],bZ _ _⟩
theorem QT {p:Prop} (h:p:=by
 go_wp2
 go_roundw
 case rel=>exact⟨k + 1,by omega,by go_num,nz cH.out (by simp [jm,cb.out,aO]),ah aB eW⟩
 case measure=>simp [intOf];omega):p:=h
theorem QX {p:Prop} (h:p:=by
 go_wp2
 go_ret
 exact⟨vp (OZ bl cH.out (by simp [jm,cb.out,aO])).symm,ah aB eW⟩):p:=h
theorem JM (A:Option Addr) (c:Nat) (xs:List aJ) (aY:xs.length≤1048576) (f:FuncId) (qf:Array Value) (CT:∀args W,(callFunc f args).run Tryz.prog W= .ok (.enter f args) W) (p:aJ→Bool) (v:Int) (aw:oS p xs= v) (w:World) (bL:aH 7 aJ.cells w A xs)
  (hf:∀x,x ∈ xs→∀W,Below w w W→Calls Tryz.prog f (#[.agg #[.int .i64 x.id,.string x.name,.int .i64 x.gG,.bool x.second,.bool x.lV,.bool x.mH,.int .i64 x.hA]] ++ qf) W fun e ag=>e= .returned (.bool (p x))∧Below W W ag):
 Calls Tryz.prog 203 #[.slice A xs c,.func (.func f) #[] qf] w fun e ag=>e= .returned v∧Below w w ag:=by
 subst aw
 have cB:=J hf;clear hf
 go_in
 go_wp2
 go_loopw [8] (fun i wr=>∃k:Nat,k≤xs.length∧i= .int .i64 k∧hH (fun i=>!jm p xs i) k= true∧Below w w wr) (fun i _=>xs.length - (intOf i).toNat)
 case atStart=>exact⟨0,Nat.zero_le _,rfl,rfl,Below.refl _ _⟩
 case round=>
  obtain⟨k,az,rfl,aS,aB⟩:=hrel
  have cH:=J aS;clear aS
  by_cases bl:k < xs.length
  ·obtain⟨b,off,x,rfl,dU,ay,bk⟩:=bL.at_ aB bl
   have Ej:=J (cB.out x (List.mem_of_getElem? ay))
   obtain⟨aoJ,aoM,aoO,aoP,aoy,aob,aoL,rhs⟩:=x
   have f0:=bk 0 _ rfl;have f1:=bk 1 _ rfl;have f2:=bk 2 _ rfl;have f3:=bk 3 _ rfl;have f4:=bk 4 _ rfl;have f5:=bk 5 _ rfl;have f6:=bk 6 _ rfl
   simp only [Nat.add_zero] at f0
   have g0:=f0 (ax.self _);have g1:=f1 (ax.self _);have g2:=f2 (ax.self _);have g3:=f3 (ax.self _);have g4:=f4 (ax.self _);have g5:=f5 (ax.self _);have g6:=f6 (ax.self _)
   simp only [ax.self] at g0
   simp only [ax.self] at g1
   simp only [ax.self] at g2
   simp only [ax.self] at g3
   simp only [ax.self] at g4
   simp only [ax.self] at g5
   simp only [ax.self] at g6
   have cb:=J ay;clear ay bk
   go_wp2_with fail
   refine (Ej.out _ aB).mono ?_
   rintro e ag ⟨rfl,eW⟩
   cases aO:p ⟨aoJ,aoM,aoO,aoP,aoy,aob,aoL,rhs⟩
   ·exact QT
   ·exact QX
  ·exact KW
theorem aga (A:Option Addr) (c:Nat) (xs:List aJ) (aY:xs.length≤1048576) (f:FuncId) (qf:Array Value) (CT:∀args W,(callFunc f args).run Tryz.prog W= .ok (.enter f args) W) (p:aJ→Bool) (v:Bool) (aw:xs.any p= v) (w:World) (bL:aH 7 aJ.cells w A xs)
  (hf:∀x,x ∈ xs→∀W,Below w w W→Calls Tryz.prog f (#[.agg #[.int .i64 x.id,.string x.name,.int .i64 x.gG,.bool x.second,.bool x.lV,.bool x.mH,.int .i64 x.hA]] ++ qf) W fun e ag=>e= .returned (.bool (p x))∧Below W W ag):
 Calls Tryz.prog 213 #[.slice A xs c,.func (.func f) #[] qf] w fun e ag=>e= .returned v∧Below w w ag:=by
 subst aw
 have cB:=J hf;clear hf;have cw:=JK p xs;have hO:=J cw;clear cw
 go_in
 go_wp2_with fail
 refine (JM A c xs aY f qf CT p _ rfl _ bL cB.out).mono ?_
 rintro e ag ⟨rfl,aB⟩
 go_wp2
 go_ret
 exact⟨ek hO.out,aB⟩
theorem aoR (id:Int) (g:Nat) (x:aJ) (W:World) (cw:W.cell? ⟨g,0,none⟩ =some (.int .i64 id)) (aS:g < W.heap.size):
 Calls Tryz.prog 204 (#[.agg #[x.id,x.name,x.gG,x.second,x.lV,x.mH,x.hA]] ++ #[.pointer (some ⟨g,0,none⟩)]) W fun e ag=>e= .returned (.bool (x.id == id))∧Below W W ag:=by
 cases aB:x.id == id
 all_goals
  go_in
  go_wp2
  go_ret
  exact⟨rfl,bZ _ _⟩
theorem DI (A:Option Addr) (c:Nat) (xs:List aJ) (aY:xs.length≤1048576) (id:Int) (v:Int) (aw:oS (fun r=>r.id == id) xs= v) (w:World) (bL:aH 7 aJ.cells w A xs):
 Calls Tryz.prog 122 #[.slice A xs c,id] w fun e ag=>e= .returned v∧Below w w ag:=by
 have hf:∀x,x ∈ xs→∀W,Below (w.alloc (.cells #[id] 3)).heap.size (w.alloc (.cells #[id] 3)) W→Calls Tryz.prog 204 (#[.agg #[.int .i64 x.id,.string x.name,.int .i64 x.gG,.bool x.second,.bool x.lV,.bool x.mH,.int .i64 x.hA]] ++ #[.pointer (some ⟨w.heap.size,0,none⟩)]) W fun e ag=>e= .returned (.bool (x.id == id))∧Below W W ag:=fun x _ W bI=>by
  have bm:=aq.below (aq.new w 3 #[id]) bI (by simp)
  exact aoR id w.heap.size x W (bm.cell 0) bm.lt
 have CY:=JM A c xs aY 204 #[.pointer (some ⟨w.heap.size,0,none⟩)] (Bt Tryz.func204 (by kernel_rfl) (by kernel_rfl)) (fun r=>r.id == id) v aw (w.alloc (.cells #[id] 3)) (bL.below (bZ _ _)) hf;have hP:=J CY;clear CY hf aw
 go_in
 go_wp2_with fail
 refine hP.out.mono ?_
 rintro e bd ⟨rfl,aB⟩
 go_wp2
 go_ret
 exact⟨rfl,ah (bZ _ _) aB⟩
theorem vj (A:Option Addr) (c:Nat) (xs:List aJ) (aY:xs.length≤1048576) (id:Int) (v:Int) (aw:oS (fun r=>r.id == id) xs= v) (w:World) (bL:aH 7 aJ.cells w A xs):
 Calls Tryz.prog 72 #[.slice A xs c,id] w fun e ag=>e= .returned v∧ag= w:=by
 subst aw
 go_in
 go_wp2
 go_loop [5] (fun i=>∃k:Nat,k≤xs.length∧i= .int .i64 k∧hH (fun i=>!jm (fun r:aJ=>r.id == id) xs i) k= true) (fun i=>xs.length - (intOf i).toNat)
 case atStart=>exact⟨0,Nat.zero_le _,rfl,rfl⟩
 case round=>
  obtain⟨k,az,rfl,aS⟩:=hrel
  have cH:=J aS;clear aS
  by_cases bl:k < xs.length
  ·obtain⟨b,off,x,rfl,dU,ay,bk⟩:=bL.at_ (Below.refl _ _) bl
   obtain⟨HS,nm,rk,s,d,a,ef,aX⟩:=x
   have g0:=bk 0 _ rfl (ax.self _)
   simp only [Nat.add_zero,ax.self] at g0
   have cb:=J ay;clear ay bk
   by_cases he:HS= id
   ·have uR:(HS == id)= true:=beq_iff_eq.2 he
    have cX:=J uR
    go_wp2
    go_ret
    exact⟨vp (OZ bl cH.out (by simp [jm,cb.out,cX.out])).symm,rfl⟩
   ·have uR:(HS == id)= false:=beq_eq_false_iff_ne.2 he
    go_wp2
    go_round
    case rel=>exact⟨k + 1,by omega,by go_num,nz cH.out (by simp [jm,cb.out,uR])⟩
    case measure=>simp [intOf];omega
  ·obtain rfl:k= xs.length:=by omega
   go_wp2
   go_ret
   exact⟨vp (Pa cH.out).symm,rfl⟩
open Go.RowKit Go.G9
theorem aqV (id:Int) (nm:ByteArray) (rk:Int) (s d a:Bool) (ef l:Int) (aX:nm.size≤maxLen) (h0:0≤l) (h1:l≤1048576) (w:World):
 Calls Tryz.prog 43 #[.agg #[id,nm,rk,s,d,a,ef],l] w fun e ag=>∃r:Int,e= .returned r∧(-1≤r∧r≤l)∧Below w w ag:=by
 unfold maxLen at aX
 go_in
 go_wp2
 all_goals go_ret
 all_goals exact⟨_,rfl,by constructor <;> omega,bZ _ _⟩
theorem agK (id:Int) (nm:ByteArray) (rk:Int) (s d a:Bool) (ef:Int) (w:World):
 Calls Tryz.prog 47 #[.agg #[id,nm,rk,s,d,a,ef],.agg #[id,nm,rk,s,d,a,ef]] w fun e ag=>e= .returned true∧Below w w ag:=by
 go_in
 go_wp2
 go_ret
 exact⟨rfl,xf _ _ _⟩
theorem arp (id:Int) (nm:ByteArray) (rk:Int) (s d a:Bool) (ef:Int) (w:World):
 Calls Tryz.prog 46 #[.agg #[id,nm,rk,s,d,a,ef]] w fun e ag=>e= .returned (.agg #[id,nm,rk,s,d,a,ef])∧Below w w ag:=by
 go_in
 go_wp2
 exact bodyPost_ret (v:= .agg #[id,nm,rk,s,d,a,ef]) (by simp [results,Tryz.results46,go_sem]) rfl ⟨rfl,av⟩
theorem Pb:(Tryz.prog.info? 89).map (fun i=>(i.zero,i.size,i.bytes))= some (some (.agg #[(0:Int),.string ⟨#[]⟩,(0:Int),false,false,false,(0:Int)]),7,48):=by kernel_rfl
theorem aqU (A:Option Addr) (c:Nat) (xs:List aJ) (aY:xs.length≤maxLen) (l:Int) (h00:0≤l) (h01:l≤1048576) (w:World) (bL:aH 7 aJ.cells w A xs):
 Calls Tryz.prog 9 #[.slice A xs c,l] w fun e ag=>∃r:Int,e= .returned r∧-1≤r∧r≤l∧(r < 0∨xs.length≤1048576)∧Below w w ag:=by
 unfold maxLen at aY
 by_cases aS:(xs.length:Int)≤l
 ·have zf:¬(l - (xs.length:Int)) < 0:=by omega
  go_in
  go_wp2
  go_loopw [1,5] (fun amT i wr=>∃(k:Nat) (r:Int),k≤xs.length∧i= .int .i64 k∧amT= .int .i64 r∧0≤r∧r≤l∧Below w w wr) (fun _ i _=>xs.length - (intOf i).toNat)
  case atStart=>exact⟨0,_,Nat.zero_le _,rfl,rfl,by omega,by omega,Below.refl _ _⟩
  case round=>
   obtain⟨k,r,az,rfl,rfl,h0,h1,aB⟩:=hrel
   by_cases bl:k < xs.length
   ·obtain⟨b,off,x,rfl,dU,ay,bk⟩:=bL.at_ aB bl
    obtain⟨id,nm,rk,s,d,a,ef,aX⟩:=x
    have f0:=bk 0 _ rfl;have f1:=bk 1 _ rfl;have f2:=bk 2 _ rfl;have f3:=bk 3 _ rfl;have f4:=bk 4 _ rfl;have f5:=bk 5 _ rfl;have f6:=bk 6 _ rfl
    simp only [Nat.add_zero] at f0
    have g0:=f0 (ax.self _);have g1:=f1 (ax.self _);have g2:=f2 (ax.self _);have g3:=f3 (ax.self _);have g4:=f4 (ax.self _);have g5:=f5 (ax.self _);have g6:=f6 (ax.self _)
    simp only [ax.self] at g0
    simp only [ax.self] at g1
    simp only [ax.self] at g2
    simp only [ax.self] at g3
    simp only [ax.self] at g4
    simp only [ax.self] at g5
    simp only [ax.self] at g6
    clear ay bk
    go_wp2_with fail
    refine (aqV _ _ _ _ _ _ _ _ aX h0 (by omega) _).mono ?_
    rintro e ag ⟨fT,rfl,⟨h2,h3⟩,eW⟩
    by_cases h4:fT < 0
    ·go_wp2
     go_ret
     exact⟨_,rfl,by omega,by omega,.inl (by omega),ah aB eW⟩
    ·go_wp2
     go_roundw
     case rel=>exact⟨k + 1,fT,by omega,by go_num,rfl,by omega,by omega,ah aB eW⟩
     case measure=>simp [intOf];omega
   ·go_wp2
    go_ret
    exact⟨_,rfl,by omega,by omega,.inr (by omega),aB⟩
 ·have zf:(l - (xs.length:Int)) < 0:=by omega
  go_in
  go_wp2
  go_ret
  exact⟨_,rfl,by omega,by omega,.inl (by omega),Below.refl _ _⟩
theorem agJ (A hc:Option Addr) (c cM:Nat) (xs:List aJ) (aY:xs.length≤1048576) (w:World) (bL:aH 7 aJ.cells w A xs) (xx:aH 7 aJ.cells w hc xs):
 Calls Tryz.prog 15 #[.slice A xs c,.slice hc xs cM] w fun e ag=>e= .returned true∧Below w w ag:=by
 go_in
 go_wp2
 go_loopw [5] (fun i wr=>∃(k:Nat),k≤xs.length∧i= .int .i64 k∧Below w w wr) (fun i _=>xs.length - (intOf i).toNat)
 case atStart=>exact⟨0,Nat.zero_le _,rfl,Below.refl _ _⟩
 case round=>
  obtain⟨k,az,rfl,aB⟩:=hrel
  by_cases bl:k < xs.length
  ·obtain⟨b,off,x,rfl,dU,ay,bk⟩:=bL.at_ aB bl
   obtain⟨cL,rT,bF,rfl,_,lf,jL⟩:=xx.at_ aB bl
   obtain rfl:x= bF:=Option.some.inj (ay.symm.trans lf)
   obtain⟨id,nm,rk,s,d,a,ef,aX⟩:=x
   have f0:=bk 0 _ rfl;have f1:=bk 1 _ rfl;have f2:=bk 2 _ rfl;have f3:=bk 3 _ rfl;have f4:=bk 4 _ rfl;have f5:=bk 5 _ rfl;have f6:=bk 6 _ rfl
   simp only [Nat.add_zero] at f0
   have e0:=jL 0 _ rfl;have e1:=jL 1 _ rfl;have e2:=jL 2 _ rfl;have e3:=jL 3 _ rfl;have e4:=jL 4 _ rfl;have e5:=jL 5 _ rfl;have e6:=jL 6 _ rfl
   simp only [Nat.add_zero] at e0
   clear ay bk lf jL
   go_wp2
   refine ew (by kernel_rfl) (by kernel_rfl) ?_
   repeat (go_big_quiet_step (((go_at_call 47;exact ax.call _ (Nat.le_refl _) (agK _ _ _ _ _ _ _ _)))))
   exact HW
  ·go_wp2
   go_ret
   exact⟨rfl,aB⟩
theorem aro (A:Option Addr) (c:Nat) (xs:List aJ) (aY:xs.length≤1048576) (w:World) (bL:aH 7 aJ.cells w A xs):
 Calls Tryz.prog 12 #[.slice A xs c] w fun e ag=>∃hc,e= .returned (.slice hc xs xs)∧aV w 89 7 aJ.cells ag (.slice hc xs xs) xs∧Below w w ag:=by
 obtain⟨i0,hi,dy,dC,dN⟩:=info_parts Pb
 have lr:=HB (P:=Tryz.prog) 29 89 i0 _ Tryz.underlying29 hi dy .i64 .i64 xs.length xs.length (Nat.le_refl _) (by rw [dN];omega) (by omega)
 rw [dC] at lr
 go_in
 go_wp2
 go_loopw [4] (fun i wr=>∃(k:Nat) (cs:Array Value),k≤xs.length∧i= .int .i64 k∧aq wr w.heap.size 89 cs∧cs.size= xs.length * 7∧lh 7 aJ.cells xs k cs∧Below w w wr) (fun i _=>xs.length - (intOf i).toNat)
 case atStart=>exact⟨0,_,Nat.zero_le _,rfl,aq.new _ _ _,by simp [madeCells],lh.zero,bZ _ _⟩
 case round=>
  obtain⟨k,cs,az,rfl,bm,eZ,ai,aB⟩:=hrel
  have fb:=J eZ;clear eZ
  by_cases bl:k < xs.length
  ·obtain⟨b,off,x,rfl,dU,ay,bk⟩:=bL.at_ aB bl
   obtain⟨id,nm,rk,s,d,a,ef,aX⟩:=x
   have f0:=bk 0 _ rfl;have f1:=bk 1 _ rfl;have f2:=bk 2 _ rfl;have f3:=bk 3 _ rfl;have f4:=bk 4 _ rfl;have f5:=bk 5 _ rfl;have f6:=bk 6 _ rfl
   simp only [Nat.add_zero] at f0
   have g0:=f0 (ax.self _);have g1:=f1 (ax.self _);have g2:=f2 (ax.self _);have g3:=f3 (ax.self _);have g4:=f4 (ax.self _);have g5:=f5 (ax.self _);have g6:=f6 (ax.self _)
   simp only [ax.self] at g0
   simp only [ax.self] at g1
   simp only [ax.self] at g2
   simp only [ax.self] at g3
   simp only [ax.self] at g4
   simp only [ax.self] at g5
   simp only [ax.self] at g6
   clear bk;have cb:=J ay;clear ay
   go_wp2_with fail
   refine (arp _ _ _ _ _ _ _ _).mono ?_
   rintro e ag ⟨rfl,eW⟩
   have hI:=bm.below eW bm.lt
   obtain⟨v0,c0⟩:=hI.some_ (k * 7) (by rw [fb.out];omega)
   have z0:=hI.frozen (k * 7)
   obtain⟨v1,c1⟩:=hI.some_ (k * 7 + 1) (by rw [fb.out];omega)
   have bw:=hI.frozen (k * 7 + 1)
   obtain⟨v2,c2⟩:=hI.some_ (k * 7 + 2) (by rw [fb.out];omega)
   have z2:=hI.frozen (k * 7 + 2)
   obtain⟨v3,c3⟩:=hI.some_ (k * 7 + 3) (by rw [fb.out];omega)
   have z3:=hI.frozen (k * 7 + 3)
   obtain⟨v4,c4⟩:=hI.some_ (k * 7 + 4) (by rw [fb.out];omega)
   have z4:=hI.frozen (k * 7 + 4)
   obtain⟨v5,c5⟩:=hI.some_ (k * 7 + 5) (by rw [fb.out];omega)
   have z5:=hI.frozen (k * 7 + 5)
   obtain⟨v6,rB⟩:=hI.some_ (k * 7 + 6) (by rw [fb.out];omega)
   have cy:=hI.frozen (k * 7 + 6)
   go_wp2
   go_roundw
   case rel=>exact⟨k + 1,gQ cs (k * 7) (aJ.cells ⟨id,nm,rk,s,d,a,ef,aX⟩),by omega,by go_num,hI.gQ (k * 7) (aJ.cells ⟨id,nm,rk,s,d,a,ef,aX⟩),by rw [pV,fb.out],ai.put cb.out (by rw [fb.out];simp [aJ.cells];omega),(((((((ah aB eW).setCell (Nat.le_refl _) _).setCell (Nat.le_refl _) _).setCell (Nat.le_refl _) _).setCell (Nat.le_refl _) _).setCell (Nat.le_refl _) _).setCell (Nat.le_refl _) _).setCell (Nat.le_refl _) _⟩
   case measure=>simp [intOf];omega
  ·exact HX
theorem agI (r m:Int) (s:Bool) (w:World):
 Calls Tryz.prog 222 #[.agg #[r,m,s],.agg #[r,m,s]] w fun e ag=>e= .returned true∧Below w w ag:=by
 go_in
 go_wp2
 go_ret
 exact⟨rfl,xf _ _ _⟩
theorem arn (r m:Int) (s:Bool) (w:World):
 Calls Tryz.prog 218 #[.agg #[r,m,s]] w fun e ag=>e= .returned (.agg #[r,m,s])∧Below w w ag:=by
 go_in
 go_wp2
 exact bodyPost_ret (v:= .agg #[r,m,s]) (by simp [results,Tryz.results218,go_sem]) rfl ⟨rfl,av⟩
theorem agM (m t s:Int) (w:World):
 Calls Tryz.prog 285 #[.agg #[m,t,s],.agg #[m,t,s]] w fun e ag=>e= .returned true∧Below w w ag:=by
 go_in
 go_wp2
 go_ret
 exact⟨rfl,xf _ _ _⟩
theorem ars (m t s:Int) (w:World):
 Calls Tryz.prog 284 #[.agg #[m,t,s]] w fun e ag=>e= .returned (.agg #[m,t,s])∧Below w w ag:=by
 go_in
 go_wp2
 exact bodyPost_ret (v:= .agg #[m,t,s]) (by simp [results,Tryz.results284,go_sem]) rfl ⟨rfl,av⟩
theorem agG (r m:Int) (s:Bool) (w:World):
 Calls Tryz.prog 225 #[.agg #[r,m,s],.agg #[r,m,s]] w fun e ag=>e= .returned true∧Below w w ag:=by
 go_in
 go_wp2
 go_ret
 exact⟨rfl,xf _ _ _⟩
theorem ark (r m:Int) (s:Bool) (w:World):
 Calls Tryz.prog 221 #[.agg #[r,m,s]] w fun e ag=>e= .returned (.agg #[r,m,s])∧Below w w ag:=by
 go_in
 go_wp2
 exact bodyPost_ret (v:= .agg #[r,m,s]) (by simp [results,Tryz.results221,go_sem]) rfl ⟨rfl,av⟩
theorem sH:(Tryz.prog.info? 115).map (fun i=>(i.zero,i.size,i.bytes))= some (some (.agg #[(0:Int),(0:Int),false]),3,24):=by kernel_rfl
theorem AQ:(Tryz.prog.info? 214).map (fun i=>(i.zero,i.size,i.bytes))= some (some (.agg #[(0:Int),(0:Int),(0:Int)]),3,24):=by kernel_rfl
theorem GV:(Tryz.prog.info? 163).map (fun i=>(i.zero,i.size,i.bytes))= some (some (.agg #[(0:Int),(0:Int),false]),3,24):=by kernel_rfl
theorem agH (A hc:Option Addr) (c cM:Nat) (xs:List aL) (aY:xs.length≤1048576) (w:World) (bL:aH 3 aL.cells w A xs) (xx:aH 3 aL.cells w hc xs):
 Calls Tryz.prog 142 #[.slice A xs c,.slice hc xs cM] w fun e ag=>e= .returned true∧Below w w ag:=by
 go_in
 go_wp2
 go_loopw [5] (fun i wr=>∃(k:Nat),k≤xs.length∧i= .int .i64 k∧Below w w wr) (fun i _=>xs.length - (intOf i).toNat)
 case atStart=>exact⟨0,Nat.zero_le _,rfl,Below.refl _ _⟩
 case round=>
  obtain⟨k,az,rfl,aB⟩:=hrel
  by_cases bl:k < xs.length
  ·obtain⟨b,off,x,rfl,dU,ay,bk⟩:=bL.at_ aB bl
   obtain⟨cL,rT,bF,rfl,_,lf,jL⟩:=xx.at_ aB bl
   obtain rfl:x= bF:=Option.some.inj (ay.symm.trans lf)
   obtain⟨r,m,s⟩:=x
   have f0:=bk 0 _ rfl;have f1:=bk 1 _ rfl;have f2:=bk 2 _ rfl
   simp only [Nat.add_zero] at f0
   have e0:=jL 0 _ rfl;have e1:=jL 1 _ rfl;have e2:=jL 2 _ rfl
   simp only [Nat.add_zero] at e0
   clear ay bk lf jL
   go_wp2
   refine ew (by kernel_rfl) (by kernel_rfl) ?_
   repeat (go_big_quiet_step (((go_at_call 222;exact ax.call _ (Nat.le_refl _) (agI _ _ _ _)))))
   exact HW
  ·go_wp2
   go_ret
   exact⟨rfl,aB⟩
theorem arl (A:Option Addr) (c:Nat) (xs:List aL) (aY:xs.length≤1048576) (w:World) (bL:aH 3 aL.cells w A xs):
 Calls Tryz.prog 139 #[.slice A xs c] w fun e ag=>∃hc,e= .returned (.slice hc xs xs)∧aV w 115 3 aL.cells ag (.slice hc xs xs) xs∧Below w w ag:=by
 obtain⟨i0,hi,dy,dC,dN⟩:=info_parts sH
 have lr:=HB (P:=Tryz.prog) 37 115 i0 _ Tryz.underlying37 hi dy .i64 .i64 xs.length xs.length (Nat.le_refl _) (by rw [dN];omega) (by omega)
 rw [dC] at lr
 go_in
 go_wp2
 go_loopw [4] (fun i wr=>∃(k:Nat) (cs:Array Value),k≤xs.length∧i= .int .i64 k∧aq wr w.heap.size 115 cs∧cs.size= xs.length * 3∧lh 3 aL.cells xs k cs∧Below w w wr) (fun i _=>xs.length - (intOf i).toNat)
 case atStart=>exact⟨0,_,Nat.zero_le _,rfl,aq.new _ _ _,by simp [madeCells],lh.zero,bZ _ _⟩
 case round=>
  obtain⟨k,cs,az,rfl,bm,eZ,ai,aB⟩:=hrel
  have fb:=J eZ;clear eZ
  by_cases bl:k < xs.length
  ·obtain⟨b,off,x,rfl,dU,ay,bk⟩:=bL.at_ aB bl
   obtain⟨r,m,s⟩:=x
   have f0:=bk 0 _ rfl;have f1:=bk 1 _ rfl;have f2:=bk 2 _ rfl
   simp only [Nat.add_zero] at f0
   have g0:=f0 (ax.self _);have g1:=f1 (ax.self _);have g2:=f2 (ax.self _)
   simp only [ax.self] at g0
   simp only [ax.self] at g1
   simp only [ax.self] at g2
   clear bk;have cb:=J ay;clear ay
   go_wp2_with fail
   refine (arn _ _ _ _).mono ?_
   rintro e ag ⟨rfl,eW⟩
   have hI:=bm.below eW bm.lt
   obtain⟨v0,c0⟩:=hI.some_ (k * 3) (by rw [fb.out];omega)
   have z0:=hI.frozen (k * 3)
   obtain⟨v1,c1⟩:=hI.some_ (k * 3 + 1) (by rw [fb.out];omega)
   have bw:=hI.frozen (k * 3 + 1)
   obtain⟨v2,c2⟩:=hI.some_ (k * 3 + 2) (by rw [fb.out];omega)
   have z2:=hI.frozen (k * 3 + 2)
   go_wp2
   go_roundw
   case rel=>exact⟨k + 1,gQ cs (k * 3) (aL.cells ⟨r,m,s⟩),by omega,by go_num,hI.gQ (k * 3) (aL.cells ⟨r,m,s⟩),by rw [pV,fb.out],ai.put cb.out (by rw [fb.out];simp [aL.cells];omega),(((ah aB eW).setCell (Nat.le_refl _) _).setCell (Nat.le_refl _) _).setCell (Nat.le_refl _) _⟩
   case measure=>simp [intOf];omega
  ·exact HX
theorem agL (A hc:Option Addr) (c cM:Nat) (xs:List aI) (aY:xs.length≤1048576) (w:World) (bL:aH 3 aI.cells w A xs) (xx:aH 3 aI.cells w hc xs):
 Calls Tryz.prog 224 #[.slice A xs c,.slice hc xs cM] w fun e ag=>e= .returned true∧Below w w ag:=by
 go_in
 go_wp2
 go_loopw [5] (fun i wr=>∃(k:Nat),k≤xs.length∧i= .int .i64 k∧Below w w wr) (fun i _=>xs.length - (intOf i).toNat)
 case atStart=>exact⟨0,Nat.zero_le _,rfl,Below.refl _ _⟩
 case round=>
  obtain⟨k,az,rfl,aB⟩:=hrel
  by_cases bl:k < xs.length
  ·obtain⟨b,off,x,rfl,dU,ay,bk⟩:=bL.at_ aB bl
   obtain⟨cL,rT,bF,rfl,_,lf,jL⟩:=xx.at_ aB bl
   obtain rfl:x= bF:=Option.some.inj (ay.symm.trans lf)
   obtain⟨m,t,s⟩:=x
   have f0:=bk 0 _ rfl;have f1:=bk 1 _ rfl;have f2:=bk 2 _ rfl
   simp only [Nat.add_zero] at f0
   have e0:=jL 0 _ rfl;have e1:=jL 1 _ rfl;have e2:=jL 2 _ rfl
   simp only [Nat.add_zero] at e0
   clear ay bk lf jL
   go_wp2
   refine ew (by kernel_rfl) (by kernel_rfl) ?_
   repeat (go_big_quiet_step (((go_at_call 285;exact ax.call _ (Nat.le_refl _) (agM _ _ _ _)))))
   exact HW
  ·go_wp2
   go_ret
   exact⟨rfl,aB⟩
theorem arq (A:Option Addr) (c:Nat) (xs:List aI) (aY:xs.length≤1048576) (w:World) (bL:aH 3 aI.cells w A xs):
 Calls Tryz.prog 220 #[.slice A xs c] w fun e ag=>∃hc,e= .returned (.slice hc xs xs)∧aV w 214 3 aI.cells ag (.slice hc xs xs) xs∧Below w w ag:=by
 obtain⟨i0,hi,dy,dC,dN⟩:=info_parts AQ
 have lr:=HB (P:=Tryz.prog) 39 214 i0 _ Tryz.underlying39 hi dy .i64 .i64 xs.length xs.length (Nat.le_refl _) (by rw [dN];omega) (by omega)
 rw [dC] at lr
 go_in
 go_wp2
 go_loopw [4] (fun i wr=>∃(k:Nat) (cs:Array Value),k≤xs.length∧i= .int .i64 k∧aq wr w.heap.size 214 cs∧cs.size= xs.length * 3∧lh 3 aI.cells xs k cs∧Below w w wr) (fun i _=>xs.length - (intOf i).toNat)
 case atStart=>exact⟨0,_,Nat.zero_le _,rfl,aq.new _ _ _,by simp [madeCells],lh.zero,bZ _ _⟩
 case round=>
  obtain⟨k,cs,az,rfl,bm,eZ,ai,aB⟩:=hrel
  have fb:=J eZ;clear eZ
  by_cases bl:k < xs.length
  ·obtain⟨b,off,x,rfl,dU,ay,bk⟩:=bL.at_ aB bl
   obtain⟨m,t,s⟩:=x
   have f0:=bk 0 _ rfl;have f1:=bk 1 _ rfl;have f2:=bk 2 _ rfl
   simp only [Nat.add_zero] at f0
   have g0:=f0 (ax.self _);have g1:=f1 (ax.self _);have g2:=f2 (ax.self _)
   simp only [ax.self] at g0
   simp only [ax.self] at g1
   simp only [ax.self] at g2
   clear bk;have cb:=J ay;clear ay
   go_wp2_with fail
   refine (ars _ _ _ _).mono ?_
   rintro e ag ⟨rfl,eW⟩
   have hI:=bm.below eW bm.lt
   obtain⟨v0,c0⟩:=hI.some_ (k * 3) (by rw [fb.out];omega)
   have z0:=hI.frozen (k * 3)
   obtain⟨v1,c1⟩:=hI.some_ (k * 3 + 1) (by rw [fb.out];omega)
   have bw:=hI.frozen (k * 3 + 1)
   obtain⟨v2,c2⟩:=hI.some_ (k * 3 + 2) (by rw [fb.out];omega)
   have z2:=hI.frozen (k * 3 + 2)
   go_wp2
   go_roundw
   case rel=>exact⟨k + 1,gQ cs (k * 3) (aI.cells ⟨m,t,s⟩),by omega,by go_num,hI.gQ (k * 3) (aI.cells ⟨m,t,s⟩),by rw [pV,fb.out],ai.put cb.out (by rw [fb.out];simp [aI.cells];omega),(((ah aB eW).setCell (Nat.le_refl _) _).setCell (Nat.le_refl _) _).setCell (Nat.le_refl _) _⟩
   case measure=>simp [intOf];omega
  ·exact HX
theorem agF (A hc:Option Addr) (c cM:Nat) (xs:List Out) (aY:xs.length≤1048576) (w:World) (bL:aH 3 Out.cells w A xs) (xx:aH 3 Out.cells w hc xs):
 Calls Tryz.prog 144 #[.slice A xs c,.slice hc xs cM] w fun e ag=>e= .returned true∧Below w w ag:=by
 go_in
 go_wp2
 go_loopw [5] (fun i wr=>∃(k:Nat),k≤xs.length∧i= .int .i64 k∧Below w w wr) (fun i _=>xs.length - (intOf i).toNat)
 case atStart=>exact⟨0,Nat.zero_le _,rfl,Below.refl _ _⟩
 case round=>
  obtain⟨k,az,rfl,aB⟩:=hrel
  by_cases bl:k < xs.length
  ·obtain⟨b,off,x,rfl,dU,ay,bk⟩:=bL.at_ aB bl
   obtain⟨cL,rT,bF,rfl,_,lf,jL⟩:=xx.at_ aB bl
   obtain rfl:x= bF:=Option.some.inj (ay.symm.trans lf)
   obtain⟨r,m,s⟩:=x
   have f0:=bk 0 _ rfl;have f1:=bk 1 _ rfl;have f2:=bk 2 _ rfl
   simp only [Nat.add_zero] at f0
   have e0:=jL 0 _ rfl;have e1:=jL 1 _ rfl;have e2:=jL 2 _ rfl
   simp only [Nat.add_zero] at e0
   clear ay bk lf jL
   go_wp2
   refine ew (by kernel_rfl) (by kernel_rfl) ?_
   repeat (go_big_quiet_step (((go_at_call 225;exact ax.call _ (Nat.le_refl _) (agG _ _ _ _)))))
   exact HW
  ·go_wp2
   go_ret
   exact⟨rfl,aB⟩
theorem arj (A:Option Addr) (c:Nat) (xs:List Out) (aY:xs.length≤1048576) (w:World) (bL:aH 3 Out.cells w A xs):
 Calls Tryz.prog 141 #[.slice A xs c] w fun e ag=>∃hc,e= .returned (.slice hc xs xs)∧aV w 163 3 Out.cells ag (.slice hc xs xs) xs∧Below w w ag:=by
 obtain⟨i0,hi,dy,dC,dN⟩:=info_parts GV
 have lr:=HB (P:=Tryz.prog) 42 163 i0 _ Tryz.underlying42 hi dy .i64 .i64 xs.length xs.length (Nat.le_refl _) (by rw [dN];omega) (by omega)
 rw [dC] at lr
 go_in
 go_wp2
 go_loopw [4] (fun i wr=>∃(k:Nat) (cs:Array Value),k≤xs.length∧i= .int .i64 k∧aq wr w.heap.size 163 cs∧cs.size= xs.length * 3∧lh 3 Out.cells xs k cs∧Below w w wr) (fun i _=>xs.length - (intOf i).toNat)
 case atStart=>exact⟨0,_,Nat.zero_le _,rfl,aq.new _ _ _,by simp [madeCells],lh.zero,bZ _ _⟩
 case round=>
  obtain⟨k,cs,az,rfl,bm,eZ,ai,aB⟩:=hrel
  have fb:=J eZ;clear eZ
  by_cases bl:k < xs.length
  ·obtain⟨b,off,x,rfl,dU,ay,bk⟩:=bL.at_ aB bl
   obtain⟨r,m,s⟩:=x
   have f0:=bk 0 _ rfl;have f1:=bk 1 _ rfl;have f2:=bk 2 _ rfl
   simp only [Nat.add_zero] at f0
   have g0:=f0 (ax.self _);have g1:=f1 (ax.self _);have g2:=f2 (ax.self _)
   simp only [ax.self] at g0
   simp only [ax.self] at g1
   simp only [ax.self] at g2
   clear bk;have cb:=J ay;clear ay
   go_wp2_with fail
   refine (ark _ _ _ _).mono ?_
   rintro e ag ⟨rfl,eW⟩
   have hI:=bm.below eW bm.lt
   obtain⟨v0,c0⟩:=hI.some_ (k * 3) (by rw [fb.out];omega)
   have z0:=hI.frozen (k * 3)
   obtain⟨v1,c1⟩:=hI.some_ (k * 3 + 1) (by rw [fb.out];omega)
   have bw:=hI.frozen (k * 3 + 1)
   obtain⟨v2,c2⟩:=hI.some_ (k * 3 + 2) (by rw [fb.out];omega)
   have z2:=hI.frozen (k * 3 + 2)
   go_wp2
   go_roundw
   case rel=>exact⟨k + 1,gQ cs (k * 3) (Out.cells ⟨r,m,s⟩),by omega,by go_num,hI.gQ (k * 3) (Out.cells ⟨r,m,s⟩),by rw [pV,fb.out],ai.put cb.out (by rw [fb.out];simp [Out.cells];omega),(((ah aB eW).setCell (Nat.le_refl _) _).setCell (Nat.le_refl _) _).setCell (Nat.le_refl _) _⟩
   case measure=>simp [intOf];omega
  ·exact HX
theorem Rf {p:Prop} (h:p:=by
 by_cases aS:(xs.length:Int)≤l
 ·have zf:¬(l - (xs.length:Int)) < 0:=by omega
  go_in
  go_wp2
  go_ret
  exact⟨_,rfl,by omega,by omega,.inr (by omega),Below.refl _ _⟩
 ·have zf:(l - (xs.length:Int)) < 0:=by omega
  go_in
  go_wp2
  go_ret
  exact⟨_,rfl,by omega,by omega,.inl (by omega),Below.refl _ _⟩):p:=h
theorem aqT (A:Option Addr) (c:Nat) (xs:List aL) (aY:xs.length≤maxLen) (l:Int) (h00:0≤l) (h01:l≤1048576) (w:World):
 Calls Tryz.prog 136 #[.slice A xs c,l] w fun e ag=>∃r:Int,e= .returned r∧-1≤r∧r≤l∧(r < 0∨xs.length≤1048576)∧Below w w ag:=by
 unfold maxLen at aY
 exact Rf
theorem aqW (A:Option Addr) (c:Nat) (xs:List aI) (aY:xs.length≤maxLen) (l:Int) (h00:0≤l) (h01:l≤1048576) (w:World):
 Calls Tryz.prog 217 #[.slice A xs c,l] w fun e ag=>∃r:Int,e= .returned r∧-1≤r∧r≤l∧(r < 0∨xs.length≤1048576)∧Below w w ag:=by
 unfold maxLen at aY
 exact Rf
theorem aqS (A:Option Addr) (c:Nat) (xs:List Out) (aY:xs.length≤maxLen) (l:Int) (h00:0≤l) (h01:l≤1048576) (w:World):
 Calls Tryz.prog 138 #[.slice A xs c,l] w fun e ag=>∃r:Int,e= .returned r∧-1≤r∧r≤l∧(r < 0∨xs.length≤1048576)∧Below w w ag:=by
 unfold maxLen at aY
 exact Rf
end Go.Proofs.YtlaaemmmbodaaaaGreatDoor
