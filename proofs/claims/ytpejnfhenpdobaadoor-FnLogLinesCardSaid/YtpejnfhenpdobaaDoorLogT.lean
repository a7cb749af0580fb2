/- The log's laws: what goes in and what comes out, sized, copied, compared, marked. -/
import Derived.Test.YtpejnfhenpdobaaDoorLog12
import Derived.Test.YtpejnfhenpdobaaDoorMk
namespace Go.Proofs.YtpejnfhenpdobaaDoor
open Go.RowKit Go.G9
structure LogT where
  dur : ByteArray
  pen : ByteArray
  cnt : Int
def LogT.cells (x : LogT) : List Value := [.string x.dur, .string x.pen, .int .i64 x.cnt]
theorem szLog_is (x : LogT) (hd : x.dur.size ≤ maxLen) (hp : x.pen.size ≤ maxLen) (l : Int) (h0 : 0 ≤ l) (h1 : l ≤ 1048576) (w : World) :
  Calls Tryd.prog 20 #[.agg #[.string x.dur, .string x.pen, .int .i64 x.cnt], .int .i64 l] w fun e w' => ∃ q : Int, e = .returned (.int .i64 q) ∧ -1 ≤ q ∧ q ≤ l ∧ (q < 0 ∨ x.dur.size + x.pen.size ≤ l) ∧ Below w.heap.size w w' := by
  unfold maxLen at hd hp
  go_enter Tryd.func20, Tryd.ntmps20
  go_wp2
  all_goals go_ret
  all_goals exact ⟨_, rfl, by omega, by omega, by omega, bl1 _ _⟩
theorem toLog_is (x : LogT) (_h : x.dur.size + x.pen.size ≤ 1048576) (w : World) : Calls Tryd.prog 22 #[.agg #[.string x.dur, .string x.pen, .int .i64 x.cnt]] w fun e w' => e = .returned (.agg #[.string x.dur, .string x.pen, .int .i64 x.cnt]) ∧ Below w.heap.size w w' := by
  go_enter Tryd.func22, Tryd.ntmps22
  go_wp2
  exact bodyPost_ret (v := .agg #[.string x.dur, .string x.pen, .int .i64 x.cnt]) (by simp [results, Tryd.results22, go_sem]) rfl ⟨rfl, bl3 _ _ _ _⟩
theorem eqLog_is (x : LogT) (w : World) : Calls Tryd.prog 19 #[.agg #[.string x.dur, .string x.pen, .int .i64 x.cnt], .agg #[.string x.dur, .string x.pen, .int .i64 x.cnt]] w fun e w' => e = .returned (.bool true) ∧ Below w.heap.size w w' := by
  go_enter Tryd.func19, Tryd.ntmps19
  go_wp2
  go_ret
  exact ⟨rfl, bl2 _ _ _⟩
theorem szLogRecordR_is (x : LRec) (hc : x.cmd.size ≤ maxLen) (hr : x.rep.size ≤ maxLen) (l : Int) (h0 : 0 ≤ l) (h1 : l ≤ 1048576) (w : World) :
  Calls Tryd.prog 13 #[.agg #[.string x.cmd, .string x.rep], .int .i64 l] w fun e w' => ∃ q : Int, e = .returned (.int .i64 q) ∧ -1 ≤ q ∧ q ≤ l ∧ (q < 0 ∨ x.cmd.size + x.rep.size ≤ l) ∧ Below w.heap.size w w' := szLogRecord_is x.cmd x.rep hc hr l h0 h1 w
theorem toLogRecordR_is (x : LRec) (_hc : x.cmd.size ≤ 1048576) (_hr : x.rep.size ≤ 1048576) (w : World) : Calls Tryd.prog 15 #[.agg #[.string x.cmd, .string x.rep]] w fun e w' => e = .returned (.agg #[.string x.cmd, .string x.rep]) ∧ Below w.heap.size w w' := toLogRecord_is x.cmd x.rep w
theorem eqLogRecord_is (c r : ByteArray) (w : World) : Calls Tryd.prog 50 #[.agg #[.string c, .string r], .agg #[.string c, .string r]] w fun e w' => e = .returned (.bool true) ∧ Below w.heap.size w w' := by
  go_enter Tryd.func50, Tryd.ntmps50
  go_wp2
  go_ret
  exact ⟨rfl, bl2 _ _ _⟩
set_option maxHeartbeats 1000000 in
theorem eqLogRecordS_is (A A' : Option Addr) (c c' : Nat) (xs : List LRec) (hn : xs.length ≤ 1048576) (w : World) (hR : Rds 2 LRec.cells w A xs) (hR' : Rds 2 LRec.cells w A' xs) :
  Calls Tryd.prog 32 #[.slice A xs.length c, .slice A' xs.length c'] w fun e w' => e = .returned (.bool true) ∧ Below w.heap.size w w' := by
  go_enter Tryd.func32, Tryd.ntmps32
  go_wp2
  go_loopw [5] (fun i wr => ∃ (k : Nat), k ≤ xs.length ∧ i = .int .i64 k ∧ Below w.heap.size w wr) (fun i _ => xs.length - (intOf i).toNat)
  case atStart => exact ⟨0, Nat.zero_le _, rfl, Below.refl _ _⟩
  case round =>
    obtain ⟨k, hk, rfl, hb⟩ := hrel
    by_cases hlt : k < xs.length
    · obtain ⟨b, off, x, rfl, hbl, hx, hcx⟩ := hR.at_ hb hlt
      obtain ⟨b', off', x', rfl, _, hx', hcx'⟩ := hR'.at_ hb hlt
      obtain rfl : x = x' := Option.some.inj (hx.symm.trans hx')
      obtain ⟨c, r⟩ := x
      have f0 := hcx 0 _ rfl
      have f1 := hcx 1 _ rfl
      simp only [Nat.add_zero] at f0
      have e0 := hcx' 0 _ rfl
      have e1 := hcx' 1 _ rfl
      simp only [Nat.add_zero] at e0
      clear hx hcx hx' hcx'
      go_wp2
      refine wp_region_kin (by kernel_rfl) (by kernel_rfl) ?_
      repeat (go_big_quiet_step (((go_at_call 50; exact Kin.call _ (Nat.le_refl _) (eqLogRecord_is _ _ _)))))
      refine wpQuiet_nil ?_
      intro K
      go_wp2
      go_roundw
      case rel => exact ⟨k + 1, by omega, by go_num, bth hb K.below⟩
      case measure => simp [intOf]; omega
    · go_wp2
      go_ret
      exact ⟨rfl, hb⟩
def patLogRecord (q : Int) : List Value := [.string (markS (q).toNat), .string (markS (q + 1).toNat)]
theorem patLogRecord_len (q : Int) : (patLogRecord q).length = 2 := rfl
set_option maxHeartbeats 4000000 in
set_option maxRecDepth 100000 in
theorem mkLogRecordS_is (B : Nat) (A : Option Addr) (c : Nat) (xs : List LRec) (hn : xs.length ≤ 1048576) (m : Int) (h0 : 0 < m) (h1 : m ≤ 100000000) (w : World) (hO : OwnV B 27 2 LRec.cells w (.slice A xs.length c) xs) :
  Calls Tryd.prog 33 #[.slice A xs.length c, .int .i64 m] w fun e w' => e = .returned (.int .i64 (m + 2 * xs.length)) ∧ OwnV B 27 2 patLogRecord w' (.slice A xs.length c) (mks m 2 xs.length) ∧ w.grownBy w' (Value.slice A xs.length c).ownBlock := by
  by_cases hz : xs.length = 0
  · have hx0 : xs = [] := List.length_eq_zero_iff.1 hz
    subst hx0
    clear hz
    have hO' : OwnV B 27 2 patLogRecord w (.slice A 0 c) (mks m 2 0) := hO.empty
    have HO := Lib.hid hO'; clear hO hO'
    go_enter Tryd.func33, Tryd.ntmps33
    go_wp2
    go_loopw [1, 5] (fun mv i wr => mv = .int .i64 m ∧ i = .int .i64 0 ∧ wr = w) (fun _ _ _ => 0)
    case atStart => exact ⟨rfl, rfl, rfl⟩
    case round =>
      obtain ⟨rfl, rfl, rfl⟩ := hrel
      go_wp2
      go_ret
      exact ⟨by simp, by simpa using HO.out, grown_refl _ _⟩
  obtain ⟨g, cap, cs0, hve, hB, hbk, hnc, hcm, hcs⟩ := hO.block (by omega)
  injection hve with hve1 _ hve2
  subst hve1 hve2
  have HC0 := Lib.hid hcs; have HB0 := Lib.hid hbk
  clear hcs hbk hO hz
  go_enter Tryd.func33, Tryd.ntmps33
  go_wp2
  go_loopw [1, 5] (fun mv i wr => ∃ (k : Nat) (q : Int) (cs : Array Value), k ≤ xs.length ∧ i = .int .i64 k ∧ mv = .int .i64 q ∧ q = m + 2 * k ∧ Blk wr g 27 cs ∧ cs.size = c * 2 ∧ Filled 2 patLogRecord (mks m 2 xs.length) k cs ∧ w.grownBy wr (some g)) (fun _ i _ => xs.length - (intOf i).toNat)
  case atStart => exact ⟨0, m, cs0, Nat.zero_le _, rfl, rfl, by simp, HB0.out, HC0.out, Filled.zero, grown_refl _ _⟩
  case round =>
    obtain ⟨k, q, cs, hk, rfl, rfl, hq, hBK, hsz, hF, hg⟩ := hrel
    have hq1 : 0 < q := by omega
    have hq2 : q ≤ 200000000 := by omega
    have HQ := Lib.hid hq; have HSZ := Lib.hid hsz; have HF := Lib.hid hF; have HG := Lib.hid hg
    clear hq hsz hF hg
    by_cases hlt : k < xs.length
    · have hbl := hBK.lt
      have hx : (mks m 2 xs.length)[k]? = some q := by rw [mks_get hlt, HQ.out]
      have HX := Lib.hid hx; clear hx
      go_wp2_with fail
      refine (markTextI_is (q) (by omega) (by omega) _).mono ?_
      rintro e w1 ⟨rfl, hb1⟩
      have hBK1 : Blk w1 g 27 cs := hBK.below hb1 (by simpa using hbl)
      have hbl1 : g < w1.heap.size := hBK1.lt
      replace hbl := hbl1
      obtain ⟨v0, c0⟩ := hBK1.some_ (k * 2) (by have hh := HSZ.out; (try simp only [size_setMany]); omega)
      have z0 := hBK1.frozen (k * 2)
      obtain ⟨v1, c1⟩ := hBK1.some_ (k * 2 + 1) (by have hh := HSZ.out; (try simp only [size_setMany]); omega)
      have z1 := hBK1.frozen (k * 2 + 1)
      go_wp2_with fail
      refine (markTextI_is (q + 1) (by omega) (by omega) _).mono ?_
      rintro e w2 ⟨rfl, hb2⟩
      have hBK2 : Blk w2 g 27 (Go.G9.setMany cs (k * 2) [.string (markS (q).toNat)]) := (Blk.setMany (k * 2) [.string (markS (q).toNat)] hBK1).below hb2 (by simpa using hbl)
      clear c0 z0 c1 z1
      have hbl2 : g < w2.heap.size := hBK2.lt
      replace hbl := hbl2
      obtain ⟨v1, c1⟩ := hBK2.some_ (k * 2 + 1) (by have hh := HSZ.out; (try simp only [size_setMany]); omega)
      have z1 := hBK2.frozen (k * 2 + 1)
      go_wp2
      go_roundw
      case rel =>
        have hfin : Go.G9.setMany (Go.G9.setMany cs (k * 2) [.string (markS (q).toNat)]) (k * 2 + 1) [.string (markS (q + 1).toNat)] = Go.G9.setMany cs (k * 2) (patLogRecord q) := rfl
        refine ⟨k + 1, _, Go.G9.setMany (Go.G9.setMany cs (k * 2) [.string (markS (q).toNat)]) (k * 2 + 1) [.string (markS (q + 1).toNat)], by omega, by go_num, rfl, by have := HQ.out; omega, ?_, ?_, ?_, (grown_set (grown_tr (grown_set (grown_tr HG.out (below_grown hb1 _)) _) (below_grown hb2 _)) _)⟩
        · exact Blk.setMany (k * 2 + 1) [.string (markS (q + 1).toNat)] hBK2
        · rw [hfin, size_setMany, HSZ.out]
        · rw [hfin]; have h := HF.out.put HX.out (by rw [HSZ.out, patLogRecord_len]; omega); exact h
      case measure => simp [intOf]; omega
    · obtain rfl : k = xs.length := by omega
      go_wp2
      go_ret
      refine ⟨ret_int (by have := HQ.out; omega), ?_, HG.out⟩
      have h := OwnV.ofBlk (B := B) (xs := mks m 2 xs.length) hBK hB (by rw [mks_len]; exact hnc) hcm HSZ.out (fun i x hx => HF.out i x (by have := (List.getElem?_eq_some_iff.1 hx).1; rwa [mks_len] at this) hx)
      rw [mks_len] at h
      exact h
set_option maxHeartbeats 4000000 in
set_option maxRecDepth 100000 in
theorem hdLogRecordS_is (A : Option Addr) (c n : Nat) (hn : n ≤ 1048576) (m : Int) (h0 : 0 < m) (h1 : m ≤ 100000000) (w : World) (hR : Rds 2 patLogRecord w A (mks m 2 n)) :
  Calls Tryd.prog 34 #[.slice A n c, .int .i64 m] w fun e w' => e = .returned (.int .i64 (m + 2 * n)) ∧ Below w.heap.size w w' := by
  go_enter Tryd.func34, Tryd.ntmps34
  go_wp2
  go_loopw [1, 5] (fun mv i wr => ∃ (k : Nat) (q : Int), k ≤ n ∧ i = .int .i64 k ∧ mv = .int .i64 q ∧ q = m + 2 * k ∧ Below w.heap.size w wr) (fun _ i _ => n - (intOf i).toNat)
  case atStart => exact ⟨0, m, Nat.zero_le _, rfl, rfl, by simp, Below.refl _ _⟩
  case round =>
    obtain ⟨k, q, hk, rfl, rfl, hq, hb⟩ := hrel
    have hq1 : 0 < q := by omega
    have hq2 : q ≤ 200000000 := by omega
    have HQ := Lib.hid hq; clear hq
    by_cases hlt : k < n
    · obtain ⟨b, off, x, rfl, hbl, hx, hcx⟩ := hR.at_ hb (k := k) (by rw [mks_len]; exact hlt)
      have hxq : x = q := by rw [mks_get hlt] at hx; rw [HQ.out]; exact (Option.some.inj hx).symm
      subst hxq
      have f0 := hcx 0 _ rfl
      have f1 := hcx 1 _ rfl
      simp only [Nat.add_zero] at f0
      clear hx hcx
      have g0 := f0 (Kin.self _)
      have g1 := f1 (Kin.self _)
      simp only [Kin.self] at g0
      simp only [Kin.self] at g1
      go_wp2
      refine wp_region_kin (by kernel_rfl) (by kernel_rfl) ?_
      repeat (go_big_quiet_step (((go_at_call 51; exact Kin.call _ (by first | exact Nat.le_refl _ | omega) (markTextI_is (x) (by omega) (by omega) _)))))
      refine wpQuiet_nil ?_
      intro K1
      clear g0 g1
      replace hb := bth hb K1.below
      replace f0 := fun K => f0 (Kin.drop K K1.below)
      have g0 := f0 (Kin.self _)
      simp only [Kin.self, Kin.drop] at f0 g0
      replace f1 := fun K => f1 (Kin.drop K K1.below)
      have g1 := f1 (Kin.self _)
      simp only [Kin.self, Kin.drop] at f1 g1
      go_wp2
      refine wp_region_kin (by kernel_rfl) (by kernel_rfl) ?_
      repeat (go_big_quiet_step (((go_at_call 51; exact Kin.call _ (by first | exact Nat.le_refl _ | omega) (markTextI_is (x + 1) (by omega) (by omega) _)))))
      refine wpQuiet_nil ?_
      intro K2
      clear g1
      replace hb := bth hb K2.below
      replace f1 := fun K => f1 (Kin.drop K K2.below)
      have g1 := f1 (Kin.self _)
      simp only [Kin.self, Kin.drop] at f1 g1
      go_wp2
      go_roundw
      case rel => exact ⟨k + 1, _, by omega, by go_num, rfl, by have := HQ.out; omega, hb⟩
      case measure => simp [intOf]; omega
    · obtain rfl : k = n := by omega
      go_wp2
      go_ret
      exact ⟨ret_int (by have := HQ.out; omega), hb⟩
/-- A log's parts as lists of bytes. -/
def LogT.d (x : LogT) : L8 := x.dur.data.toList
def LogT.p (x : LogT) : L8 := x.pen.data.toList
theorem LogT.len (x : LogT) (h : x.dur.size + x.pen.size ≤ 1048576) : x.d.length + x.p.length ≤ 1048576 := by
  unfold LogT.d LogT.p; rw [Array.length_toList, Array.length_toList]; exact h
theorem bs_d (x : LogT) : bs x.d = x.dur := bs_of _
theorem bs_p (x : LogT) : bs x.p = x.pen := bs_of _
def LRec.c (x : LRec) : L8 := x.cmd.data.toList
def LRec.r (x : LRec) : L8 := x.rep.data.toList
theorem bs_c (x : LRec) : bs x.c = x.cmd := bs_of _
theorem bs_r (x : LRec) : bs x.r = x.rep := bs_of _
theorem LRec.clen (x : LRec) (h : x.cmd.size ≤ 1048576) : x.c.length ≤ 1048576 := by unfold LRec.c; rw [Array.length_toList]; exact h
theorem LRec.rlen (x : LRec) (h : x.rep.size ≤ 1048576) : x.r.length ≤ 1048576 := by unfold LRec.r; rw [Array.length_toList]; exact h
theorem iIsValidLogR_is (x : LogT) (h : x.dur.size + x.pen.size ≤ 1048576) (v : Bool) (hv : logS x.d x.p x.cnt = v) (w : World) (hT : Tab w) : Calls Tryd.prog 23 #[.agg #[.string x.dur, .string x.pen, .int .i64 x.cnt]] w fun e w' => e = .returned (.bool v) ∧ Below w.heap.size w w' := by
  have := isValidLog_is x.d x.p x.cnt (x.len h) v hv w hT
  rwa [bs_d, bs_p] at this
end Go.Proofs.YtpejnfhenpdobaaDoor
