/- Clauses: which stand and fall (the reference); the divided text (both sides). -/
import Derived.Test.YtndenojanflkgaaCl11
namespace Go.Proofs.Ytndenojanflkgaa
open Go.RowKit Go.G9
theorem info_strC : (Try.prog.info? 9).map (fun i => (i.zero, i.size, i.bytes)) = some (some (.string ⟨#[]⟩), 1, 16) := by kernel_rfl
theorem bC_one (x : ByteArray) : ∀ u, u ∈ bC x → u.oneCell' = true := by
  intro u hu; simp only [bC, List.mem_cons, List.not_mem_nil, or_false] at hu; subst hu; rfl
theorem rd_cellC {T : Type} {sz : Nat} {f : T → List Value} {w : World} {b off : Nat} {xs : List T} (h : Rds sz f w (some ⟨b, off, none⟩) xs) {k : Nat} {x : T} (hx : xs[k]? = some x) {i : Nat} {u : Value} (hu : (f x)[i]? = some u) : b < w.heap.size ∧ w.cell? ⟨b, off + k * sz + i, none⟩ = some u := by
  obtain ⟨b', off', h1, h2, h3⟩ := h (by have := (List.getElem?_eq_some_iff.1 hx).1; omega)
  injection h1 with h1; injection h1 with h4 h5; subst h4; subst h5
  exact ⟨h2, h3 k x hx i u hu⟩
theorem rds_kept {T : Type} {sz : Nat} {f : T → List Value} {w w' : World} {A : Option Addr} {xs : List T} {row : Option Nat} (h : Rds sz f w A xs) (hg : w.grownBy w' row) (hne : 0 < xs.length → ∀ ad, A = some ad → some ad.block ≠ row) : Rds sz f w' A xs := by
  by_cases hn : 0 < xs.length
  · exact h.grown hg (hne hn)
  · have : xs = [] := List.length_eq_zero_iff.1 (by omega)
    subst this; exact Rds.nil
theorem rds_lt {T : Type} {sz : Nat} {f : T → List Value} {w : World} {A : Option Addr} {xs : List T} (h : Rds sz f w A xs) (h0 : 0 < xs.length) {ad : Addr} (ha : A = some ad) : ad.block < w.heap.size := by
  obtain ⟨b, off, h1, h2, _⟩ := h h0
  rw [h1] at ha; cases ha; exact h2
/-- The reference's test of one clause, its first q needs looked at. -/
def ssT (xs : List Cla) (ad : List Bool) (k q : Nat) : Bool := atP ad k && ((ndF xs k).take q).all (fun n => hasB (ssN (ndF xs) (atP ad) k) n)
theorem ssT_succ {xs : List Cla} {ad : List Bool} {k q : Nat} {n : Int} (h : (ndF xs k)[q]? = some n) : ssT xs ad k (q + 1) = (ssT xs ad k q && hasB (ssN (ndF xs) (atP ad) k) n) := by
  unfold ssT
  rw [List.take_add_one, h, List.all_append, Bool.and_assoc]
  simp
theorem ssN_yes {xs : List Cla} {ad : List Bool} {k : Nat} (h : ssT xs ad k (ndF xs k).length = true) : ssN (ndF xs) (atP ad) (k + 1) = ssN (ndF xs) (atP ad) k ++ [(k : Int)] := by
  rw [ssT, List.take_length] at h
  rw [ssN, if_pos h]
theorem ssN_no {xs : List Cla} {ad : List Bool} {k : Nat} (h : ssT xs ad k (ndF xs k).length = false) : ssN (ndF xs) (atP ad) (k + 1) = ssN (ndF xs) (atP ad) k := by
  rw [ssT, List.take_length] at h
  rw [ssN, if_neg (by rw [h]; decide)]
theorem ssN_len (nd : Nat → List Int) (ad : Nat → Bool) : ∀ k, (ssN nd ad k).length ≤ k
  | 0 => Nat.le_refl _
  | k + 1 => by
    have := ssN_len nd ad k
    unfold ssN; split
    · simp; omega
    · omega
set_option maxHeartbeats 4000000 in
set_option maxRecDepth 100000 in
theorem l19Stand_is (A : Option Addr) (c : Nat) (xs : List Cla) (D : Option Addr) (d : Nat) (ad : List Bool) (hv : voteB xs ad = true) (w : World) (hR : ClR w A xs) (hD : Rds 1 blC w D ad) :
  Calls Try.prog 28 #[.slice A xs.length c, .slice D ad.length d] w fun e w' => ∃ Y y, e = .returned (.slice Y (chN (stB (ndF xs) (atP ad)) xs.length).length y) ∧ OwnV w.heap.size 3 1 intC w' (.slice Y (chN (stB (ndF xs) (atP ad)) xs.length).length y) (chN (stB (ndF xs) (atP ad)) xs.length) ∧ Below w.heap.size w w' := by
  obtain ⟨i0, hi0, hz0, hz1, hz2⟩ := info_parts info_int
  have hn := hR.len
  simp only [voteB, Bool.and_eq_true] at hv
  have hla : ad.length = xs.length := by have := hv.2; simp at this; omega
  rw [← ssN_ch (claB_bk hv.1) xs.length (Nat.le_refl _)]
  have HR := Lib.hid hR; have HD := Lib.hid hD; have HLA := Lib.hid hla; clear hR hD hv hla
  have hO0 := OwnV.made (f := intC) (sz := 1) w (B := w.heap.size) (Nat.le_refl _) 3
  go_enter Try.func28, Try.ntmps28
  go_wp2
  go_loopw [5, 6] (fun y v wr => ∃ k : Nat, k ≤ xs.length ∧ v = .int .i64 k ∧ OwnV w.heap.size 3 1 intC wr y (ssN (ndF xs) (atP ad) k) ∧ Below w.heap.size w wr) (fun _ v _ => xs.length - (intOf v).toNat)
  case atStart => exact ⟨0, Nat.zero_le _, rfl, hO0, bl1 _ _⟩
  case round =>
    clear hO0
    obtain ⟨k, hk, rfl, hO, HB⟩ := hrel
    obtain ⟨Y, y, hYe, _, _, _⟩ := hO.form intC_len
    subst hYe
    by_cases hlt : k < xs.length
    · obtain ⟨b, off, x, rfl, hbl, hx, hcx⟩ := HR.out.rds.at_ HB hlt
      have hok := HR.out.ok x (List.mem_of_getElem? hx)
      have hnx := ndF_at hx
      obtain ⟨wa, wc, ws, na, nc, ns⟩ := x
      have f1 := hcx 1 _ rfl
      have g1 := f1 (Kin.self _)
      simp only [Kin.self] at g1
      obtain ⟨bd, od, a, rfl, hbd, had, hcd⟩ := HD.out.at_ HB (k := k) (by have := HLA.out; omega)
      have hka : (k : Int) < (ad.length : Int) := by have := HLA.out; omega
      have f0 := hcd 0 _ rfl
      simp only [Nat.mul_one, Nat.add_zero] at f0
      have d0 := f0 (Kin.self _)
      simp only [Kin.self] at d0
      have lns : ns.length ≤ 1000 := hok.ln
      have HN : Hid (Rds 1 intC w na ns) := Lib.hid hok.rn
      have HX := Lib.hid hx
      have HNX : Hid (ndF xs k = ns) := Lib.hid hnx
      have hT0 : ssT xs ad k 0 = a := by rw [ssT]; simp [atP_at had]
      have HT0 := Lib.hid hT0
      have hsl := ssN_len (ndF xs) (atP ad) k
      have HBk := Lib.hid HB
      have HOk := Lib.hid hO
      have hyl : (ssN (ndF xs) (atP ad) k).length ≤ 1048576 := by omega
      have HYe := Lib.hid (ssN_yes (xs := xs) (ad := ad) (k := k))
      have HNo := Lib.hid (ssN_no (xs := xs) (ad := ad) (k := k))
      have HTs := Lib.hid (fun q n => ssT_succ (xs := xs) (ad := ad) (k := k) (q := q) (n := n))
      have HRW := HR
      clear hcx f1 hok hnx hx hcd f0 had hT0
      rw [HNX.out] at HYe HNo HTs
      generalize hss : ssN (ndF xs) (atP ad) k = ss at *
      clear hss
      go_wp2
      clear d0 g1 hO HB
      go_loopw [7, 8] (fun s v wr => ∃ q : Nat, q ≤ ns.length ∧ v = .int .i64 q ∧ s = .bool (ssT xs ad k q) ∧ OwnV w.heap.size 3 1 intC wr (.slice Y ss.length y) ss ∧ Below w.heap.size w wr) (fun _ v _ => ns.length - (intOf v).toNat)
      case atStart => exact ⟨0, Nat.zero_le _, rfl, by rw [HT0.out], HOk.out, HBk.out⟩
      case round =>
        obtain ⟨q, hq, rfl, rfl, hO, HB⟩ := hrel
        obtain ⟨hbw, g1⟩ := rd_cellC (HR.out.rds.below HB) HX.out (i := 1) (u := .slice na ns.length nc) rfl
        by_cases hlq : q < ns.length
        · obtain ⟨b2, o2, z, rfl, hb2, hz, hcz⟩ := HN.out.at_ HB hlq
          have f0 := hcz 0 _ rfl
          simp only [Nat.mul_one, Nat.add_zero] at f0
          have g0 := f0 (Kin.self _)
          simp only [Kin.self] at g0
          have hsq := HTs.out q z hz
          have HSQ := Lib.hid hsq
          have hR5 := hO.rds intC_len
          clear hcz f0 hsq hz
          cases ht : ssT xs ad k q
          · have HT := Lib.hid ht
            clear ht
            go_wp2
            go_roundw
            case rel => exact ⟨q + 1, by omega, by go_num, by rw [HSQ.out, HT.out]; rfl, hO, HB⟩
            case measure => simp [intOf]; omega
          · have HT := Lib.hid ht
            clear ht
            go_wp2_with (go_at_call 32; refine (l1Has_is Y y ss z hyl _ rfl _ hR5).mono ?_; rintro e w' ⟨rfl, hb'⟩)
            go_roundw
            case rel => exact ⟨q + 1, by omega, by go_num, by rw [HSQ.out, HT.out]; rfl, hO.later hb', bth HB hb'⟩
            case measure => simp [intOf]; omega
        · obtain rfl : q = ns.length := by omega
          cases ht : ssT xs ad k ns.length
          · have HA := Lib.hid (HNo.out ht)
            clear ht
            go_wp2
            go_roundw
            case rel => exact ⟨k + 1, by omega, by go_num, by rw [HA.out]; exact hO, HB⟩
            case measure => simp [intOf]; omega
          · have HA := Lib.hid (HYe.out ht)
            clear ht
            go_wp2_with ((at_builtin; refine wpList_app1 rfl _ _ 28 rfl w.heap.size 3 i0 _ 1 8 Try.underlying28 hi0 hz0 hz1 hz2 rfl (by decide) intC intC_len intC_one _ ss rfl (hO.alloc _) ⟨wr.heap.size, 0, none⟩ 1 (k : Int) rfl (Rds.one _ _) (by unfold maxLen; omega) (by omega) (by have := HB.size; simp; omega) ?_; intro v4 w4 hO4 hg4 ha4))
            have hrs : Below w.heap.size w w4 := (HB.alloc HB.size _).grown hg4 (by have := HB.size; simp; omega) (fun q hq => (hO.lt q hq).1)
            go_roundw
            case rel => exact ⟨k + 1, by omega, by go_num, by rw [HA.out]; exact hO4, hrs⟩
            case measure => simp [intOf]; omega
    · obtain rfl : k = xs.length := by omega
      go_wp2
      go_ret
      exact ⟨Y, y, rfl, hO, HB⟩
set_option maxHeartbeats 1000000 in
theorem sStanding_is (A : Option Addr) (c : Nat) (xs : List Cla) (D : Option Addr) (d : Nat) (ad : List Bool) (hl : ad.length ≤ 1000) (w : World) (hR : ClR w A xs) (hD : Rds 1 blC w D ad) :
  Calls Try.prog 7 #[.slice A xs.length c, .slice D ad.length d] w fun e w' => ∃ Y y, e = .returned (.tuple #[.slice Y (stO xs ad).length y, .bool (voteB xs ad)]) ∧ OwnV w.heap.size 3 1 intC w' (.slice Y (stO xs ad).length y) (stO xs ad) ∧ Below w.heap.size w w' := by
  have HR := Lib.hid hR; have HD := Lib.hid hD; clear hR hD
  cases hv : voteB xs ad
  · rw [stO_no hv]
    have HV := Lib.hid hv; clear hv
    go_enter Try.func7, Try.ntmps7
    go_wp2_with fail
    refine (l19Asked_is A c xs D d ad hl _ HV.out _ HR.out).mono ?_
    rintro e w1 ⟨rfl, hb1⟩
    have hq1 : Below w.heap.size w w1 := bth (by repeat (first | exact Below.refl _ _ | refine Below.alloc ?_ (by first | exact Nat.le_refl _ | (simp <;> omega)) _ | refine Below.setCell ?_ (by first | exact Nat.le_refl _ | (simp <;> omega)) _)) hb1
    have HB : Below w.heap.size w w1 := hq1
    have hO := OwnV.made (f := intC) (sz := 1) w1 (B := w1.heap.size) (Nat.le_refl _) 3
    have s1 := HB.size
    go_wp2
    go_ret2
    exact ⟨_, 0, rfl, hO.base (by omega), bth HB (bl1 _ _)⟩
  · rw [stO_yes hv]
    have HS := Lib.hid (fun W h h' => l19Stand_is A c xs D d ad hv W h h')
    have HV := Lib.hid hv; clear hv
    generalize chN (stB (ndF xs) (atP ad)) xs.length = zs at *
    go_enter Try.func7, Try.ntmps7
    go_wp2_with fail
    refine (l19Asked_is A c xs D d ad hl _ HV.out _ HR.out).mono ?_
    rintro e w1 ⟨rfl, hb1⟩
    have hq1 : Below w.heap.size w w1 := bth (by repeat (first | exact Below.refl _ _ | refine Below.alloc ?_ (by first | exact Nat.le_refl _ | (simp <;> omega)) _ | refine Below.setCell ?_ (by first | exact Nat.le_refl _ | (simp <;> omega)) _)) hb1
    have HB : Below w.heap.size w w1 := hq1
    go_wp2_with fail
    refine (HS.out _ (HR.out.below HB) (HD.out.below HB)).mono ?_
    rintro e w2 ⟨Y, y, rfl, O, hb2⟩
    have hq2 : Below w1.heap.size w1 w2 := bth (by repeat (first | exact Below.refl _ _ | refine Below.alloc ?_ (by first | exact Nat.le_refl _ | (simp <;> omega)) _ | refine Below.setCell ?_ (by first | exact Nat.le_refl _ | (simp <;> omega)) _)) hb2
    replace HB := bth HB hq2
    have s1 := hq1.size
    go_wp2
    go_ret2
    exact ⟨Y, y, rfl, O.base (by omega), HB⟩
set_option maxHeartbeats 2000000 in
theorem sFallen_is (A : Option Addr) (c : Nat) (xs : List Cla) (D : Option Addr) (d : Nat) (ad : List Bool) (hl : ad.length ≤ 1000) (w : World) (hR : ClR w A xs) (hD : Rds 1 blC w D ad) :
  Calls Try.prog 12 #[.slice A xs.length c, .slice D ad.length d] w fun e w' => ∃ Y y, e = .returned (.tuple #[.slice Y (faO xs ad).length y, .bool (voteB xs ad)]) ∧ OwnV w.heap.size 3 1 intC w' (.slice Y (faO xs ad).length y) (faO xs ad) ∧ Below w.heap.size w w' := by
  obtain ⟨i0, hi0, hz0, hz1, hz2⟩ := info_parts info_int
  have HR := Lib.hid hR; have HD := Lib.hid hD; clear hR hD
  cases hv : voteB xs ad
  · rw [faO_no hv]
    have HV := Lib.hid hv; clear hv
    go_enter Try.func12, Try.ntmps12
    go_upto_region 2 with fail
    have hO := OwnV.made (f := intC) (sz := 1) w (B := w.heap.size) (Nat.le_refl _) 3
    have hE : Below w.heap.size w (w.alloc (.cells #[] 3)) := bl1 _ _
    generalize w.alloc (.cells #[] 3) = wE at *
    have hq1 : Below w.heap.size w wE := bth (by repeat (first | exact Below.refl _ _ | refine Below.alloc ?_ (by first | exact Nat.le_refl _ | (simp <;> omega)) _ | refine Below.setCell ?_ (by first | exact Nat.le_refl _ | (simp <;> omega)) _)) hE
    have HB : Below w.heap.size w wE := hq1
    go_wp2_with fail
    refine (l19Asked_is A c xs D d ad hl _ HV.out _ (HR.out.below HB)).mono ?_
    rintro e w2 ⟨rfl, hb2⟩
    have hq2 : Below wE.heap.size wE w2 := bth (by repeat (first | exact Below.refl _ _ | refine Below.alloc ?_ (by first | exact Nat.le_refl _ | (simp <;> omega)) _ | refine Below.setCell ?_ (by first | exact Nat.le_refl _ | (simp <;> omega)) _)) hb2
    replace HB := bth HB hq2
    replace hO := hO.later hq2
    go_wp2
    go_ret2
    exact ⟨_, 0, rfl, hO, HB⟩
  · rw [faO_yes hv]
    have hla : ad.length = xs.length := by
      simp only [voteB, Bool.and_eq_true] at hv
      have := hv.2; simp at this; omega
    have HLA := Lib.hid hla; clear hla
    have HS := Lib.hid (fun W h h' => l19Stand_is A c xs D d ad hv W h h')
    have HHS : Hid (∀ k, k < xs.length → hasB (chN (stB (ndF xs) (atP ad)) xs.length) (k : Int) = stB (ndF xs) (atP ad) k) := Lib.hid (fun k hk => chN_has _ _ _ hk)
    have hzl : (chN (stB (ndF xs) (atP ad)) xs.length).length ≤ xs.length := chN_len _ _
    have HV := Lib.hid hv; clear hv
    have hn := HR.out.len
    generalize chN (stB (ndF xs) (atP ad)) xs.length = zs at *
    go_enter Try.func12, Try.ntmps12
    go_upto_region 2 with fail
    have hO := OwnV.made (f := intC) (sz := 1) w (B := w.heap.size) (Nat.le_refl _) 3
    have hE : Below w.heap.size w (w.alloc (.cells #[] 3)) := bl1 _ _
    have hqE : Below (w.heap.size + 1) (w.alloc (.cells #[] 3)) (w.alloc (.cells #[] 3)) := by have := Below.refl (w.heap.size + 1) (w.alloc (.cells #[] 3)); exact this
    have hwE : w.heap.size < (w.alloc (.cells #[] 3)).heap.size := by simp
    generalize w.alloc (.cells #[] 3) = wE at *
    have hq1 : Below w.heap.size w wE := bth (by repeat (first | exact Below.refl _ _ | refine Below.alloc ?_ (by first | exact Nat.le_refl _ | (simp <;> omega)) _ | refine Below.setCell ?_ (by first | exact Nat.le_refl _ | (simp <;> omega)) _)) hE
    have HB : Below w.heap.size w wE := hq1
    go_wp2_with fail
    refine (l19Asked_is A c xs D d ad hl _ HV.out _ (HR.out.below HB)).mono ?_
    rintro e w2 ⟨rfl, hb2⟩
    have hq2 : Below wE.heap.size wE w2 := bth (by repeat (first | exact Below.refl _ _ | refine Below.alloc ?_ (by first | exact Nat.le_refl _ | (simp <;> omega)) _ | refine Below.setCell ?_ (by first | exact Nat.le_refl _ | (simp <;> omega)) _)) hb2
    replace HB := bth HB hq2
    replace hO := hO.later hq2
    go_wp2_with fail
    refine (HS.out _ (HR.out.below HB) (HD.out.below HB)).mono ?_
    rintro e w3 ⟨Z, z, rfl, OZ, hb3⟩
    have hq3 : Below w2.heap.size w2 w3 := bth (by repeat (first | exact Below.refl _ _ | refine Below.alloc ?_ (by first | exact Nat.le_refl _ | (simp <;> omega)) _ | refine Below.setCell ?_ (by first | exact Nat.le_refl _ | (simp <;> omega)) _)) hb3
    replace HB := bth HB hq3
    replace hO := hO.later hq3
    have hRZ := OZ.rds intC_len
    have hsE := hq1.size
    have HNE : Hid (0 < zs.length → ∀ ad, Z = some ad → some ad.block ≠ (Value.slice (some ⟨w.heap.size, 0, none⟩) 0 0).ownBlock) := Lib.hid (fun h0 ad ha e => by
      obtain ⟨g, hg, hg1, _⟩ := own_block0 OZ h0
      rw [hg] at ha
      cases ha
      have := Option.some.inj e
      have := hq2.size
      have := hqE.size
      simp only at *
      omega)
    have HO := Lib.hid hO
    have HBX := Lib.hid HB
    have HRZ := Lib.hid hRZ
    clear OZ hO hRZ
    generalize w3 = wS at *
    go_wp2
    go_loopw [6, 8] (fun y v wr => ∃ k : Nat, k ≤ xs.length ∧ v = .int .i64 k ∧ OwnV w.heap.size 3 1 intC wr y (chN (faP xs ad) k) ∧ Rds 1 intC wr Z zs ∧ (0 < zs.length → ∀ ad, Z = some ad → some ad.block ≠ y.ownBlock) ∧ Below w.heap.size w wr) (fun _ v _ => xs.length - (intOf v).toNat)
    case atStart => exact ⟨0, Nat.zero_le _, rfl, HO.out, HRZ.out, HNE.out, HBX.out⟩
    case round =>
      clear HO HBX HRZ HB hE HNE
      obtain ⟨k, hk, rfl, hO, hRZ, hne, HB⟩ := hrel
      have HNE := Lib.hid hne; clear hne
      by_cases hlt : k < xs.length
      · obtain ⟨bd, od, a, rfl, hbd, had, hcd⟩ := HD.out.at_ HB (k := k) (by have := HLA.out; omega)
        have hka : (k : Int) < (ad.length : Int) := by have := HLA.out; omega
        have f0 := hcd 0 _ rfl
        simp only [Nat.mul_one, Nat.add_zero] at f0
        have g0 := f0 (Kin.self _)
        simp only [Kin.self] at g0
        have hfa : faP xs ad k = (a && !stB (ndF xs) (atP ad) k) := by rw [faP, atP_at had]
        have HFA := Lib.hid hfa
        have hh := HHS.out k hlt
        clear hcd f0 had hfa
        generalize stB (ndF xs) (atP ad) k = sv at *
        have HH := Lib.hid hh
        clear hh
        cases a
        · have ha : chN (faP xs ad) (k + 1) = chN (faP xs ad) k := by rw [chN, HFA.out]; rfl
          have HA := Lib.hid ha; clear ha
          go_wp2
          go_roundw
          case rel => exact ⟨k + 1, by omega, by go_num, by rw [HA.out]; exact hO, hRZ, HNE.out, HB⟩
          case measure => simp [intOf]; omega
        · cases sv
          · have ha : chN (faP xs ad) (k + 1) = chN (faP xs ad) k ++ [(k : Int)] := by rw [chN, HFA.out]; rfl
            have HA := Lib.hid ha; clear ha
            go_wp2_with fail
            refine (l1Has_is Z z zs (k : Int) (by omega) _ HH.out _ hRZ).mono ?_
            rintro e w4 ⟨rfl, hb4⟩
            have hq4 : Below wr.heap.size wr w4 := bth (by repeat (first | exact Below.refl _ _ | refine Below.alloc ?_ (by first | exact Nat.le_refl _ | (simp <;> omega)) _ | refine Below.setCell ?_ (by first | exact Nat.le_refl _ | (simp <;> omega)) _)) hb4
            replace HB := bth HB hq4
            replace hO := hO.later hq4
            replace hRZ := hRZ.below hq4
            have hbs := HB.size
            generalize w4 = wA at *
            go_wp2_with ((at_builtin; refine wpList_app1 rfl _ _ 28 rfl w.heap.size 3 i0 _ 1 8 Try.underlying28 hi0 hz0 hz1 hz2 rfl (by decide) intC intC_len intC_one _ (chN (faP xs ad) k) rfl (hO.alloc _) ⟨wA.heap.size, 0, none⟩ 1 (k : Int) rfl (Rds.one _ _) (by have := chN_len (faP xs ad) k; unfold maxLen; omega) (by have := chN_len (faP xs ad) k; omega) (by simp; omega) ?_; intro v4 w4 hO4 hg4 ha4))
            have hrs : Below w.heap.size w w4 := (HB.alloc HB.size _).grown hg4 (by simp; omega) (fun q hq => (hO.lt q hq).1)
            have hRZ4 : Rds 1 intC w4 Z zs := rds_kept (hRZ.alloc _) hg4 (fun h0 ad ha => HNE.out h0 ad ha)
            have HNE4 : Hid (0 < zs.length → ∀ ad, Z = some ad → some ad.block ≠ v4.ownBlock) := Lib.hid (fun h0 ad ha => by
              rcases ha4 with e | e
              · rw [e]; exact HNE.out h0 ad ha
              · rw [e]; intro e2
                have h1 := rds_lt hRZ h0 ha
                have h2 := Option.some.inj e2
                simp at h2
                omega)
            clear hRZ HNE ha4 hg4
            go_roundw
            case rel => exact ⟨k + 1, by omega, by go_num, by rw [HA.out]; exact hO4, hRZ4, HNE4.out, hrs⟩
            case measure => simp [intOf]; omega
          · have ha : chN (faP xs ad) (k + 1) = chN (faP xs ad) k := by rw [chN, HFA.out]; rfl
            have HA := Lib.hid ha; clear ha
            go_wp2_with fail
            refine (l1Has_is Z z zs (k : Int) (by omega) _ HH.out _ hRZ).mono ?_
            rintro e w5 ⟨rfl, hb5⟩
            have hq5 : Below wr.heap.size wr w5 := bth (by repeat (first | exact Below.refl _ _ | refine Below.alloc ?_ (by first | exact Nat.le_refl _ | (simp <;> omega)) _ | refine Below.setCell ?_ (by first | exact Nat.le_refl _ | (simp <;> omega)) _)) hb5
            replace HB := bth HB hq5
            replace hO := hO.later hq5
            replace hRZ := hRZ.below hq5
            go_wp2
            go_roundw
            case rel => exact ⟨k + 1, by omega, by go_num, by rw [HA.out]; exact hO, hRZ, HNE.out, HB⟩
            case measure => simp [intOf]; omega
      · obtain rfl : k = xs.length := by omega
        obtain ⟨Y, y, rfl, _, _, _⟩ := hO.form intC_len
        go_wp2
        go_ret2
        exact ⟨Y, y, rfl, hO, HB⟩
end Go.Proofs.Ytndenojanflkgaa
