/-
  The walks of the laws CharsOrder and CharsConverts.
-/
import Derived.Test.YtdhibbphjnoikaaDoorBo
import Derived.Outline
namespace Go.Proofs.YtdhibbphjnoikaaDoor
open Go.RowKit
theorem setT_len (l : Tab) (a b : Int) : (setT l a b).length ≤ 256 := lst_len _ _ _
theorem setC_iff {l : Tab} {a b : Int} : setC l a b = true ↔ vld l = true ∧ chr a = true ∧ chr b = true := by
  unfold setC; simp only [Bool.and_eq_true]; exact ⟨fun h => ⟨h.1.1, h.1.2, h.2⟩, fun h => ⟨⟨h.1, h.2.1⟩, h.2.2⟩⟩
set_option maxHeartbeats 2000000 in
theorem law_order (A : Option Addr) (n cap : Nat) (l : Tab) (a x b y : Int) (w : World) (h : PairsAt w w.heap.size A n l) (hnil : A = none → cap = 0) (hn : n ≤ cap) :
    Calls Tryd.prog 6 #[.slice A n cap, .int .i64 a, .int .i64 x, .int .i64 b, .int .i64 y] w fun e w' => e = .returned (.bool true) ∧ Below w.heap.size w w' := by
  have HA := Lib.hid h
  have HN := Lib.hid hnil
  clear h hnil
  by_cases hbig : 1000 < n
  · go_enter Tryd.func6, Tryd.ntmps6
    go_wp2_with fail
    refine (awake_any _).mono ?_
    rintro e w1 ⟨rfl, HB⟩
    go_wp2_with fail
    go_ret
    exact ⟨rfl, HB⟩
  cases hab : a == b
  rotate_left
  · go_enter Tryd.func6, Tryd.ntmps6
    go_wp2_with fail
    refine (awake_any _).mono ?_
    rintro e w1 ⟨rfl, HB⟩
    go_wp2_with fail
    go_ret
    exact ⟨rfl, HB⟩
  cases hs1 : setC l a x
  · have HS1 := Lib.hid hs1
    clear hs1
    go_enter Tryd.func6, Tryd.ntmps6
    go_wp2_with fail
    refine (set_bad A n cap l a x _ HA.out HS1.out).mono ?_
    rintro e w1 ⟨rfl, HB1⟩
    replace HB1 := Lib.hid HB1
    go_wp2_with fail
    refine (set_all A n cap l b y _ (by omega) (HA.out.up HB1.out) HN.out hn).mono ?_
    rintro e w2 ⟨⟨v, rfl, HV⟩, HB2⟩
    obtain ⟨A2, c2, rfl, -, -, -⟩ := HV
    replace HB2 := Lib.hid (bNext HB1.out HB2)
    go_wp2_with fail
    refine (awake_any _).mono ?_
    rintro e w3 ⟨rfl, HB⟩
    replace HB := Lib.hid (bNext HB2.out HB)
    go_wp2_with fail
    go_ret
    exact ⟨rfl, HB.out⟩
  obtain ⟨hv, ha, hx⟩ := setC_iff.1 hs1
  clear hs1
  have HV := Lib.hid hv
  have HCA := Lib.hid ha
  have HCX := Lib.hid hx
  clear hv ha hx
  cases hs2 : setC l b y
  · have HS2 := Lib.hid hs2
    clear hs2
    go_enter Tryd.func6, Tryd.ntmps6
    go_wp2_with fail
    refine (set_ok A n cap l a x _ (by omega) HA.out HN.out hn HV.out HCA.out HCX.out).mono ?_
    rintro e w1 ⟨⟨v, rfl, HW⟩, HB1⟩
    obtain ⟨A1, c1, rfl, -, -, -⟩ := HW
    replace HB1 := Lib.hid HB1
    go_wp2_with fail
    refine (set_bad A n cap l b y _ (HA.out.up HB1.out) HS2.out).mono ?_
    rintro e w2 ⟨rfl, HB2⟩
    replace HB2 := Lib.hid (bNext HB1.out HB2)
    go_wp2_with fail
    refine (awake_any _).mono ?_
    rintro e w3 ⟨rfl, HB⟩
    replace HB := Lib.hid (bNext HB2.out HB)
    go_wp2_with fail
    go_ret
    exact ⟨rfl, HB.out⟩
  obtain ⟨-, hb, hy⟩ := setC_iff.1 hs2
  clear hs2
  have HCB := Lib.hid hb
  have HCY := Lib.hid hy
  clear hb hy
  have HCM := Lib.hid (setT_comm (l := l) (a := a) (x := x) (b := b) (y := y) HV.out HCA.out HCX.out HCB.out HCY.out (by simpa using hab))
  have HV1 := Lib.hid (setT_vld (l := l) (a := a) (b := x) HV.out HCA.out HCX.out)
  have HV2 := Lib.hid (setT_vld (l := l) (a := b) (b := y) HV.out HCB.out HCY.out)
  have n1 := setT_len l a x
  have n2 := setT_len l b y
  go_enter Tryd.func6, Tryd.ntmps6
  go_wp2_with fail
  refine (set_ok A n cap l a x _ (by omega) HA.out HN.out hn HV.out HCA.out HCX.out).mono ?_
  rintro e w1 ⟨⟨v, rfl, HW⟩, HB1⟩
  obtain ⟨A1, c1, rfl, HP1, hnil1, hlc1⟩ := HW
  replace HP1 := Lib.hid HP1
  have HN1 := Lib.hid hnil1
  clear hnil1
  replace HB1 := Lib.hid HB1
  go_wp2_with fail
  refine (set_ok A n cap l b y _ (by omega) (HA.out.up HB1.out) HN.out hn HV.out HCB.out HCY.out).mono ?_
  rintro e w2 ⟨⟨v, rfl, HW⟩, HB2⟩
  obtain ⟨A2, c2, rfl, HP2, hnil2, hlc2⟩ := HW
  replace HP2 := Lib.hid HP2
  have HN2 := Lib.hid hnil2
  clear hnil2
  replace HP1 := Lib.hid (HP1.out.up HB2)
  replace HB2 := Lib.hid (bNext HB1.out HB2)
  clear HB1
  go_wp2_with fail
  refine (set_ok A1 _ c1 _ b y _ (by omega) HP1.out HN1.out hlc1 HV1.out HCB.out HCY.out).mono ?_
  rintro e w3 ⟨⟨v, rfl, HW⟩, HB3⟩
  obtain ⟨A3, c3, rfl, HP3, -, -⟩ := HW
  replace HP3 := Lib.hid HP3
  replace HP2 := Lib.hid (HP2.out.up HB3)
  replace HB3 := Lib.hid (bNext HB2.out HB3)
  clear HB2 HP1 HN1 hlc1
  go_wp2_with fail
  refine (set_ok A2 _ c2 _ a x _ (by omega) HP2.out HN2.out hlc2 HV2.out HCA.out HCX.out).mono ?_
  rintro e w4 ⟨⟨v, rfl, HW⟩, HB4⟩
  obtain ⟨A4, c4, rfl, HP4, -, -⟩ := HW
  replace HP4 := Lib.hid HP4
  replace HP3 := Lib.hid (HP3.out.up HB4)
  replace HB4 := Lib.hid (bNext HB3.out HB4)
  clear HB3 HP2 HN2 hlc2
  go_wp2_with fail
  refine (same_any A3 A4 _ _ c3 c4 _ _ _ HP3.out HP4.out).mono ?_
  rintro e w5 ⟨rfl, HB5⟩
  rw [decide_eq_true HCM.out]
  replace HB5 := Lib.hid (bNext HB4.out HB5)
  clear HB4 HP3 HP4
  go_wp2_with fail
  refine (awake_any _).mono ?_
  rintro e w6 ⟨rfl, HB⟩
  replace HB := Lib.hid (bNext HB5.out HB)
  go_wp2_with fail
  go_ret
  exact ⟨rfl, HB.out⟩
end Go.Proofs.YtdhibbphjnoikaaDoor
