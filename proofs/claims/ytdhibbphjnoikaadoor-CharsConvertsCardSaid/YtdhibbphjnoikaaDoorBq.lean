/-
  The walk of the law CharsConverts.
-/
import Derived.Test.YtdhibbphjnoikaaDoorBp
import Derived.Outline
namespace Go.Proofs.YtdhibbphjnoikaaDoor
open Go.RowKit
theorem cv_yes {l : Tab} {c : Int} (hv : vld l = true) (hc : chr c = true) : cv l c = conv l c := by unfold cv; rw [hv, hc]; rfl
theorem cv_no {l : Tab} {c : Int} (hc : chr c = false) : cv l c = 0 := by unfold cv; rw [hc, Bool.and_false]; rfl
theorem cv_set_at {l : Tab} {a b : Int} (hl : vld l = true) (ha : chr a = true) (hb : chr b = true) : cv (setT l a b) a = b := by
  rw [cv_yes (setT_vld hl ha hb) ha, setT_conv hl ha hb]
  exact if_pos rfl
theorem cv_set_off {l : Tab} {a b c : Int} (hl : vld l = true) (ha : chr a = true) (hb : chr b = true) (hne : (c == a) = false) : cv (setT l a b) c = cv l c := by
  cases hc : chr c
  · rw [cv_no hc, cv_no hc]
  · rw [cv_yes (setT_vld hl ha hb) hc, cv_yes hl hc, setT_conv hl ha hb]
    exact if_neg (by simpa using hne)
theorem chr_conv {l : Tab} {a : Int} (hl : vld l = true) (ha : chr a = true) : chr (conv l a) = true := by
  obtain ⟨h0, h1⟩ := chr_iff.1 ha
  exact chr_iff.2 (conv_in (srt_vld hl) h0 h1)
theorem setC_chr1 {l : Tab} {a b : Int} (h : chr a = false) : setC l a b = false := by unfold setC; rw [h]; simp
theorem setC_chr2 {l : Tab} {a b : Int} (h : chr b = false) : setC l a b = false := by unfold setC; rw [h]; simp
theorem setC_vld {l : Tab} {a b : Int} (h : vld l = false) : setC l a b = false := by unfold setC; rw [h]; rfl
set_option maxHeartbeats 4000000 in
theorem law_converts (A : Option Addr) (n cap : Nat) (l : Tab) (a b c : Int) (w : World) (h : PairsAt w w.heap.size A n l) (hnil : A = none → cap = 0) (hn : n ≤ cap) :
    Calls Tryd.prog 5 #[.slice A n cap, .int .i64 a, .int .i64 b, .int .i64 c] w fun e w' => e = .returned (.bool true) ∧ Below w.heap.size w w' := by
  have HA := Lib.hid h
  have HN := Lib.hid hnil
  clear h hnil
  by_cases hbig : 1000 < n
  · go_enter Tryd.func5, Tryd.ntmps5
    go_wp2_with fail
    refine (awake_any _).mono ?_
    rintro e w1 ⟨rfl, HB⟩
    go_wp2_with fail
    go_ret
    exact ⟨rfl, HB⟩
  cases hv : vld l
  · have HS := Lib.hid (setC_vld (a := a) (b := b) hv)
    have HV := Lib.hid hv
    clear hv
    go_enter Tryd.func5, Tryd.ntmps5
    go_wp2_with fail
    refine (set_bad A n cap l a b _ HA.out HS.out).mono ?_
    rintro e w1 ⟨rfl, HB1⟩
    replace HB1 := Lib.hid HB1
    go_wp2_with fail
    refine (valid_any A n cap l _ (HA.out.up HB1.out)).mono ?_
    rintro e w2 ⟨rfl, HB2⟩
    rw [HV.out]
    replace HB2 := Lib.hid (bNext HB1.out HB2)
    clear HB1
    go_wp2_with fail
    refine (awake_any _).mono ?_
    rintro e w3 ⟨rfl, HB⟩
    replace HB := Lib.hid (bNext HB2.out HB)
    go_wp2_with fail
    go_ret
    exact ⟨rfl, HB.out⟩
  have HV := Lib.hid hv
  clear hv
  cases a0 : decide (0 ≤ a)
  · have HS := Lib.hid (setC_chr1 (l := l) (a := a) (b := b) (by rw [chr_no]; simp at a0; omega))
    go_enter Tryd.func5, Tryd.ntmps5
    go_wp2_with fail
    refine (set_bad A n cap l a b _ HA.out HS.out).mono ?_
    rintro e w1 ⟨rfl, HB1⟩
    replace HB1 := Lib.hid HB1
    go_wp2_with fail
    refine (valid_any A n cap l _ (HA.out.up HB1.out)).mono ?_
    rintro e w2 ⟨rfl, HB2⟩
    rw [HV.out]
    replace HB2 := Lib.hid (bNext HB1.out HB2)
    clear HB1
    go_wp2_with fail
    refine (awake_any _).mono ?_
    rintro e w3 ⟨rfl, HB⟩
    replace HB := Lib.hid (bNext HB2.out HB)
    go_wp2_with fail
    go_ret
    exact ⟨rfl, HB.out⟩
  cases a1 : decide (a ≤ 255)
  · have HS := Lib.hid (setC_chr1 (l := l) (a := a) (b := b) (by rw [chr_no]; simp at a1; omega))
    go_enter Tryd.func5, Tryd.ntmps5
    go_wp2_with fail
    refine (set_bad A n cap l a b _ HA.out HS.out).mono ?_
    rintro e w1 ⟨rfl, HB1⟩
    replace HB1 := Lib.hid HB1
    go_wp2_with fail
    refine (valid_any A n cap l _ (HA.out.up HB1.out)).mono ?_
    rintro e w2 ⟨rfl, HB2⟩
    rw [HV.out]
    replace HB2 := Lib.hid (bNext HB1.out HB2)
    clear HB1
    go_wp2_with fail
    refine (awake_any _).mono ?_
    rintro e w3 ⟨rfl, HB⟩
    replace HB := Lib.hid (bNext HB2.out HB)
    go_wp2_with fail
    go_ret
    exact ⟨rfl, HB.out⟩
  cases b0 : decide (0 ≤ b)
  · have HS := Lib.hid (setC_chr2 (l := l) (a := a) (b := b) (by rw [chr_no]; simp at b0; omega))
    go_enter Tryd.func5, Tryd.ntmps5
    go_wp2_with fail
    refine (set_bad A n cap l a b _ HA.out HS.out).mono ?_
    rintro e w1 ⟨rfl, HB1⟩
    replace HB1 := Lib.hid HB1
    go_wp2_with fail
    refine (valid_any A n cap l _ (HA.out.up HB1.out)).mono ?_
    rintro e w2 ⟨rfl, HB2⟩
    rw [HV.out]
    replace HB2 := Lib.hid (bNext HB1.out HB2)
    clear HB1
    go_wp2_with fail
    refine (awake_any _).mono ?_
    rintro e w3 ⟨rfl, HB⟩
    replace HB := Lib.hid (bNext HB2.out HB)
    go_wp2_with fail
    go_ret
    exact ⟨rfl, HB.out⟩
  cases b1 : decide (b ≤ 255)
  · have HS := Lib.hid (setC_chr2 (l := l) (a := a) (b := b) (by rw [chr_no]; simp at b1; omega))
    go_enter Tryd.func5, Tryd.ntmps5
    go_wp2_with fail
    refine (set_bad A n cap l a b _ HA.out HS.out).mono ?_
    rintro e w1 ⟨rfl, HB1⟩
    replace HB1 := Lib.hid HB1
    go_wp2_with fail
    refine (valid_any A n cap l _ (HA.out.up HB1.out)).mono ?_
    rintro e w2 ⟨rfl, HB2⟩
    rw [HV.out]
    replace HB2 := Lib.hid (bNext HB1.out HB2)
    clear HB1
    go_wp2_with fail
    refine (awake_any _).mono ?_
    rintro e w3 ⟨rfl, HB⟩
    replace HB := Lib.hid (bNext HB2.out HB)
    go_wp2_with fail
    go_ret
    exact ⟨rfl, HB.out⟩
  have HCA := Lib.hid (show chr a = true by rw [chr_iff]; simp at a0 a1; omega)
  have HCB := Lib.hid (show chr b = true by rw [chr_iff]; simp at b0 b1; omega)
  have HCO := Lib.hid (chr_conv HV.out HCA.out)
  have HV1 := Lib.hid (setT_vld (l := l) (a := a) (b := b) HV.out HCA.out HCB.out)
  have HBK := Lib.hid (setT_back (l := l) (a := a) (b := b) HV.out HCA.out HCB.out)
  have HAT := Lib.hid (cv_set_at (l := l) (a := a) (b := b) HV.out HCA.out HCB.out)
  have n1 := setT_len l a b
  cases hca : c == a
  · go_enter Tryd.func5, Tryd.ntmps5
    go_wp2_with fail
    refine (set_ok A n cap l a b _ (by omega) HA.out HN.out hn HV.out HCA.out HCB.out).mono ?_
    rintro e w1 ⟨⟨v, rfl, HW⟩, HB1⟩
    obtain ⟨A1, c1, rfl, HP1, hnil1, hlc1⟩ := HW
    replace HP1 := Lib.hid HP1
    have HN1 := Lib.hid hnil1
    clear hnil1
    replace HB1 := Lib.hid HB1
    go_wp2_with fail
    refine (valid_any A n cap l _ (HA.out.up HB1.out)).mono ?_
    rintro e w2 ⟨rfl, HB2⟩
    rw [HV.out]
    replace HP1 := Lib.hid (HP1.out.up HB2)
    replace HB2 := Lib.hid (bNext HB1.out HB2)
    clear HB1
    go_wp2_with fail
    refine (convert_any A n cap l a _ (HA.out.up HB2.out)).mono ?_
    rintro e w3 ⟨rfl, HB3⟩
    rw [cv_yes HV.out HCA.out]
    replace HP1 := Lib.hid (HP1.out.up HB3)
    replace HB3 := Lib.hid (bNext HB2.out HB3)
    clear HB2
    go_wp2_with fail
    refine (set_ok A1 _ c1 _ a (conv l a) _ (by omega) HP1.out HN1.out hlc1 HV1.out HCA.out HCO.out).mono ?_
    rintro e w4 ⟨⟨v, rfl, HW⟩, HB4⟩
    obtain ⟨A4, c4, rfl, HP4, -, -⟩ := HW
    replace HP4 := Lib.hid HP4
    replace HP1 := Lib.hid (HP1.out.up HB4)
    replace HB4 := Lib.hid (bNext HB3.out HB4)
    clear HB3 HN1 hlc1
    go_wp2_with fail
    refine (convert_any A1 _ c1 _ c _ HP1.out).mono ?_
    rintro e w5 ⟨rfl, HB5⟩
    rw [cv_set_off HV.out HCA.out HCB.out hca]
    replace HP1 := Lib.hid (HP1.out.up HB5)
    replace HP4 := Lib.hid (HP4.out.up HB5)
    replace HB5 := Lib.hid (bNext HB4.out HB5)
    clear HB4
    go_wp2_with fail
    refine (convert_any A n cap l c _ (HA.out.up HB5.out)).mono ?_
    rintro e w6 ⟨rfl, HB6⟩
    replace HP1 := Lib.hid (HP1.out.up HB6)
    replace HP4 := Lib.hid (HP4.out.up HB6)
    replace HB4 := Lib.hid (bNext HB5.out HB6)
    clear HB5
    go_wp2_with fail
    refine (valid_any A1 _ c1 _ _ HP1.out).mono ?_
    rintro e w7 ⟨rfl, HB7⟩
    rw [HV1.out]
    replace HP1 := Lib.hid (HP1.out.up HB7)
    replace HP4 := Lib.hid (HP4.out.up HB7)
    replace HB7 := Lib.hid (bNext HB4.out HB7)
    clear HB4
    go_wp2_with fail
    refine (convert_any A1 _ c1 _ a _ HP1.out).mono ?_
    rintro e w8 ⟨rfl, HB8⟩
    rw [HAT.out]
    replace HP4 := Lib.hid (HP4.out.up HB8)
    replace HB8 := Lib.hid (bNext HB7.out HB8)
    clear HB7 HP1
    go_wp2_with fail
    refine (same_any A4 A _ _ c4 cap _ _ _ HP4.out (HA.out.up HB8.out)).mono ?_
    rintro e w9 ⟨rfl, HB9⟩
    rw [decide_eq_true HBK.out]
    replace HB9 := Lib.hid (bNext HB8.out HB9)
    clear HB8 HP4
    go_wp2_with fail
    refine (awake_any _).mono ?_
    rintro e w10 ⟨rfl, HB⟩
    replace HB := Lib.hid (bNext HB9.out HB)
    go_wp2_with fail
    go_ret
    exact ⟨rfl, HB.out⟩
  · go_enter Tryd.func5, Tryd.ntmps5
    go_wp2_with fail
    refine (set_ok A n cap l a b _ (by omega) HA.out HN.out hn HV.out HCA.out HCB.out).mono ?_
    rintro e w1 ⟨⟨v, rfl, HW⟩, HB1⟩
    obtain ⟨A1, c1, rfl, HP1, hnil1, hlc1⟩ := HW
    replace HP1 := Lib.hid HP1
    have HN1 := Lib.hid hnil1
    clear hnil1
    replace HB1 := Lib.hid HB1
    go_wp2_with fail
    refine (valid_any A n cap l _ (HA.out.up HB1.out)).mono ?_
    rintro e w2 ⟨rfl, HB2⟩
    rw [HV.out]
    replace HP1 := Lib.hid (HP1.out.up HB2)
    replace HB2 := Lib.hid (bNext HB1.out HB2)
    clear HB1
    go_wp2_with fail
    refine (convert_any A n cap l a _ (HA.out.up HB2.out)).mono ?_
    rintro e w3 ⟨rfl, HB3⟩
    rw [cv_yes HV.out HCA.out]
    replace HP1 := Lib.hid (HP1.out.up HB3)
    replace HB3 := Lib.hid (bNext HB2.out HB3)
    clear HB2
    go_wp2_with fail
    refine (set_ok A1 _ c1 _ a (conv l a) _ (by omega) HP1.out HN1.out hlc1 HV1.out HCA.out HCO.out).mono ?_
    rintro e w4 ⟨⟨v, rfl, HW⟩, HB4⟩
    obtain ⟨A4, c4, rfl, HP4, -, -⟩ := HW
    replace HP4 := Lib.hid HP4
    replace HP1 := Lib.hid (HP1.out.up HB4)
    replace HB4 := Lib.hid (bNext HB3.out HB4)
    clear HB3 HN1 hlc1
    go_wp2_with fail
    refine (valid_any A1 _ c1 _ _ HP1.out).mono ?_
    rintro e w7 ⟨rfl, HB7⟩
    rw [HV1.out]
    replace HP1 := Lib.hid (HP1.out.up HB7)
    replace HP4 := Lib.hid (HP4.out.up HB7)
    replace HB7 := Lib.hid (bNext HB4.out HB7)
    clear HB4
    go_wp2_with fail
    refine (convert_any A1 _ c1 _ a _ HP1.out).mono ?_
    rintro e w8 ⟨rfl, HB8⟩
    rw [HAT.out]
    replace HP4 := Lib.hid (HP4.out.up HB8)
    replace HB8 := Lib.hid (bNext HB7.out HB8)
    clear HB7 HP1
    go_wp2_with fail
    refine (same_any A4 A _ _ c4 cap _ _ _ HP4.out (HA.out.up HB8.out)).mono ?_
    rintro e w9 ⟨rfl, HB9⟩
    rw [decide_eq_true HBK.out]
    replace HB9 := Lib.hid (bNext HB8.out HB9)
    clear HB8 HP4
    go_wp2_with fail
    refine (awake_any _).mono ?_
    rintro e w10 ⟨rfl, HB⟩
    replace HB := Lib.hid (bNext HB9.out HB)
    go_wp2_with fail
    go_ret
    exact ⟨rfl, HB.out⟩
end Go.Proofs.YtdhibbphjnoikaaDoor
