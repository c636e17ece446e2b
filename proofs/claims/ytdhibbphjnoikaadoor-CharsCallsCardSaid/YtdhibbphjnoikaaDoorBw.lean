/-
  The walk of the law CharsCalls.
-/
import Derived.Test.YtdhibbphjnoikaaDoorBv
import Derived.Test.YtdhibbphjnoikaaDoorBm
import Derived.Outline
namespace Go.Proofs.YtdhibbphjnoikaaDoor
open Go.RowKit
set_option maxHeartbeats 4000000 in
theorem law_calls (c b : Int) (w : World) (h : dbAt w) : Calls Tryd.prog 8 #[.int .i64 c, .int .i64 b] w fun e w' => e = .returned (.bool true) ∧ Below w.heap.size w w' := by
  have HD := Lib.hid h
  clear h
  go_enter Tryd.func8, Tryd.ntmps8
  go_wp2_with fail
  refine (digit_any c b _).mono ?_
  rintro e w1 ⟨rfl, rfl⟩
  generalize hdx : digS c b = dx
  obtain ⟨d1, d2⟩ := dx
  have HDX := Lib.hid hdx
  clear hdx
  go_wp2_with fail
  refine (rdigit_any c b _).mono ?_
  rintro e w2 ⟨rfl, rfl⟩
  rw [HDX.out]
  go_wp2_with fail
  refine (escape_any c _ HD.out).mono ?_
  rintro e w3 ⟨rfl, HB⟩
  generalize hex : esc c = ex
  obtain ⟨e1, e2⟩ := ex
  have HEX := Lib.hid hex
  clear hex
  replace HB := Lib.hid HB
  go_wp2_with fail
  refine (rescape_any c _).mono ?_
  rintro e w4 ⟨rfl, HB2⟩
  rw [HEX.out]
  replace HB2 := Lib.hid (bNext HB.out HB2)
  clear HB
  go_wp2_with fail
  refine (unescape_any c _).mono ?_
  rintro e w5 ⟨rfl, rfl⟩
  generalize hux : unE c = ux
  obtain ⟨u1, u2⟩ := ux
  have HUX := Lib.hid hux
  clear hux
  go_wp2_with fail
  refine (runescape_any c _).mono ?_
  rintro e w6 ⟨rfl, rfl⟩
  rw [HUX.out]
  go_wp2_with fail
  refine (class_any c _).mono ?_
  rintro e w7 ⟨rfl, HB3⟩
  replace HB3 := Lib.hid (bNext HB2.out HB3)
  clear HB2
  go_wp2_with fail
  refine (rclass_any c _).mono ?_
  rintro e w8 ⟨rfl, rfl⟩
  rw [clsR_eq]
  generalize clsP c = k
  go_wp2_with fail
  refine (awake_any _).mono ?_
  rintro e w9 ⟨rfl, HB⟩
  replace HB := Lib.hid (bNext HB3.out HB)
  go_wp2_with fail
  go_ret
  exact ⟨rfl, HB.out⟩
end Go.Proofs.YtdhibbphjnoikaaDoor
