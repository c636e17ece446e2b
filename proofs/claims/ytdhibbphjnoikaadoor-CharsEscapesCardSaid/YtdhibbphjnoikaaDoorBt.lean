/-
  The walks of FormatInt at base 16.
-/
import Derived.Test.YtdhibbphjnoikaaDoorBs
import Derived.Outline
namespace Go.Proofs.YtdhibbphjnoikaaDoor
open Go.RowKit
set_option maxHeartbeats 2000000 in
theorem fmt_in (u : Int) (w : World) (h : dbAt w) (h0 : 0 ≤ u) (h1 : u < 256) : Calls Tryd.prog 40 #[.int .i64 u, .int .i64 16] w fun e w' => e = .returned (.string (hexS u)) ∧ Below w.heap.size w w' := by
  have HD := Lib.hid h
  clear h
  have hneg : decide (u < 0) = false := by simp; omega
  go_enter Tryd.func40, Tryd.ntmps40
  go_wp2_with fail
  refine (bits_hex u _ HD.out h0 h1).mono ?_
  rintro e w1 ⟨rfl, HB⟩
  go_wp2_with fail
  go_ret
  exact ⟨rfl, HB⟩
set_option maxHeartbeats 2000000 in
theorem fmt_any (u : Int) (w : World) (h : dbAt w) (h0 : 0 ≤ u) (h1 : u < 256) : Calls Tryd.prog 34 #[.int .i64 u, .int .i64 16] w fun e w' => e = .returned (.string (hexS u)) ∧ Below w.heap.size w w' := by
  have HD := Lib.hid h
  clear h
  go_enter Tryd.func34, Tryd.ntmps34
  go_wp2_with fail
  refine (fmt_in u _ HD.out h0 h1).mono ?_
  rintro e w1 ⟨rfl, HB⟩
  go_wp2_with fail
  go_ret
  exact ⟨rfl, HB⟩
end Go.Proofs.YtdhibbphjnoikaaDoor
