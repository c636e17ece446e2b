/-
  The walk of the hexadecimal text.
-/
import Derived.Test.YtdhibbphjnoikaaDoorBn
import Derived.Outline
import Derived.ProofKit
import Derived.LoopN
namespace Go.Proofs.YtdhibbphjnoikaaDoor
open Go.RowKit
/-- the one cell of the listed table that is read -/
def dbAt (w : World) : Prop := w.cell? ⟨3, 15, none⟩ = some (.int .u8 4) ∧ 3 < w.heap.size
theorem dbAt.below {w w' : World} (h : dbAt w) (hb : Below w.heap.size w w') : dbAt w' :=
  ⟨(hb.cell (p := ⟨3, 15, none⟩) h.2).trans h.1, by have := hb.size; have := h.2; omega⟩
theorem pow_any (w : World) : Calls Tryd.prog 50 #[.int .i64 16] w fun e w' => e = .returned (.bool true) ∧ w = w' := by
  go_enter Tryd.func50, Tryd.ntmps50
  go_wp2_with fail
  go_ret
  exact ⟨rfl, rfl⟩
theorem tz64_any (w : World) (h : dbAt w) : Calls Tryd.prog 53 #[.int .u64 16] w fun e w' => e = .returned (.int .i64 4) ∧ w = w' := by
  have hc := h.1
  have hs := h.2
  have hi : IntKind.u64.wrap (bits BinOp.and IntKind.u64 16 (IntKind.u64.wrap (-16)) * 285870213051353865) / 288230376151711744 = 15 := by decide +kernel
  go_enter Tryd.func53, Tryd.ntmps53
  go_wp2_with fail
  go_ret
  exact ⟨rfl, rfl⟩
theorem tz_any (w : World) (h : dbAt w) : Calls Tryd.prog 51 #[.int .u64 16] w fun e w' => e = .returned (.int .i64 4) ∧ w = w' := by
  go_enter Tryd.func51, Tryd.ntmps51
  go_wp2_with fail
  refine (tz64_any _ h).mono ?_
  rintro e w1 ⟨rfl, rfl⟩
  go_wp2_with fail
  go_ret
  exact ⟨rfl, rfl⟩
theorem zv68 (w : World) : (zeroValue 68).run Tryd.prog w = .ok (.agg (Array.replicate 65 (.int .u8 0))) w := by kernel_rfl
theorem conv_bytes (w : World) (cs : Array Value) (off n : Nat) (bs : List UInt8) (hn : n = bs.length) (h : ∀ j (hj : j < bs.length), cs[off + j]? = some (.int .u8 bs[j].toNat)) :
    (convert 51 9 (.slice (some ⟨w.heap.size, off, none⟩) n n)).run Tryd.prog (w.alloc (.cells cs 68)) = .ok (.string ⟨bs.toArray⟩) (w.alloc (.cells cs 68)) := by
  have := run_convert_bytes_back (P := Tryd.prog) (w.alloc (.cells cs 68)) 51 9 5 ⟨w.heap.size, off, none⟩ n bs Tryd.underlying51 Tryd.underlying5 Tryd.underlying9 (fun j hj => by
    have h2 := h j hj
    rw [add_plain]
    simp [h2])
  subst hn
  exact this
/-- a hexadecimal digit -/
def hexD (n : Nat) : UInt8 := UInt8.ofNat (if n < 10 then 48 + n else 87 + n)
def hexS (u : Int) : ByteArray := if u < 16 then ⟨#[hexD u.toNat]⟩ else ⟨#[hexD (u.toNat / 16), hexD (u.toNat % 16)]⟩
theorem ret_hex {a b : ByteArray} (h : a = b) : Ending.returned (.tuple #[.slice none 0 0, .string a]) = .returned (.tuple #[.slice none 0 0, .string b]) := by rw [h]
set_option maxHeartbeats 2000000 in
theorem bits_small (u : Int) (w : World) (h : dbAt w) (h0 : 0 ≤ u) (h1 : u < 16) : Calls Tryd.prog 46 #[.slice none 0 0, .int .u64 u, .int .i64 16, .bool false, .bool false] w fun e w' => e = .returned (.tuple #[.slice none 0 0, .string (hexS u)]) ∧ Below w.heap.size w w' := by
  have HD := Lib.hid h
  clear h
  have zv := zv68
  go_enter Tryd.func46, Tryd.ntmps46
  go_wp2_with fail
  refine (pow_any _).mono ?_
  rintro e w1 ⟨rfl, rfl⟩
  go_wp2_with fail
  refine (tz_any _ (HD.out.below (bAlloc _ _))).mono ?_
  rintro e w2 ⟨rfl, rfl⟩
  go_wp2_with fail
  refine wp_loop_rounds 1 ?_
  rw [rounds_succ]
  go_wp2_with fail
  rw [conv_bytes w _ 64 1 [hexD u.toNat] rfl (fun j hj => by
    obtain rfl : j = 0 := by simpa using hj
    have hx : u = 0 ∨ u = 1 ∨ u = 2 ∨ u = 3 ∨ u = 4 ∨ u = 5 ∨ u = 6 ∨ u = 7 ∨ u = 8 ∨ u = 9 ∨ u = 10 ∨ u = 11 ∨ u = 12 ∨ u = 13 ∨ u = 14 ∨ u = 15 := by omega
    rcases hx with rfl | rfl | rfl | rfl | rfl | rfl | rfl | rfl | rfl | rfl | rfl | rfl | rfl | rfl | rfl | rfl <;> rfl)]
  have HS := Lib.hid (show hexS u = ⟨#[hexD u.toNat]⟩ from if_pos h1)
  go_wp2_with fail
  go_ret2
  exact ⟨ret_hex HS.out.symm, bAlloc _ _⟩
theorem and_15 {u : Int} (h0 : 0 ≤ u) (h1 : u < 256) : bits BinOp.and IntKind.u64 u 15 = u % 16 := by
  have h : ∀ n : Fin 256, bits BinOp.and IntKind.u64 (n.val : Int) 15 = (n.val : Int) % 16 := by decide +kernel
  have := h ⟨u.toNat, by omega⟩
  simpa [Int.toNat_of_nonneg h0] using this
theorem hexS_big {u q d : Int} (h0 : 16 ≤ u) (hq : u / 16 = q) (hd : u % 16 = d) : hexS u = ⟨#[hexD q.toNat, hexD d.toNat]⟩ := by
  unfold hexS
  rw [if_neg (by omega), show u.toNat / 16 = q.toNat by omega, show u.toNat % 16 = d.toNat by omega]
theorem dig_16 {d : Int} (h0 : 0 ≤ d) (h1 : d < 16) : d = 0 ∨ d = 1 ∨ d = 2 ∨ d = 3 ∨ d = 4 ∨ d = 5 ∨ d = 6 ∨ d = 7 ∨ d = 8 ∨ d = 9 ∨ d = 10 ∨ d = 11 ∨ d = 12 ∨ d = 13 ∨ d = 14 ∨ d = 15 := by omega
set_option maxHeartbeats 2000000 in
theorem bits_big (u : Int) (w : World) (h : dbAt w) (h0 : 16 ≤ u) (h1 : u < 256) : Calls Tryd.prog 46 #[.slice none 0 0, .int .u64 u, .int .i64 16, .bool false, .bool false] w fun e w' => e = .returned (.tuple #[.slice none 0 0, .string (hexS u)]) ∧ Below w.heap.size w w' := by
  have HD := Lib.hid h
  clear h
  have zv := zv68
  have ha := and_15 (u := u) (by omega) h1
  obtain ⟨q, hq⟩ : ∃ q, u / 16 = q := ⟨_, rfl⟩
  obtain ⟨d, hd⟩ : ∃ d, u % 16 = d := ⟨_, rfl⟩
  have q0 : 0 ≤ q := by omega
  have q1 : q < 16 := by omega
  have d0 : 0 ≤ d := by omega
  have d1 : d < 16 := by omega
  have HS := Lib.hid (hexS_big h0 hq hd)
  rw [hd] at ha
  clear hd
  go_enter Tryd.func46, Tryd.ntmps46
  go_wp2_with fail
  refine (pow_any _).mono ?_
  rintro e w1 ⟨rfl, rfl⟩
  go_wp2_with fail
  refine (tz_any _ (HD.out.below (bAlloc _ _))).mono ?_
  rintro e w2 ⟨rfl, rfl⟩
  go_wp2_with fail
  refine wp_loop_rounds 2 ?_
  rw [rounds_succ]
  go_wp2_with fail
  rw [rounds_succ]
  go_wp2_with fail
  rw [conv_bytes w _ 63 2 [hexD q.toNat, hexD d.toNat] rfl (fun j hj => by
    have hj2 : j = 0 ∨ j = 1 := by have : j < 2 := hj; omega
    clear hq ha
    rcases hj2 with rfl | rfl
    · rcases dig_16 q0 q1 with rfl | rfl | rfl | rfl | rfl | rfl | rfl | rfl | rfl | rfl | rfl | rfl | rfl | rfl | rfl | rfl <;> rfl
    · rcases dig_16 d0 d1 with rfl | rfl | rfl | rfl | rfl | rfl | rfl | rfl | rfl | rfl | rfl | rfl | rfl | rfl | rfl | rfl <;> rfl)]
  go_wp2_with fail
  go_ret2
  exact ⟨ret_hex HS.out.symm, bAlloc _ _⟩
theorem bits_hex (u : Int) (w : World) (h : dbAt w) (h0 : 0 ≤ u) (h1 : u < 256) : Calls Tryd.prog 46 #[.slice none 0 0, .int .u64 u, .int .i64 16, .bool false, .bool false] w fun e w' => e = .returned (.tuple #[.slice none 0 0, .string (hexS u)]) ∧ Below w.heap.size w w' := by
  by_cases hu : u < 16
  · exact bits_small u w h h0 hu
  · exact bits_big u w h (by omega) h1
end Go.Proofs.YtdhibbphjnoikaaDoor
