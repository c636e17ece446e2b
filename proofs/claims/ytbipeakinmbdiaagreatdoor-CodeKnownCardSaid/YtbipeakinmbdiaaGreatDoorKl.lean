/-
  Walks: ParseUint of two bytes at base 16. Plain: two hexadecimal digits, as the reader of a name asks for them.
-/
import Derived.Test.YtbipeakinmbdiaaGreatDoorKk
namespace Go.Proofs.YtbipeakinmbdiaaGreatDoor
section
open Go.RowKit

/-- the value of a hexadecimal digit, in either case -/
def hexU (c : UInt8) : Option Nat := if 48 ≤ c.toNat ∧ c.toNat ≤ 57 then some (c.toNat - 48) else if 97 ≤ c.toNat ∧ c.toNat ≤ 102 then some (c.toNat - 87) else if 65 ≤ c.toNat ∧ c.toNat ≤ 70 then some (c.toNat - 55) else none
def hexF : List UInt8 → Nat → Option Nat
  | [], acc => some acc
  | c :: t, acc => (hexU c).bind fun d => hexF t (16 * acc + d)
/-- how ParseUint sees a byte -/
inductive HexC (c : UInt8) : Prop
  | dig (h1 : 48 ≤ c.toNat) (h2 : c.toNat ≤ 57) (h : hexU c = some (c.toNat - 48))
  | let_ (m : Nat) (h : bits .or .u8 (c.toNat : Int) 32 = (m : Int)) (h0 : ¬ (48 ≤ c.toNat ∧ c.toNat ≤ 57)) (h1 : 97 ≤ m) (h2 : m ≤ 102) (hu : hexU c = some (m - 87))
  | far (m : Nat) (h : bits .or .u8 (c.toNat : Int) 32 = (m : Int)) (h0 : ¬ (48 ≤ c.toNat ∧ c.toNat ≤ 57)) (h1 : 103 ≤ m) (h2 : m ≤ 122) (hu : hexU c = none)
  | out (m : Nat) (h : bits .or .u8 (c.toNat : Int) 32 = (m : Int)) (h0 : ¬ (48 ≤ c.toNat ∧ c.toNat ≤ 57)) (h1 : m < 97 ∨ 122 < m) (hu : hexU c = none)
set_option maxRecDepth 100000 in
theorem low_or : ∀ n : Fin 256, ∃ m : Fin 256, bits .or .u8 (n.1 : Int) 32 = (m.1 : Int) ∧ ((65 ≤ n.1 ∧ n.1 ≤ 90 → m.1 = n.1 + 32) ∧ (97 ≤ n.1 ∧ n.1 ≤ 122 → m.1 = n.1)) ∧ (97 ≤ m.1 ∧ m.1 ≤ 122 → (65 ≤ n.1 ∧ n.1 ≤ 90) ∨ (97 ≤ n.1 ∧ n.1 ≤ 122)) := by decide +kernel
theorem hex_class (c : UInt8) : HexC c := by
  by_cases hd : 48 ≤ c.toNat ∧ c.toNat ≤ 57
  · exact .dig hd.1 hd.2 (by unfold hexU; rw [if_pos hd])
  · obtain ⟨⟨m, hm⟩, h1, ⟨h2, h3⟩, h4⟩ := low_or ⟨c.toNat, c.toNat_lt⟩
    simp only at h1 h2 h3 h4
    by_cases hl : 97 ≤ m ∧ m ≤ 122
    · have hc := h4 hl
      by_cases hx : m ≤ 102
      · refine .let_ m h1 hd hl.1 hx ?_
        unfold hexU
        rw [if_neg hd]
        by_cases h97 : 97 ≤ c.toNat ∧ c.toNat ≤ 102
        · rw [if_pos h97]; have := h3 (by omega); congr 1; omega
        · rw [if_neg h97]
          rcases hc with hc | hc
          · have := h2 hc
            rw [if_pos (by omega)]
            congr 1
            omega
          · have := h3 hc; omega
      · refine .far m h1 hd (by omega) hl.2 ?_
        unfold hexU
        rcases hc with hc | hc
        · have := h2 hc; rw [if_neg hd, if_neg (by omega), if_neg (by omega)]
        · have := h3 hc; rw [if_neg hd, if_neg (by omega), if_neg (by omega)]
    · refine .out m h1 hd (by omega) ?_
      unfold hexU
      by_cases h65 : 65 ≤ c.toNat ∧ c.toNat ≤ 90
      · have := h2 h65; omega
      · by_cases h97 : 97 ≤ c.toNat ∧ c.toNat ≤ 122
        · have := h3 h97; omega
        · rw [if_neg hd, if_neg (by omega), if_neg (by omega)]
theorem hexU_lt {c : UInt8} {d : Nat} (h : hexU c = some d) : d < 16 := by
  unfold hexU at h
  split at h
  · injection h; omega
  · split at h
    · injection h; omega
    · split at h
      · injection h; omega
      · cases h
/-- what the inner ParseUint returns -/
def PuR (o : Option Nat) (e : Ending) : Prop := match o with
  | some v => e = .returned (.tuple #[.int .u64 v, .nilIface])
  | none => e = .returned (.tuple #[.int .u64 0, .iface 167 (.int .i64 2)])
set_option maxRecDepth 100000 in
set_option maxHeartbeats 2000000 in
theorem pu144_any (a b : UInt8) (w : World) : Calls Tryz.prog 144 #[.string (S [a, b]), .int .i64 16, .int .i64 8] w fun e w' => PuR (hexF [a, b] 0) e ∧ Below w.heap.size w w' := by
  have hne : ((S [a, b]).toList == []) = false := by rw [ByteArray.toList_eq, S_list]; rfl
  have hz : (S [a, b]).size = 2 := rfl
  have hcv := Lib.run_convert_string_bytes (P := Tryz.prog) (u := .string) w 9 45 5 (S [a, b]) (by kernel_rfl) (by kernel_rfl) (by kernel_rfl)
  rw [hz] at hcv
  obtain ⟨w1, hw1⟩ : ∃ X, Hid (X = Lib.bytesWorld w 5 (S [a, b])) := ⟨_, rfl⟩
  have HB1 := Lib.hid (show Below w.heap.size w w1 by rw [hw1.out]; exact ⟨rfl, rfl, rfl, by rw [Lib.bytesWorld_size]; omega, fun j hj => Lib.bytesWorld_at_old w 5 _ j hj⟩)
  have HC := Lib.hid (show ∀ j, j < 2 → w1.cell? ⟨w.heap.size, j, none⟩ = some (.int .u8 ([a, b].getD j 0).toNat) by
    intro j hj
    rw [hw1.out, Lib.bytesWorld_cell w 5 (S [a, b]) j (by omega), S_list])
  have HSZ := Lib.hid (show w.heap.size < w1.heap.size by rw [hw1.out, Lib.bytesWorld_size]; omega)
  rw [← hw1.out] at hcv
  clear hw1
  go_enter Tryz.func144, Tryz.ntmps144
  go_wp2_with fail
  clear hcv hne
  go_loopw [12, 13, 101] (fun x v i wr => ∃ j u : Nat, x = .bool false ∧ v = .int .u64 u ∧ i = .int .i64 j ∧ j ≤ 2 ∧ Hid (u < 16 ^ j ∧ u ≤ 255) ∧ Hid (hexF [a, b] 0 = hexF ([a, b].drop j) u) ∧ wr = w1) (fun _ _ i _ => 2 - (intOf i).toNat)
  case atStart => exact ⟨0, 0, rfl, rfl, rfl, by omega, Lib.hid (by omega), Lib.hid rfl, rfl⟩
  case round =>
    obtain ⟨j, u, rfl, rfl, rfl, hj, HU, HF, rfl⟩ := hrel
    by_cases hlt : j < 2
    · have hlj : decide ((j : Int) < 2) = true := by simp; omega
      have hji : IntKind.wrap .i64 ((j : Int) + 1) = (j : Int) + 1 := wrapI (by omega)
      have hcell := HC.out j hlt
      have hbz := HSZ.out
      obtain ⟨c, hc⟩ : ∃ c, Hid (c = [a, b].getD j 0) := ⟨_, rfl⟩
      have HDR := Lib.hid (show hexF ([a, b].drop j) u = (hexU c).bind fun d => hexF ([a, b].drop (j + 1)) (16 * u + d) by
        rw [hc.out]
        match j, hlt with
        | 0, _ => rfl
        | 1, _ => rfl)
      rw [← hc.out] at hcell
      have hu16 : u ≤ 15 := by
        have := HU.out.1
        match j, hlt with
        | 0, _ => omega
        | 1, _ => omega
      have huc : decide (1152921504606846976 ≤ (u : Int)) = false := by simp; omega
      have hmul : IntKind.wrap .u64 ((u : Int) * 16) = (u : Int) * 16 := by rw [IntKind.wrap_u64]; omega
      have HPW := Lib.hid (show ∀ d, d < 16 → (16 * u + d < 16 ^ (j + 1) ∧ 16 * u + d ≤ 255) from fun d hd => ⟨by rw [Nat.pow_succ]; have := HU.out.1; omega, by omega⟩)
      clear hc
      rcases hex_class c with ⟨h1, h2, h⟩ | ⟨m, hm, h0, h1, h2, h⟩ | ⟨m, hm, h0, h1, h2, h⟩ | ⟨m, hm, h0, h1, h⟩
      · have HX := Lib.hid (show hexF [a, b] 0 = hexF ([a, b].drop (j + 1)) (16 * u + (c.toNat - 48)) by rw [HF.out, HDR.out, h]; rfl)
        have HD := Lib.hid (show c.toNat - 48 < 16 by omega)
        obtain ⟨d, hd⟩ : ∃ d, Hid (d = c.toNat - 48) := ⟨_, rfl⟩
        have hn : (c.toNat : Int) = 48 + (d : Int) := by rw [hd.out]; omega
        rw [hn] at hcell
        have hd9 : d ≤ 9 := by rw [hd.out]; omega
        rw [← hd.out] at HX HD
        clear h1 h2 h hn hd
        have t1 : decide (48 ≤ 48 + (d : Int)) = true := by simp; omega
        have t2 : decide (48 + (d : Int) ≤ 57) = true := by simp; omega
        have t3 : IntKind.wrap .u8 (48 + (d : Int) - 48) = (d : Int) := by rw [IntKind.wrap_u8]; omega
        have t4 : decide (16 ≤ (d : Int)) = false := by have := HD.out; simp; omega
        have hadd : IntKind.wrap .u64 ((u : Int) * 16 + (d : Int)) = ((16 * u + d : Nat) : Int) := by rw [IntKind.wrap_u64]; have := HD.out; omega
        have hlt1 : decide (((16 * u + d : Nat) : Int) < (u : Int) * 16) = false := by simp; omega
        have hlt2 : decide (255 < ((16 * u + d : Nat) : Int)) = false := by have := HD.out; simp; omega
        go_wp2_with fail
        exact ⟨⟨j + 1, 16 * u + d, rfl, by go_num, by go_num, by omega, Lib.hid (HPW.out d HD.out), HX, by trivial⟩, by simp [intOf]; omega⟩
      · obtain ⟨n, hn⟩ : ∃ n : Int, Hid (n = c.toNat) := ⟨_, rfl⟩
        obtain ⟨M, hM⟩ : ∃ M : Int, Hid (M = m) := ⟨_, rfl⟩
        rw [← hn.out, ← hM.out] at hm
        rw [← hn.out] at hcell
        obtain ⟨b1, hb1⟩ : ∃ b, decide (48 ≤ n) = b := ⟨_, rfl⟩
        obtain ⟨b2, hb2⟩ : ∃ b, decide (n ≤ 57) = b := ⟨_, rfl⟩
        obtain ⟨b5, hb5⟩ : ∃ b, (n == 95) = b := ⟨_, rfl⟩
        have hbb : (b1 && b2) = false := by
          rw [← hb1, ← hb2, hn.out, Bool.and_eq_false_iff, decide_eq_false_iff_not, decide_eq_false_iff_not]
          omega
        have HX := Lib.hid (show hexF [a, b] 0 = hexF ([a, b].drop (j + 1)) (16 * u + (m - 87)) by rw [HF.out, HDR.out, h]; rfl)
        have HD := Lib.hid (show m - 87 < 16 by omega)
        obtain ⟨d, hd⟩ : ∃ d, Hid (d = m - 87) := ⟨_, rfl⟩
        have t1 : decide (97 ≤ M) = true := by rw [hM.out]; simp; omega
        have t2 : decide (M ≤ 122) = true := by rw [hM.out]; simp; omega
        have t3 : IntKind.wrap .u8 (M - 97) = M - 97 := by rw [IntKind.wrap_u8, hM.out]; omega
        have t4 : IntKind.wrap .u8 (M - 97 + 10) = (d : Int) := by rw [IntKind.wrap_u8, hM.out, hd.out]; omega
        have t5 : decide (16 ≤ (d : Int)) = false := by rw [hd.out]; simp; omega
        rw [← hd.out] at HX HD
        clear h0 h1 h2 h hn hM hd
        have hadd : IntKind.wrap .u64 ((u : Int) * 16 + (d : Int)) = ((16 * u + d : Nat) : Int) := by rw [IntKind.wrap_u64]; have := HD.out; omega
        have hlt1 : decide (((16 * u + d : Nat) : Int) < (u : Int) * 16) = false := by simp; omega
        have hlt2 : decide (255 < ((16 * u + d : Nat) : Int)) = false := by have := HD.out; simp; omega
        have hlt3 : decide (16 * (u : Int) + (d : Int) < (u : Int) * 16) = false := by simp; omega
        have hlt4 : decide (255 < 16 * (u : Int) + (d : Int)) = false := by have := HD.out; simp; omega
        have hwd : IntKind.wrap .u64 (d : Int) = (d : Int) := by rw [IntKind.wrap_u64]; have := HD.out; omega
        have hb9 : b1 = false ∨ (b1 = true ∧ b2 = false) := by cases b1 <;> cases b2 <;> simp at hbb ⊢
        clear hbb
        cases b5 <;> rcases hb9 with rfl | ⟨rfl, rfl⟩
        all_goals go_wp2_with (first | (go_at_call 161; refine (Tryz.internal_strconv_lower _ _).mono ?_; rintro e w' ⟨rfl, rfl⟩))
        all_goals exact ⟨⟨j + 1, 16 * u + d, rfl, by go_num, by go_num, by omega, Lib.hid (HPW.out d HD.out), HX, by trivial⟩, by simp [intOf]; omega⟩
      · obtain ⟨n, hn⟩ : ∃ n : Int, Hid (n = c.toNat) := ⟨_, rfl⟩
        obtain ⟨M, hM⟩ : ∃ M : Int, Hid (M = m) := ⟨_, rfl⟩
        rw [← hn.out, ← hM.out] at hm
        rw [← hn.out] at hcell
        obtain ⟨b1, hb1⟩ : ∃ b, decide (48 ≤ n) = b := ⟨_, rfl⟩
        obtain ⟨b2, hb2⟩ : ∃ b, decide (n ≤ 57) = b := ⟨_, rfl⟩
        obtain ⟨b5, hb5⟩ : ∃ b, (n == 95) = b := ⟨_, rfl⟩
        have hbb : (b1 && b2) = false := by
          rw [← hb1, ← hb2, hn.out, Bool.and_eq_false_iff, decide_eq_false_iff_not, decide_eq_false_iff_not]
          omega
        have HX := Lib.hid (show hexF [a, b] 0 = none by rw [HF.out, HDR.out, h]; rfl)
        obtain ⟨d, hd⟩ : ∃ d, Hid (d = m - 87) := ⟨_, rfl⟩
        have t1 : decide (97 ≤ M) = true := by rw [hM.out]; simp; omega
        have t2 : decide (M ≤ 122) = true := by rw [hM.out]; simp; omega
        have t3 : IntKind.wrap .u8 (M - 97) = M - 97 := by rw [IntKind.wrap_u8, hM.out]; omega
        have t4 : IntKind.wrap .u8 (M - 97 + 10) = (d : Int) := by rw [IntKind.wrap_u8, hM.out, hd.out]; omega
        have t5 : decide (16 ≤ (d : Int)) = true := by rw [hd.out]; simp; omega
        clear h0 h1 h2 h hn hM hd
        have hb9 : b1 = false ∨ (b1 = true ∧ b2 = false) := by cases b1 <;> cases b2 <;> simp at hbb ⊢
        clear hbb
        cases b5 <;> rcases hb9 with rfl | ⟨rfl, rfl⟩
        all_goals go_wp2_with (first | (go_at_call 161; refine (Tryz.internal_strconv_lower _ _).mono ?_; rintro e w' ⟨rfl, rfl⟩))
        all_goals go_ret2
        all_goals exact ⟨by rw [HX.out]; rfl, HB1.out⟩
      · obtain ⟨n, hn⟩ : ∃ n : Int, Hid (n = c.toNat) := ⟨_, rfl⟩
        obtain ⟨M, hM⟩ : ∃ M : Int, Hid (M = m) := ⟨_, rfl⟩
        rw [← hn.out, ← hM.out] at hm
        rw [← hn.out] at hcell
        obtain ⟨b1, hb1⟩ : ∃ b, decide (48 ≤ n) = b := ⟨_, rfl⟩
        obtain ⟨b2, hb2⟩ : ∃ b, decide (n ≤ 57) = b := ⟨_, rfl⟩
        obtain ⟨b5, hb5⟩ : ∃ b, (n == 95) = b := ⟨_, rfl⟩
        have hbb : (b1 && b2) = false := by
          rw [← hb1, ← hb2, hn.out, Bool.and_eq_false_iff, decide_eq_false_iff_not, decide_eq_false_iff_not]
          omega
        have HX := Lib.hid (show hexF [a, b] 0 = none by rw [HF.out, HDR.out, h]; rfl)
        obtain ⟨b3, hb3⟩ : ∃ b, decide (97 ≤ M) = b := ⟨_, rfl⟩
        obtain ⟨b4, hb4⟩ : ∃ b, decide (M ≤ 122) = b := ⟨_, rfl⟩
        have hbd : (b3 && b4) = false := by
          rw [← hb3, ← hb4, hM.out, Bool.and_eq_false_iff, decide_eq_false_iff_not, decide_eq_false_iff_not]
          omega
        clear h0 h1 h hn hM
        have hb9 : b1 = false ∨ (b1 = true ∧ b2 = false) := by cases b1 <;> cases b2 <;> simp at hbb ⊢
        have hb8 : b3 = false ∨ (b3 = true ∧ b4 = false) := by cases b3 <;> cases b4 <;> simp at hbd ⊢
        clear hbb hbd
        cases b5 <;> rcases hb9 with rfl | ⟨rfl, rfl⟩ <;> rcases hb8 with rfl | ⟨rfl, rfl⟩
        all_goals go_wp2_with (first | (go_at_call 161; refine (Tryz.internal_strconv_lower _ _).mono ?_; rintro e w' ⟨rfl, rfl⟩))
        all_goals go_ret2
        all_goals exact ⟨by rw [HX.out]; rfl, HB1.out⟩
    · have hlj : decide ((j : Int) < 2) = false := by simp; omega
      have hj2 : j = 2 := by omega
      subst hj2
      have HE := Lib.hid (show hexF [a, b] 0 = some u from HF.out)
      go_wp2_with fail
      go_ret2
      exact ⟨by rw [HE.out]; rfl, HB1.out⟩
end
section
open Go.RowKit

theorem hexF_two (a b : UInt8) : hexF [a, b] 0 = (hexU a).bind fun x => (hexU b).map fun y => 16 * x + y := by
  unfold hexF
  cases hexU a with
  | none => rfl
  | some x =>
    simp only [Option.bind_some]
    unfold hexF
    cases hexU b with
    | none => rfl
    | some y => simp [hexF]
theorem hexV_U {c : UInt8} {n : Nat} (h : hexV c = some n) : hexU c = some n := by
  unfold hexV at h
  unfold hexU
  split at h
  · rename_i h1; rw [if_pos h1]; exact h
  · rename_i h1
    split at h
    · rename_i h2; rw [if_neg h1, if_pos h2]; exact h
    · cases h
theorem hexU_hi {c : UInt8} (h : ¬ c.toNat < 128) : hexU c = none := by
  unfold hexU
  rw [if_neg (by omega), if_neg (by omega), if_neg (by omega)]
theorem hexV_hi {c : UInt8} (h : ¬ c.toNat < 128) : hexV c = none := by
  unfold hexV
  rw [if_neg (by omega), if_neg (by omega)]
theorem low_two {a b : UInt8} (ha : a.toNat < 128) (hb : b.toNat < 128) : Lib.toLowerD [a, b] = Lib.toLowerA [a, b] := Lib.toLowerD_ascii [a, b] (by intro x hx; simp at hx; rcases hx with rfl | rfl <;> assumption)
theorem low_hex : ∀ c : Fin 128, (∀ n ∈ hexV (UInt8.ofNat c.1), Lib.lowerB (UInt8.ofNat c.1) = UInt8.ofNat c.1) ∧ (Lib.lowerB (UInt8.ofNat c.1) = UInt8.ofNat c.1 → hexU (UInt8.ofNat c.1) = hexV (UInt8.ofNat c.1)) := by decide +kernel
theorem low_hexV {c : UInt8} {n : Nat} (hc : c.toNat < 128) (h : hexV c = some n) : Lib.lowerB c = c := by
  have k := (low_hex ⟨c.toNat, hc⟩).1 n
  simp only [UInt8.ofNat_toNat] at k
  exact k h
theorem low_hexU {c : UInt8} (hc : c.toNat < 128) (h : Lib.lowerB c = c) : hexU c = hexV c := by
  have k := (low_hex ⟨c.toNat, hc⟩).2
  simp only [UInt8.ofNat_toNat] at k
  exact k h
/-- two digits that are lower case -/
theorem hex_low {a b : UInt8} (h : Lib.toLowerD [a, b] = [a, b]) : hex2 a b = (hexF [a, b] 0).map UInt8.ofNat := by
  rw [hexF_two]
  unfold hex2
  by_cases ha : a.toNat < 128
  · by_cases hb : b.toNat < 128
    · rw [low_two ha hb] at h
      have h1 : Lib.lowerB a = a := by injection h
      have h2 : Lib.lowerB b = b := by injection h with _ h; injection h
      rw [low_hexU ha h1, low_hexU hb h2]
      cases hexV a with
      | none => rfl
      | some x => cases hexV b <;> rfl
    · rw [hexU_hi hb, hexV_hi hb]
      cases hexV a <;> cases hexU a <;> rfl
  · rw [hexU_hi ha, hexV_hi ha]
    rfl
theorem hex_high {a b : UInt8} (h : Lib.toLowerD [a, b] ≠ [a, b]) : hex2 a b = none := by
  unfold hex2
  cases ha : hexV a with
  | none => rfl
  | some x =>
    cases hb : hexV b with
    | none => rfl
    | some y =>
      exfalso
      have h1 : a.toNat < 128 := by
        by_cases e : a.toNat < 128
        · exact e
        · rw [hexV_hi e] at ha; cases ha
      have h2 : b.toNat < 128 := by
        by_cases e : b.toNat < 128
        · exact e
        · rw [hexV_hi e] at hb; cases hb
      refine h ?_
      rw [low_two h1 h2]
      show [Lib.lowerB a, Lib.lowerB b] = [a, b]
      rw [low_hexV h1 ha, low_hexV h2 hb]
theorem body_lit {c : UInt8} {t : List UInt8} (h1 : c ≠ 34) (h2 : plainB c = false) (h3 : litP [92, 120] (c :: t) = none) : bodyP (c :: t) = none := by
  unfold bodyP
  rw [if_neg h1, if_neg (by rw [h2]; simp)]
  split
  · rename_i a b u
    rw [show (92 :: 120 :: a :: b :: u : List UInt8) = [92, 120] ++ (a :: b :: u) from rfl, litP_app] at h3
    cases h3
  · rfl
theorem body_short {r : List UInt8} (h : r.length < 2) : bodyP (92 :: 120 :: r) = none := by
  match r, h with
  | [], _ => rfl
  | [a], _ => rfl
  | _ :: _ :: _, h => simp at h; omega
/-- a byte that is written by its digits -/
theorem body_hex (a b : UInt8) (u : List UInt8) : bodyP (92 :: 120 :: a :: b :: u) = if Lib.toLowerD [a, b] = [a, b] then
    (match hexF [a, b] 0 with | some v => if plainB (UInt8.ofNat v) then none else (bodyP u).map fun p => (UInt8.ofNat v :: p.1, p.2) | none => none) else none := by
  rw [body_esc]
  by_cases h : Lib.toLowerD [a, b] = [a, b]
  · rw [if_pos h, hex_low h]
    cases hexF [a, b] 0 <;> rfl
  · rw [if_neg h, hex_high h]
    rfl
theorem hexF_lt {a b : UInt8} {v : Nat} (h : hexF [a, b] 0 = some v) : v < 256 := by
  rw [hexF_two] at h
  cases ha : hexU a with
  | none => rw [ha] at h; cases h
  | some x =>
    cases hb : hexU b with
    | none => rw [ha, hb] at h; cases h
    | some y =>
      rw [ha, hb] at h
      injection h with h
      have h1 := hexU_lt ha
      have h2 := hexU_lt hb
      have h3 : 16 * x + y = v := h
      omega
end
end Go.Proofs.YtbipeakinmbdiaaGreatDoor
