/-
  The walks of Parse, both.
-/
import Derived.Test.YtcnbaioecoaopaaDoorPl
import Derived.Lib.IndexBytes
import Derived.WalkSpells
namespace Go.Proofs.YtcnbaioecoaopaaDoor
open Go.RowKit
theorem isNeg_at {s : ByteArray} (h : isNeg s = true) : ∃ h0 : 0 < s.size, s[0] = 45 := by
  unfold isNeg at h
  obtain ⟨d⟩ := s
  simp only [beq_iff_eq] at h
  rw [List.head?_eq_getElem?] at h
  obtain ⟨hl, he⟩ := List.getElem?_eq_some_iff.1 h
  refine ⟨by rw [Array.length_toList] at hl; exact hl, ?_⟩
  rw [Array.getElem_toList] at he
  exact he
theorem byte_at (t : ByteArray) (k : Nat) (_hk : k < t.size) (h' : k < t.data.toList.length) : t.data.toList[k] = t[k] := by
  rw [Array.getElem_toList]; rfl
theorem isNeg_no {s : ByteArray} (h : isNeg s = false) (h0 : 0 < s.size) : ¬ s[0] = 45 := by
  intro e
  have h' : 0 < s.data.toList.length := by rw [Array.length_toList]; exact h0
  have e2 := byte_at s 0 h0 h'
  have : isNeg s = true := by
    unfold isNeg
    rw [List.head?_eq_getElem?, List.getElem?_eq_getElem h', e2, e]; rfl
  rw [this] at h; cases h
theorem size_len (t : ByteArray) : t.data.toList.length = t.size := by rw [Array.length_toList]; rfl
theorem u8_eq {c : UInt8} : ((c.toNat : Int) == 45) = (c == 45) := by
  rw [Bool.eq_iff_iff]
  simp only [beq_iff_eq]
  constructor
  · intro h
    have : c.toNat = (45 : UInt8).toNat := by show c.toNat = 45; omega
    exact UInt8.toNat_inj.1 this
  · rintro rfl; rfl
theorem empty_of {t : ByteArray} (h : t.size = 0) : t.toList.isEmpty = true := by
  rw [ByteArray.toList_eq]
  have := size_len t
  rw [List.isEmpty_iff]
  exact List.eq_nil_of_length_eq_zero (by omega)
theorem nempty_of {t : ByteArray} (h : 0 < t.size) : t.toList.isEmpty = false := by
  rw [ByteArray.toList_eq]
  have := size_len t
  cases e : t.data.toList
  · rw [e] at this; simp at this; omega
  · rfl
theorem test_eq {x V b d : Int} (hx : x = -V) (_h0 : 0 ≤ V) (_h1 : V ≤ 9223372036854775808) (hb : 2 ≤ b) (_hb2 : b ≤ 36) (hd : 0 ≤ d) (hd2 : d ≤ 36) :
    decide (x < (-9223372036854775808 + d).tdiv b) = decide (9223372036854775808 < V * b + d) := by
  rw [hx]
  have := test_over (V := V) (b := b) (d := d) hb hd hd2
  by_cases h : 9223372036854775808 < V * b + d
  · simp [h, this.2 h]
  · have h2 : ¬ -V < (-9223372036854775808 + d).tdiv b := fun h3 => h (this.1 h3)
    simp [h, h2]
set_option maxHeartbeats 1000000 in
theorem Parse_neg (s : ByteArray) (b : Int) (hs : s.size ≤ 9223372036854775807) (hb : ¬ (b < 2 ∨ 36 < b)) (hn : isNeg s = true) (w : World) : Calls Tryd.prog 20 #[.string s, .int .i64 b] w fun e w' => e = .returned (pair (prs s b)) ∧ w = w' := by
  have b1 : 2 ≤ b := by omega
  have b2 : b ≤ 36 := by omega
  have b3 : decide (b < 2) = false := by simpa using b1
  have b4 : decide (36 < b) = false := by simpa using b2
  have HB := Lib.hid hb
  have HN := Lib.hid hn
  obtain ⟨h0, h45⟩ := isNeg_at hn
  clear hn hb
  have ht : (((s[0]).toNat : Int) == 45) = true := by rw [h45]; rfl
  have HT := Lib.hid h45
  clear h45
  have hz1 : decide (0 < s.size) = true := by simpa using h0
  have hD : (s.extract 1 s.size).data.toList = digs s := by unfold digs; rw [HN.out, if_pos rfl, Lib.extract_to_end]
  have hS : (s.extract 1 s.size).size = s.size - 1 := by rw [← size_len, Lib.extract_to_end, List.length_drop, size_len]
  have HD := Lib.hid hD
  have HS := Lib.hid hS
  by_cases h1 : s.size = 1
  · have he := empty_of (t := s.extract 1 s.size) (by omega)
    have HE := Lib.hid (prs_none (s := s) HB.out (List.eq_nil_of_length_eq_zero (by rw [← hD, size_len]; omega)))
    clear hD hS h1
    go_enter Tryd.func20, Tryd.ntmps20
    go_wp2_with fail
    go_ret2
    exact ⟨ret_pair rfl HE.out, rfl⟩
  have he := nempty_of (t := s.extract 1 s.size) (by omega)
  have hts : (s.extract 1 s.size).size ≤ 9223372036854775807 := by omega
  have htp : 0 < (s.extract 1 s.size).size := by omega
  clear hD hS h1
  go_enter Tryd.func20, Tryd.ntmps20
  go_wp2_with fail
  rw [← HS.out]
  clear HS
  generalize s.extract 1 s.size = t at *
  go_loop [31, 4] (fun i n => n = .int .i64 0 ∧ ∃ k : Nat, k ≤ t.size ∧ i = .int .i64 (k : Int) ∧ Hid (∀ j (hj : j < (digs s).length), j < k → dv (digs s)[j] < b)) (fun i _ => t.size - (intOf i).toNat)
  case atStart => exact ⟨rfl, 0, by omega, rfl, Lib.hid fun _ _ h => absurd h (by omega)⟩
  case round =>
    obtain ⟨rfl, k, hk, rfl, HP⟩ := hrel
    by_cases hlt : k < t.size
    · have hlk : k < (digs s).length := by rw [← HD.out, size_len]; exact hlt
      have hby : (digs s)[k] = t[k] := by rw [← byte_at t k hlt (by rw [size_len]; exact hlt)]; simp only [HD.out]
      have hc : t[k].toNat < 256 := UInt8.toNat_lt _
      have HY := Lib.hid hby
      clear hby
      go_wp2_with fail
      refine (digit_any _ (by omega) (by omega) _).mono ?_
      rintro e w1 ⟨rfl, rfl⟩
      have HV := Lib.hid (show dgt 36 (t[k].toNat : Int) = dv (digs s)[k] by rw [HY.out]; rfl)
      generalize dgt 36 (t[k].toNat : Int) = d at *
      by_cases hd : d < b
      · have hd2 : decide (b ≤ d) = false := by simpa using hd
        have HD2 := Lib.hid hd
        clear hd
        go_wp2_with fail
        exact ⟨⟨rfl, k + 1, by omega, by go_num, Lib.hid fun j hj hjk => by
          rcases Nat.lt_or_ge j k with h | h
          · exact HP.out j hj h
          · obtain rfl : j = k := by omega
            rw [← HV.out]; exact HD2.out⟩, by simp [intOf]; omega⟩
      · have hd2 : decide (b ≤ d) = true := by simp; omega
        have HE := Lib.hid (prs_bad HB.out hlk (by rw [← HV.out]; exact hd))
        clear hd
        go_wp2_with fail
        go_ret2
        exact ⟨ret_pair rfl HE.out, rfl⟩
    · have HA := Lib.hid (show ∀ j (hj : j < (digs s).length), dv (digs s)[j] < b from fun j hj => HP.out j hj (by rw [← HD.out, size_len] at hj; omega))
      have hdn := size_len t
      rw [HD.out] at hdn
      have HDN := Lib.hid hdn
      have HNE := Lib.hid (show digs s ≠ [] from fun e => by rw [e] at hdn; simp at hdn; omega)
      clear HP hdn hk
      go_wp2_with fail
      go_loop [43, 4] (fun i n => ∃ k : Nat, k ≤ t.size ∧ i = .int .i64 (k : Int) ∧ ∃ x : Int, n = .int .i64 x ∧ -9223372036854775808 ≤ x ∧ x ≤ 0 ∧ Hid (x = -vals b ((digs s).take k))) (fun i _ => t.size - (intOf i).toNat)
      case atStart => exact ⟨0, by omega, rfl, 0, rfl, by omega, by omega, Lib.hid rfl⟩
      case round =>
        clear hlt
        obtain ⟨k, hk, rfl, x, rfl, hx1, hx2, HX⟩ := hrel
        by_cases hlt : k < t.size
        · have hlk : k < (digs s).length := by rw [HDN.out]; exact hlt
          have hby : (digs s)[k] = t[k] := by rw [← byte_at t k hlt (by rw [size_len]; exact hlt)]; simp only [HD.out]
          have hc : t[k].toNat < 256 := UInt8.toNat_lt _
          have hnx := vals_next (b := b) hlk
          have HY := Lib.hid hby
          have HNX := Lib.hid hnx
          clear hby hnx
          go_wp2_with fail
          refine (digit_any _ (by omega) (by omega) _).mono ?_
          rintro e w1 ⟨rfl, rfl⟩
          have HV := Lib.hid (show dgt 36 (t[k].toNat : Int) = dv (digs s)[k] by rw [HY.out]; rfl)
          have hbd := dgt_bd (t[k].toNat : Int)
          have HDB := Lib.hid (show dgt 36 (t[k].toNat : Int) < b by rw [HV.out]; exact HA.out k hlk)
          generalize dgt 36 (t[k].toNat : Int) = d at *
          obtain ⟨d0, d1⟩ := hbd
          have HL := Lib.hid (show k + 1 ≤ (digs s).length by omega)
          generalize hV : vals b ((digs s).take k) = V at *
          have hxV := HX.out
          have hte := test_eq hxV (by omega) (by omega) b1 b2 d0 d1
          have HVV := Lib.hid hV
          clear hV
          have hmul : x * b = -(V * b) := by rw [hxV, Int.neg_mul]
          by_cases ho : 9223372036854775808 < V * b + d
          · have HE := Lib.hid (prs_over HB.out HNE.out HA.out (k := k + 1) HL.out (by rw [HNX.out, ← HV.out]; exact ho))
            rw [show decide (9223372036854775808 < V * b + d) = true by simpa using ho] at hte
            clear hxV ho hmul
            go_wp2_with fail
            go_ret2
            exact ⟨ret_pair rfl HE.out, rfl⟩
          · rw [show decide (9223372036854775808 < V * b + d) = false by simpa using ho] at hte
            have hvb : 0 ≤ V * b := Int.mul_nonneg (by omega) (by omega)
            have hw1 : wrap64 (x * b) = x * b := wrap_in (by unfold inR; omega)
            have hw2 : wrap64 (wrap64 (x * b) - d) = x * b - d := by rw [hw1]; exact wrap_in (by unfold inR; omega)
            have HR := Lib.hid (show -9223372036854775808 ≤ wrap64 (wrap64 (x * b) - d) ∧ wrap64 (wrap64 (x * b) - d) ≤ 0 ∧ wrap64 (wrap64 (x * b) - d) = -(V * b + d) by omega)
            clear hxV ho hmul hvb hw1 hw2
            go_wp2_with fail
            exact ⟨⟨k + 1, by omega, by go_num, _, rfl, HR.out.1, HR.out.2.1, Lib.hid (by rw [HNX.out, ← HV.out]; exact HR.out.2.2)⟩, by simp [intOf]; omega⟩
        · have hX := HX.out
          rw [List.take_of_length_le (by rw [HDN.out]; omega)] at hX
          have HX2 := Lib.hid hX
          clear hX HX
          have HE := Lib.hid (prs_neg HB.out HNE.out HA.out HN.out (by have := HX2.out; omega))
          go_wp2_with fail
          go_ret2
          exact ⟨ret_pair (by rw [HX2.out]) HE.out, rfl⟩
set_option maxHeartbeats 1000000 in
theorem Parse_pos (s : ByteArray) (b : Int) (hs : s.size ≤ 9223372036854775807) (hb : ¬ (b < 2 ∨ 36 < b)) (hn : isNeg s = false) (w : World) : Calls Tryd.prog 20 #[.string s, .int .i64 b] w fun e w' => e = .returned (pair (prs s b)) ∧ w = w' := by
  have b1 : 2 ≤ b := by omega
  have b2 : b ≤ 36 := by omega
  have b3 : decide (b < 2) = false := by simpa using b1
  have b4 : decide (36 < b) = false := by simpa using b2
  have HB := Lib.hid hb
  have HN := Lib.hid hn
  have hD : s.data.toList = digs s := by unfold digs; rw [hn]; rfl
  have HD := Lib.hid hD
  by_cases h1 : s.size = 0
  · have he := empty_of h1
    have HE := Lib.hid (prs_none hb (List.eq_nil_of_length_eq_zero (by rw [← hD, size_len]; omega)))
    have h2 : decide (0 < s.size) = false := decide_eq_false (by omega)
    clear hD h1 hn hb
    go_enter Tryd.func20, Tryd.ntmps20
    go_wp2_with fail
    go_ret2
    exact ⟨ret_pair rfl HE.out, rfl⟩
  have htp : 0 < s.size := by omega
  have he := nempty_of htp
  have hts := hs
  have ht : (((s[0]).toNat : Int) == 45) = false := by rw [u8_eq]; simpa using isNeg_no hn htp
  have hz1 : decide (0 < s.size) = true := by simpa using htp
  obtain ⟨t, rfl⟩ : ∃ t, t = s := ⟨_, rfl⟩
  clear hD h1 hn hb
  go_enter Tryd.func20, Tryd.ntmps20
  go_wp2_with fail
  go_loop [31, 4] (fun i n => n = .int .i64 0 ∧ ∃ k : Nat, k ≤ t.size ∧ i = .int .i64 (k : Int) ∧ Hid (∀ j (hj : j < (digs t).length), j < k → dv (digs t)[j] < b)) (fun i _ => t.size - (intOf i).toNat)
  case atStart => exact ⟨rfl, 0, by omega, rfl, Lib.hid fun _ _ h => absurd h (by omega)⟩
  case round =>
    obtain ⟨rfl, k, hk, rfl, HP⟩ := hrel
    by_cases hlt : k < t.size
    · have hlk : k < (digs t).length := by rw [← HD.out, size_len]; exact hlt
      have hby : (digs t)[k] = t[k] := by rw [← byte_at t k hlt (by rw [size_len]; exact hlt)]; simp only [HD.out]
      have hc : t[k].toNat < 256 := UInt8.toNat_lt _
      have HY := Lib.hid hby
      clear hby
      go_wp2_with fail
      refine (digit_any _ (by omega) (by omega) _).mono ?_
      rintro e w1 ⟨rfl, rfl⟩
      have HV := Lib.hid (show dgt 36 (t[k].toNat : Int) = dv (digs t)[k] by rw [HY.out]; rfl)
      generalize dgt 36 (t[k].toNat : Int) = d at *
      by_cases hd : d < b
      · have hd2 : decide (b ≤ d) = false := by simpa using hd
        have HD2 := Lib.hid hd
        clear hd
        go_wp2_with fail
        exact ⟨⟨rfl, k + 1, by omega, by go_num, Lib.hid fun j hj hjk => by
          rcases Nat.lt_or_ge j k with h | h
          · exact HP.out j hj h
          · obtain rfl : j = k := by omega
            rw [← HV.out]; exact HD2.out⟩, by simp [intOf]; omega⟩
      · have hd2 : decide (b ≤ d) = true := by simp; omega
        have HE := Lib.hid (prs_bad HB.out hlk (by rw [← HV.out]; exact hd))
        clear hd
        go_wp2_with fail
        go_ret2
        exact ⟨ret_pair rfl HE.out, rfl⟩
    · have HA := Lib.hid (show ∀ j (hj : j < (digs t).length), dv (digs t)[j] < b from fun j hj => HP.out j hj (by rw [← HD.out, size_len] at hj; omega))
      have hdn := size_len t
      rw [HD.out] at hdn
      have HDN := Lib.hid hdn
      have HNE := Lib.hid (show digs t ≠ [] from fun e => by rw [e] at hdn; simp at hdn; omega)
      clear HP hdn hk
      go_wp2_with fail
      go_loop [43, 4] (fun i n => ∃ k : Nat, k ≤ t.size ∧ i = .int .i64 (k : Int) ∧ ∃ x : Int, n = .int .i64 x ∧ -9223372036854775808 ≤ x ∧ x ≤ 0 ∧ Hid (x = -vals b ((digs t).take k))) (fun i _ => t.size - (intOf i).toNat)
      case atStart => exact ⟨0, by omega, rfl, 0, rfl, by omega, by omega, Lib.hid rfl⟩
      case round =>
        clear hlt
        obtain ⟨k, hk, rfl, x, rfl, hx1, hx2, HX⟩ := hrel
        by_cases hlt : k < t.size
        · have hlk : k < (digs t).length := by rw [HDN.out]; exact hlt
          have hby : (digs t)[k] = t[k] := by rw [← byte_at t k hlt (by rw [size_len]; exact hlt)]; simp only [HD.out]
          have hc : t[k].toNat < 256 := UInt8.toNat_lt _
          have hnx := vals_next (b := b) hlk
          have HY := Lib.hid hby
          have HNX := Lib.hid hnx
          clear hby hnx
          go_wp2_with fail
          refine (digit_any _ (by omega) (by omega) _).mono ?_
          rintro e w1 ⟨rfl, rfl⟩
          have HV := Lib.hid (show dgt 36 (t[k].toNat : Int) = dv (digs t)[k] by rw [HY.out]; rfl)
          have hbd := dgt_bd (t[k].toNat : Int)
          have HDB := Lib.hid (show dgt 36 (t[k].toNat : Int) < b by rw [HV.out]; exact HA.out k hlk)
          generalize dgt 36 (t[k].toNat : Int) = d at *
          obtain ⟨d0, d1⟩ := hbd
          have HL := Lib.hid (show k + 1 ≤ (digs t).length by omega)
          generalize hV : vals b ((digs t).take k) = V at *
          have hxV := HX.out
          have hte := test_eq hxV (by omega) (by omega) b1 b2 d0 d1
          have HVV := Lib.hid hV
          clear hV
          have hmul : x * b = -(V * b) := by rw [hxV, Int.neg_mul]
          by_cases ho : 9223372036854775808 < V * b + d
          · have HE := Lib.hid (prs_over HB.out HNE.out HA.out (k := k + 1) HL.out (by rw [HNX.out, ← HV.out]; exact ho))
            rw [show decide (9223372036854775808 < V * b + d) = true by simpa using ho] at hte
            clear hxV ho hmul
            go_wp2_with fail
            go_ret2
            exact ⟨ret_pair rfl HE.out, rfl⟩
          · rw [show decide (9223372036854775808 < V * b + d) = false by simpa using ho] at hte
            have hvb : 0 ≤ V * b := Int.mul_nonneg (by omega) (by omega)
            have hw1 : wrap64 (x * b) = x * b := wrap_in (by unfold inR; omega)
            have hw2 : wrap64 (wrap64 (x * b) - d) = x * b - d := by rw [hw1]; exact wrap_in (by unfold inR; omega)
            have HR := Lib.hid (show -9223372036854775808 ≤ wrap64 (wrap64 (x * b) - d) ∧ wrap64 (wrap64 (x * b) - d) ≤ 0 ∧ wrap64 (wrap64 (x * b) - d) = -(V * b + d) by omega)
            clear hxV ho hmul hvb hw1 hw2
            go_wp2_with fail
            exact ⟨⟨k + 1, by omega, by go_num, _, rfl, HR.out.1, HR.out.2.1, Lib.hid (by rw [HNX.out, ← HV.out]; exact HR.out.2.2)⟩, by simp [intOf]; omega⟩
        · have hX := HX.out
          rw [List.take_of_length_le (by rw [HDN.out]; omega)] at hX
          have HX2 := Lib.hid hX
          clear hX HX
          by_cases hl : x = -9223372036854775808
          · subst hl
            have HE := Lib.hid (prs_least HB.out HNE.out HA.out HN.out (by have := HX2.out; omega))
            go_wp2_with fail
            go_ret2
            exact ⟨ret_pair rfl HE.out, rfl⟩
          · have HE := Lib.hid (prs_pos HB.out HNE.out HA.out HN.out (by have := HX2.out; omega))
            have hl2 : (x == -9223372036854775808) = false := by simpa using hl
            have hl3 : -9223372036854775808 < x := by omega
            clear hl
            go_wp2_with fail
            go_ret2
            exact ⟨ret_pair (by have := HX2.out; omega) HE.out, rfl⟩
theorem Parse_base (s : ByteArray) (b : Int) (hb : b < 2 ∨ 36 < b) (w : World) : Calls Tryd.prog 20 #[.string s, .int .i64 b] w fun e w' => e = .returned (pair (prs s b)) ∧ w = w' := by
  have HE := Lib.hid (prs_base (s := s) hb)
  rcases hb with h | h
  · go_enter Tryd.func20, Tryd.ntmps20
    go_wp2_with fail
    go_ret2
    exact ⟨ret_pair rfl HE.out, rfl⟩
  · have h2 : decide (b < 2) = false := decide_eq_false (by omega)
    go_enter Tryd.func20, Tryd.ntmps20
    go_wp2_with fail
    go_ret2
    exact ⟨ret_pair rfl HE.out, rfl⟩
theorem Parse_any (s : ByteArray) (b : Int) (hs : s.size ≤ 9223372036854775807) (w : World) : Calls Tryd.prog 20 #[.string s, .int .i64 b] w fun e w' => e = .returned (pair (prs s b)) ∧ w = w' := by
  by_cases hb : b < 2 ∨ 36 < b
  · exact Parse_base s b hb w
  · cases hn : isNeg s
    · exact Parse_pos s b hs hb hn w
    · exact Parse_neg s b hs hb hn w
set_option maxHeartbeats 1000000 in
theorem RParse_neg (s : ByteArray) (b : Int) (hs : s.size ≤ 9223372036854775807) (hb : ¬ (b < 2 ∨ 36 < b)) (hn : isNeg s = true) (w : World) : Calls Tryd.prog 21 #[.string s, .int .i64 b] w fun e w' => e = .returned (pair (prs s b)) ∧ w = w' := by
  have b1 : 2 ≤ b := by omega
  have b2 : b ≤ 36 := by omega
  have b3 : decide (b < 2) = false := by simpa using b1
  have b4 : decide (36 < b) = false := by simpa using b2
  have HB := Lib.hid hb
  have HN := Lib.hid hn
  obtain ⟨h0, h45⟩ := isNeg_at hn
  have ht : (((s[0]).toNat : Int) == 45) = true := by rw [h45]; rfl
  have hz1 : decide (0 < s.size) = true := by simpa using h0
  have hD : digs s = s.data.toList.drop 1 := by unfold digs; rw [hn, if_pos rfl]
  have hlen : (digs s).length + 1 = s.size := by rw [hD, List.length_drop, size_len]; omega
  have hat : ∀ i (h : i < s.size), 1 ≤ i → ∀ (hj : i - 1 < (digs s).length), (digs s)[i - 1] = s[i] := fun i h h1 hj => by
    rw [← byte_at s i h (by rw [size_len]; exact h)]
    simp only [hD, List.getElem_drop]
    congr 1; omega
  clear hb hn h45
  have HAT := Lib.hid hat
  have HLEN := Lib.hid hlen
  clear hat hD
  by_cases h1 : s.size = 1
  · have h2 : ((s.size : Int) == 1) = true := by rw [h1]; rfl
    have HE := Lib.hid (prs_none (s := s) HB.out (List.eq_nil_of_length_eq_zero (by omega)))
    clear h1 hlen
    go_enter Tryd.func21, Tryd.ntmps21
    go_wp2_with fail
    go_ret2
    exact ⟨ret_pair rfl HE.out, rfl⟩
  have h2 : ((s.size : Int) == 1) = false := by rw [beq_eq_false_iff_ne]; omega
  have hpos : 1 < s.size := by omega
  clear h1 hlen
  go_enter Tryd.func21, Tryd.ntmps21
  go_wp2_with fail
  go_loop [7] (fun i => ∃ k : Nat, 1 ≤ k ∧ k ≤ s.size ∧ i = .int .i64 (k : Int) ∧ Hid (∀ j (hj : j < (digs s).length), j + 1 < k → dv (digs s)[j] < b)) (fun i => s.size - (intOf i).toNat)
  case atStart => exact ⟨1, by omega, by omega, rfl, Lib.hid fun _ _ h => absurd h (by omega)⟩
  case round =>
    obtain ⟨k, hk0, hk, rfl, HP⟩ := hrel
    by_cases hlt : k < s.size
    · have hlk : k - 1 < (digs s).length := by have := HLEN.out; omega
      have HY := Lib.hid (HAT.out k hlt hk0 hlk)
      have hc : s[k].toNat < 256 := UInt8.toNat_lt _
      go_wp2_with fail
      refine (rdigit_any _ (by omega) (by omega) _).mono ?_
      rintro e w1 ⟨rfl, rfl⟩
      have HV := Lib.hid (show dgt 36 (s[k].toNat : Int) = dv (digs s)[k - 1] by rw [HY.out]; rfl)
      have HS := Lib.hid (dgt_lt (c := (s[k].toNat : Int)) b2)
      generalize dgt 99 (s[k].toNat : Int) = d at *
      by_cases hd : d < b
      · have hd2 : decide (b ≤ d) = false := by simpa using hd
        have HD2 := Lib.hid hd
        clear hd
        go_wp2_with fail
        exact ⟨⟨k + 1, by omega, by omega, by go_num, Lib.hid fun j hj hjk => by
          rcases Nat.lt_or_ge (j + 1) k with h | h
          · exact HP.out j hj h
          · have ej : (digs s)[j] = (digs s)[k - 1] := getElem_congr_idx (by omega)
            rw [ej, ← HV.out]; exact HS.out.1 HD2.out⟩, by simp [intOf]; omega⟩
      · have hd2 : decide (b ≤ d) = true := by simp; omega
        have HE := Lib.hid (prs_bad HB.out hlk (by rw [← HV.out]; exact fun h => hd (HS.out.2 h)))
        clear hd
        go_wp2_with fail
        go_ret2
        exact ⟨ret_pair rfl HE.out, rfl⟩
    · have HA := Lib.hid (show ∀ j (hj : j < (digs s).length), dv (digs s)[j] < b from fun j hj => HP.out j hj (by have := HLEN.out; omega))
      have HNE := Lib.hid (show digs s ≠ [] from fun e => by have := HLEN.out; rw [e] at this; simp at this; omega)
      clear HP hk
      go_wp2_with fail
      go_loop [9, 8] (fun i n => ∃ k : Nat, 1 ≤ k ∧ k ≤ s.size ∧ i = .int .i64 (k : Int) ∧ ∃ x : Int, n = .int .i64 x ∧ -9223372036854775808 ≤ x ∧ x ≤ 0 ∧ Hid (x = -vals b ((digs s).take (k - 1)))) (fun i _ => s.size - (intOf i).toNat)
      case atStart => exact ⟨1, by omega, by omega, rfl, 0, rfl, by omega, by omega, Lib.hid rfl⟩
      case round =>
        clear hlt hk0
        obtain ⟨k, hk0, hk, rfl, x, rfl, hx1, hx2, HX⟩ := hrel
        by_cases hlt : k < s.size
        · have hlk : k - 1 < (digs s).length := by have := HLEN.out; omega
          have HY := Lib.hid (HAT.out k hlt hk0 hlk)
          have hc : s[k].toNat < 256 := UInt8.toNat_lt _
          have HNX := Lib.hid (vals_next (b := b) hlk)
          have hbR : inR b := by unfold inR; omega
          have hxR : inR x := by unfold inR; omega
          have HBR := Lib.hid hbR
          have HXR := Lib.hid hxR
          clear hbR hxR
          go_wp2_with fail
          refine (rmul_any x b HXR.out HBR.out _).mono ?_
          rintro e w1 ⟨rfl, rfl⟩
          have HV := Lib.hid (show dgt 36 (s[k].toNat : Int) = dv (digs s)[k - 1] by rw [HY.out]; rfl)
          have hsame := dgt_same (c := (s[k].toNat : Int)) b2 (by rw [HV.out]; exact HA.out _ hlk)
          have hbd := dgt_bd (s[k].toNat : Int)
          have HSA := Lib.hid hsame
          clear hsame
          obtain ⟨d0, d1⟩ := hbd
          have HL := Lib.hid (show k - 1 + 1 ≤ (digs s).length by omega)
          have HKK := Lib.hid (show k - 1 + 1 = k + 1 - 1 by omega)
          generalize hV : vals b ((digs s).take (k - 1)) = V at *
          have HVV := Lib.hid hV
          have hxV := HX.out
          have hmul : x * b = -(V * b) := by rw [hxV, Int.neg_mul]
          have HMUL := Lib.hid hmul
          have hvb : 0 ≤ V * b := Int.mul_nonneg (by omega) (by omega)
          have HVB := Lib.hid hvb
          clear hV hxV
          by_cases ho : inR (x * b)
          · rw [ovf_in ho, pair]
            have HO := Lib.hid ho
            clear ho hmul hvb
            go_wp2_with fail
            refine (rdigit_any _ (by omega) (by omega) _).mono ?_
            rintro e w1 ⟨rfl, rfl⟩
            rw [HSA.out]
            generalize dgt 36 (s[k].toNat : Int) = d at *
            go_wp2_with fail
            refine (rsub_any (x * b) d HO.out (by unfold inR; omega) _).mono ?_
            rintro e w1 ⟨rfl, rfl⟩
            by_cases ho2 : inR (x * b - d)
            · rw [ovf_in ho2, pair]
              have HR := Lib.hid (show -9223372036854775808 ≤ x * b - d ∧ x * b - d ≤ 0 ∧ x * b - d = -(V * b + d) by
                have := HMUL.out; have := HVB.out; unfold inR at ho2; omega)
              clear ho2
              go_wp2_with fail
              exact ⟨⟨k + 1, by omega, by omega, by go_num, _, rfl, HR.out.1, HR.out.2.1, Lib.hid (by rw [← HKK.out, HNX.out, ← HV.out]; exact HR.out.2.2)⟩, by simp [intOf]; omega⟩
            · rw [ovf_out ho2, pair]
              have HE := Lib.hid (prs_over HB.out HNE.out HA.out (k := k - 1 + 1) HL.out (by
                rw [HNX.out, ← HV.out]; have := HMUL.out; have := HVB.out; unfold inR at ho2; omega))
              clear ho2
              go_wp2_with fail
              go_ret2
              exact ⟨ret_pair rfl HE.out, rfl⟩
          · rw [ovf_out ho, pair]
            have HE := Lib.hid (prs_over HB.out HNE.out HA.out (k := k - 1 + 1) HL.out (by
              rw [HNX.out, ← HV.out]; unfold inR at ho; omega))
            clear ho hmul hvb
            go_wp2_with fail
            go_ret2
            exact ⟨ret_pair rfl HE.out, rfl⟩
        · have hX := HX.out
          rw [List.take_of_length_le (by have := HLEN.out; omega)] at hX
          have HX2 := Lib.hid hX
          clear hX HX
          have HE := Lib.hid (prs_neg HB.out HNE.out HA.out HN.out (by have := HX2.out; omega))
          go_wp2_with fail
          go_ret2
          exact ⟨ret_pair (by rw [HX2.out]) HE.out, rfl⟩
set_option maxHeartbeats 1000000 in
theorem RParse_pos (s : ByteArray) (b : Int) (hs : s.size ≤ 9223372036854775807) (hb : ¬ (b < 2 ∨ 36 < b)) (hn : isNeg s = false) (w : World) : Calls Tryd.prog 21 #[.string s, .int .i64 b] w fun e w' => e = .returned (pair (prs s b)) ∧ w = w' := by
  have b1 : 2 ≤ b := by omega
  have b2 : b ≤ 36 := by omega
  have b3 : decide (b < 2) = false := by simpa using b1
  have b4 : decide (36 < b) = false := by simpa using b2
  have HB := Lib.hid hb
  have HN := Lib.hid hn
  have hD : digs s = s.data.toList := by unfold digs; rw [hn]; rfl
  have hlen : (digs s).length + 0 = s.size := by rw [hD, size_len]; rfl
  have hat : ∀ i (h : i < s.size), 0 ≤ i → ∀ (hj : i - 0 < (digs s).length), (digs s)[i - 0] = s[i] := fun i h h1 hj => by
    rw [← byte_at s i h (by rw [size_len]; exact h)]
    simp only [hD, Nat.sub_zero]
  have HAT := Lib.hid hat
  have HLEN := Lib.hid hlen
  clear hat hD
  by_cases h1 : s.size = 0
  · have h2 : ((s.size : Int) == 0) = true := by rw [h1]; rfl
    have h3 : decide (0 < s.size) = false := decide_eq_false (by omega)
    have HE := Lib.hid (prs_none (s := s) HB.out (List.eq_nil_of_length_eq_zero (by omega)))
    clear h1 hlen hb hn
    go_enter Tryd.func21, Tryd.ntmps21
    go_wp2_with fail
    go_ret2
    exact ⟨ret_pair rfl HE.out, rfl⟩
  have h2 : ((s.size : Int) == 0) = false := by rw [beq_eq_false_iff_ne]; omega
  have hpos : 0 < s.size := by omega
  have ht : (((s[0]).toNat : Int) == 45) = false := by rw [u8_eq]; simpa using isNeg_no hn hpos
  have hz1 : decide (0 < s.size) = true := by simpa using hpos
  clear hb hn
  clear h1 hlen
  go_enter Tryd.func21, Tryd.ntmps21
  go_wp2_with fail
  go_loop [7] (fun i => ∃ k : Nat, 0 ≤ k ∧ k ≤ s.size ∧ i = .int .i64 (k : Int) ∧ Hid (∀ j (hj : j < (digs s).length), j + 0 < k → dv (digs s)[j] < b)) (fun i => s.size - (intOf i).toNat)
  case atStart => exact ⟨0, by omega, by omega, rfl, Lib.hid fun _ _ h => absurd h (by omega)⟩
  case round =>
    obtain ⟨k, hk0, hk, rfl, HP⟩ := hrel
    by_cases hlt : k < s.size
    · have hlk : k - 0 < (digs s).length := by have := HLEN.out; omega
      have HY := Lib.hid (HAT.out k hlt hk0 hlk)
      have hc : s[k].toNat < 256 := UInt8.toNat_lt _
      go_wp2_with fail
      refine (rdigit_any _ (by omega) (by omega) _).mono ?_
      rintro e w1 ⟨rfl, rfl⟩
      have HV := Lib.hid (show dgt 36 (s[k].toNat : Int) = dv (digs s)[k - 0] by rw [HY.out]; rfl)
      have HS := Lib.hid (dgt_lt (c := (s[k].toNat : Int)) b2)
      generalize dgt 99 (s[k].toNat : Int) = d at *
      by_cases hd : d < b
      · have hd2 : decide (b ≤ d) = false := by simpa using hd
        have HD2 := Lib.hid hd
        clear hd
        go_wp2_with fail
        exact ⟨⟨k + 1, by omega, by omega, by go_num, Lib.hid fun j hj hjk => by
          rcases Nat.lt_or_ge (j + 0) k with h | h
          · exact HP.out j hj h
          · have ej : (digs s)[j] = (digs s)[k - 0] := getElem_congr_idx (by omega)
            rw [ej, ← HV.out]; exact HS.out.1 HD2.out⟩, by simp [intOf]; omega⟩
      · have hd2 : decide (b ≤ d) = true := by simp; omega
        have HE := Lib.hid (prs_bad HB.out hlk (by rw [← HV.out]; exact fun h => hd (HS.out.2 h)))
        clear hd
        go_wp2_with fail
        go_ret2
        exact ⟨ret_pair rfl HE.out, rfl⟩
    · have HA := Lib.hid (show ∀ j (hj : j < (digs s).length), dv (digs s)[j] < b from fun j hj => HP.out j hj (by have := HLEN.out; omega))
      have HNE := Lib.hid (show digs s ≠ [] from fun e => by have := HLEN.out; rw [e] at this; simp at this; omega)
      clear HP hk
      go_wp2_with fail
      go_loop [9, 8] (fun i n => ∃ k : Nat, 0 ≤ k ∧ k ≤ s.size ∧ i = .int .i64 (k : Int) ∧ ∃ x : Int, n = .int .i64 x ∧ -9223372036854775808 ≤ x ∧ x ≤ 0 ∧ Hid (x = -vals b ((digs s).take (k - 0)))) (fun i _ => s.size - (intOf i).toNat)
      case atStart => exact ⟨0, by omega, by omega, rfl, 0, rfl, by omega, by omega, Lib.hid rfl⟩
      case round =>
        clear hlt hk0
        obtain ⟨k, hk0, hk, rfl, x, rfl, hx1, hx2, HX⟩ := hrel
        by_cases hlt : k < s.size
        · have hlk : k - 0 < (digs s).length := by have := HLEN.out; omega
          have HY := Lib.hid (HAT.out k hlt hk0 hlk)
          have hc : s[k].toNat < 256 := UInt8.toNat_lt _
          have HNX := Lib.hid (vals_next (b := b) hlk)
          have hbR : inR b := by unfold inR; omega
          have hxR : inR x := by unfold inR; omega
          have HBR := Lib.hid hbR
          have HXR := Lib.hid hxR
          clear hbR hxR
          go_wp2_with fail
          refine (rmul_any x b HXR.out HBR.out _).mono ?_
          rintro e w1 ⟨rfl, rfl⟩
          have HV := Lib.hid (show dgt 36 (s[k].toNat : Int) = dv (digs s)[k - 0] by rw [HY.out]; rfl)
          have hsame := dgt_same (c := (s[k].toNat : Int)) b2 (by rw [HV.out]; exact HA.out _ hlk)
          have hbd := dgt_bd (s[k].toNat : Int)
          have HSA := Lib.hid hsame
          clear hsame
          obtain ⟨d0, d1⟩ := hbd
          have HL := Lib.hid (show k - 0 + 1 ≤ (digs s).length by omega)
          have HKK := Lib.hid (show k - 0 + 1 = k + 1 - 0 by omega)
          generalize hV : vals b ((digs s).take (k - 0)) = V at *
          have HVV := Lib.hid hV
          have hxV := HX.out
          have hmul : x * b = -(V * b) := by rw [hxV, Int.neg_mul]
          have HMUL := Lib.hid hmul
          have hvb : 0 ≤ V * b := Int.mul_nonneg (by omega) (by omega)
          have HVB := Lib.hid hvb
          clear hV hxV
          by_cases ho : inR (x * b)
          · rw [ovf_in ho, pair]
            have HO := Lib.hid ho
            clear ho hmul hvb
            go_wp2_with fail
            refine (rdigit_any _ (by omega) (by omega) _).mono ?_
            rintro e w1 ⟨rfl, rfl⟩
            rw [HSA.out]
            generalize dgt 36 (s[k].toNat : Int) = d at *
            go_wp2_with fail
            refine (rsub_any (x * b) d HO.out (by unfold inR; omega) _).mono ?_
            rintro e w1 ⟨rfl, rfl⟩
            by_cases ho2 : inR (x * b - d)
            · rw [ovf_in ho2, pair]
              have HR := Lib.hid (show -9223372036854775808 ≤ x * b - d ∧ x * b - d ≤ 0 ∧ x * b - d = -(V * b + d) by
                have := HMUL.out; have := HVB.out; unfold inR at ho2; omega)
              clear ho2
              go_wp2_with fail
              exact ⟨⟨k + 1, by omega, by omega, by go_num, _, rfl, HR.out.1, HR.out.2.1, Lib.hid (by rw [← HKK.out, HNX.out, ← HV.out]; exact HR.out.2.2)⟩, by simp [intOf]; omega⟩
            · rw [ovf_out ho2, pair]
              have HE := Lib.hid (prs_over HB.out HNE.out HA.out (k := k - 0 + 1) HL.out (by
                rw [HNX.out, ← HV.out]; have := HMUL.out; have := HVB.out; unfold inR at ho2; omega))
              clear ho2
              go_wp2_with fail
              go_ret2
              exact ⟨ret_pair rfl HE.out, rfl⟩
          · rw [ovf_out ho, pair]
            have HE := Lib.hid (prs_over HB.out HNE.out HA.out (k := k - 0 + 1) HL.out (by
              rw [HNX.out, ← HV.out]; unfold inR at ho; omega))
            clear ho hmul hvb
            go_wp2_with fail
            go_ret2
            exact ⟨ret_pair rfl HE.out, rfl⟩
        · have hX := HX.out
          rw [List.take_of_length_le (by have := HLEN.out; omega)] at hX
          have HX2 := Lib.hid hX
          clear hX HX
          go_wp2_with fail
          refine (rsub_any 0 x (by decide) (by unfold inR; omega) _).mono ?_
          rintro e w1 ⟨rfl, rfl⟩
          have HE := Lib.hid (show prs s b = ovf (0 - x) by
            rw [prs_ok HB.out HNE.out HA.out, HN.out, if_neg (by decide)]; congr 1; have := HX2.out; omega)
          obtain ⟨r1, r2, hr⟩ := prod_ex (ovf (0 - x))
          rw [hr, pair]
          have HR := Lib.hid hr
          clear hr
          go_wp2_with fail
          go_ret2
          exact ⟨ret_pair rfl (HE.out.trans HR.out), rfl⟩
theorem RParse_base (s : ByteArray) (b : Int) (hb : b < 2 ∨ 36 < b) (w : World) : Calls Tryd.prog 21 #[.string s, .int .i64 b] w fun e w' => e = .returned (pair (prs s b)) ∧ w = w' := by
  have HE := Lib.hid (prs_base (s := s) hb)
  rcases hb with h | h
  · go_enter Tryd.func21, Tryd.ntmps21
    go_wp2_with fail
    go_ret2
    exact ⟨ret_pair rfl HE.out, rfl⟩
  · have h2 : decide (b < 2) = false := decide_eq_false (by omega)
    go_enter Tryd.func21, Tryd.ntmps21
    go_wp2_with fail
    go_ret2
    exact ⟨ret_pair rfl HE.out, rfl⟩
theorem RParse_any (s : ByteArray) (b : Int) (hs : s.size ≤ 9223372036854775807) (w : World) : Calls Tryd.prog 21 #[.string s, .int .i64 b] w fun e w' => e = .returned (pair (prs s b)) ∧ w = w' := by
  by_cases hb : b < 2 ∨ 36 < b
  · exact RParse_base s b hb w
  · cases hn : isNeg s
    · exact RParse_pos s b hs hb hn w
    · exact RParse_neg s b hs hb hn w
end Go.Proofs.YtcnbaioecoaopaaDoor
