/-
  Walks: numbers and names (the reference). Walks: the texts of names, registers, predicates, keys and instructions (the reference). Walks: the texts of registers, predicates, keys and instructions (the reference). Walk: the line of an instruction (the reference).
-/
import Derived.Test.YtbipeakinmbdiaaGreatDoorKr
import Derived.Test.YtbipeakinmbdiaaGreatDoorKe
namespace Go.Proofs.YtbipeakinmbdiaaGreatDoor
section
open Go.RowKit

theorem dg_one {d : Nat} (h : d < 10) : numL (d : Int) = [UInt8.ofNat (48 + d)] := by
  rw [num_pos (by omega), Int.natAbs_natCast, dec_last h]
theorem num_last {n : Int} (h : 10 ≤ n) : numL n = numL (n / 10) ++ numL (n % 10) := by
  rw [num_pos (by omega), num_pos (n := n / 10) (by omega), dec_more (by omega), show n % 10 = ((n.natAbs % 10 : Nat) : Int) by omega, dg_one (by omega), show (n / 10).natAbs = n.natAbs / 10 by omega]
theorem num_lastN {n : Int} (h : n ≤ -10) : numL n = numL (-(-n / 10)) ++ numL (-n % 10) := by
  rw [num_neg (by omega), num_neg (n := -(-n / 10)) (by omega), dec_more (by omega), show -n % 10 = ((n.natAbs % 10 : Nat) : Int) by omega, dg_one (by omega), show (-(-n / 10)).natAbs = n.natAbs / 10 by omega]
  rfl
theorem num_lastS {n : Int} (h : n < 0) : numL n = 45 :: numL (-n) := by
  rw [num_neg h, num_pos (n := -n) (by omega), show (-n).natAbs = n.natAbs by omega]
theorem one_byte (w : World) (v : Int) (d : Nat) (hd : d < 10) (h : v = 48 + (d : Int)) :
    (convert 45 9 (.slice (some ⟨w.heap.size, 0, none⟩) 1 1)).run Tryz.prog (w.alloc (.cells #[.int .u8 v] 5)) = .ok (.string ⟨#[UInt8.ofNat (48 + d)]⟩) (w.alloc (.cells #[.int .u8 v] 5)) := by
  have := run_convert_bytes_back (P := Tryz.prog) (w.alloc (.cells #[.int .u8 v] 5)) 45 9 5 ⟨w.heap.size, 0, none⟩ 1 [UInt8.ofNat (48 + d)] (by kernel_rfl) (by kernel_rfl) (by kernel_rfl) (fun j hj => by
    have hj0 : j = 0 := by simpa using hj
    subst hj0
    simp only [Addr.add, List.getElem_cons_zero]
    rw [h]
    simp
    omega)
  exact this
theorem u8_dig {d : Nat} (h : d < 10) : (48 + UInt8.ofNat d : UInt8) = UInt8.ofNat (48 + d) := by
  have key : ∀ d : Fin 10, (48 + UInt8.ofNat d.1 : UInt8) = UInt8.ofNat (48 + d.1) := by decide
  exact key ⟨d, h⟩
theorem number_dig (d : Nat) (w : World) (hd : d < 10) : Calls Tryz.prog 57 #[.int .i64 (d : Int)] w fun e w' => e = .returned (.string (S (numL (d : Int)))) ∧ Below w.heap.size w w' := by
  have q0 : decide ((d : Int) < 0) = false := by simp
  have q1 : decide ((d : Int) < 10) = true := by simp; omega
  have hob := one_byte w (48 + d) d hd rfl
  have hw1 : IntKind.wrap .i64 (48 + (d : Int)) = 48 + d := wrapI (by omega)
  have hw2 : IntKind.wrap .u8 (48 + (d : Int)) = 48 + d := by rw [IntKind.wrap_u8]; omega
  have HD := Lib.hid (show ∀ u : UInt8, u = UInt8.ofNat (48 + d) → (⟨#[u]⟩ : ByteArray) = S (numL (d : Int)) from fun u hu => by rw [dg_one hd, hu]; rfl)
  clear hd
  go_enter Tryz.func57, Tryz.ntmps57
  go_wp2_with fail
  go_ret
  exact ⟨ret_str (HD.out _ (by simp)), bAlloc _ _⟩
theorem tdivp {n : Int} (h : 0 ≤ n) (hx : n ≤ 9223372036854775807) : wrap64 (n.tdiv 10) = n / 10 ∧ n.tmod 10 = n % 10 := by
  rw [Int.tdiv_eq_ediv_of_nonneg h, Int.tmod_eq_emod_of_nonneg h]
  unfold wrap64
  omega
theorem tdivn {n : Int} (h : n < 0) (hx : -9223372036854775808 ≤ n) : wrap64 (n.tdiv 10) = -(-n / 10) ∧ wrap64 (-(n.tmod 10)) = -n % 10 := by
  have e1 : n.tdiv 10 = -(-n / 10) := by rw [← Int.tdiv_eq_ediv_of_nonneg (by omega), Int.neg_tdiv, Int.neg_neg]
  have e2 : n.tmod 10 = -(-n % 10) := by rw [← Int.tmod_eq_emod_of_nonneg (by omega), Int.neg_tmod, Int.neg_neg]
  rw [e1, e2]
  unfold wrap64
  omega
theorem number_pos (m : Nat) : ∀ (n : Int) (w : World), 0 ≤ n → n.toNat ≤ m → n ≤ 9223372036854775807 → Calls Tryz.prog 57 #[.int .i64 n] w fun e w' => e = .returned (.string (S (numL n))) ∧ Below w.heap.size w w' := by
  induction m with
  | zero =>
    intro n w h0 hm hx
    have e : n = ((0 : Nat) : Int) := by omega
    rw [e]
    exact number_dig 0 w (by omega)
  | succ m ih =>
    intro n w h0 hm hx
    by_cases h10 : n < 10
    · rw [show n = ((n.toNat : Nat) : Int) by omega]
      exact number_dig _ w (by omega)
    · have IH := Lib.hid ih
      have q0 : decide (n < 0) = false := by simp; omega
      have q1 : decide (n < 10) = false := by simp; omega
      have hd1 := (tdivp h0 hx).1
      have hd2 := (tdivp h0 hx).2
      have HL := Lib.hid (num_last (n := n) (by omega))
      have HB := Lib.hid (show (10 ≤ n ∧ n ≤ 9223372036854775807) ∧ n.toNat ≤ m + 1 by omega)
      clear h0 hm hx h10 ih
      obtain ⟨x, hx⟩ : ∃ x, Hid (x = numL (n / 10)) := ⟨_, rfl⟩
      obtain ⟨y, hy⟩ : ∃ y, Hid (y = numL (n % 10)) := ⟨_, rfl⟩
      have HX2 := Lib.hid (show (S x).size ≤ 21 by rw [S_size, hx.out]; exact num_len _ (by unfold inR; have := HB.out; omega))
      have HY2 := Lib.hid (show (S y).size ≤ 21 by rw [S_size, hy.out]; exact num_len _ (by unfold inR; have := HB.out; omega))
      go_enter Tryz.func57, Tryz.ntmps57
      go_wp2_with fail
      refine (IH.out (n / 10) w (by have := HB.out; omega) (by have := HB.out; omega) (by have := HB.out; omega)).mono ?_
      rintro e w1 ⟨rfl, hb1⟩
      have HB1 := Lib.hid hb1
      have hx1 := HX2.out
      rw [← hx.out]
      clear hb1
      go_wp2_with fail
      refine (IH.out (n % 10) w1 (by have := HB.out; omega) (by have := HB.out; omega) (by have := HB.out; omega)).mono ?_
      rintro e w2 ⟨rfl, hb2⟩
      have HB2 := Lib.hid (bNext HB1.out hb2)
      have hy1 := HY2.out
      rw [← hy.out]
      clear hb2
      go_wp2_with fail
      go_ret
      exact ⟨ret_str (by rw [S_app, HL.out, hx.out, hy.out]), HB2.out⟩
theorem number_negS (n : Int) (w : World) (h0 : n < 0) (h1 : -10 < n) : Calls Tryz.prog 57 #[.int .i64 n] w fun e w' => e = .returned (.string (S (numL n))) ∧ Below w.heap.size w w' := by
  have q0 : decide (n < 0) = true := by simpa using h0
  have q1 : decide (-10 < n) = true := by simpa using h1
  have hw : IntKind.wrap .i64 (-n) = -n := wrapI (by omega)
  have HB := Lib.hid (And.intro h0 h1)
  have HL := Lib.hid (num_lastS h0)
  obtain ⟨x, hx⟩ : ∃ x, Hid (x = numL (-n)) := ⟨_, rfl⟩
  have HX2 := Lib.hid (show (S x).size ≤ 21 by rw [S_size, hx.out]; exact num_len _ (by unfold inR; omega))
  clear h0 h1
  go_enter Tryz.func57, Tryz.ntmps57
  go_wp2_with fail
  refine (number_pos (-n).toNat (-n) w (by have := HB.out; omega) (Nat.le_refl _) (by have := HB.out; omega)).mono ?_
  rintro e w1 ⟨rfl, hb1⟩
  have HB1 := Lib.hid hb1
  have hx1 := HX2.out
  rw [← hx.out]
  clear hb1
  go_wp2_with fail
  go_ret
  exact ⟨ret_str (by rw [HL.out, show (⟨#[45]⟩ : ByteArray) = S [45] from rfl, S_app, hx.out]; rfl), HB1.out⟩
theorem number_neg (m : Nat) : ∀ (n : Int) (w : World), n < 0 → (-n).toNat ≤ m → -9223372036854775808 ≤ n → Calls Tryz.prog 57 #[.int .i64 n] w fun e w' => e = .returned (.string (S (numL n))) ∧ Below w.heap.size w w' := by
  induction m with
  | zero => intro n w h0 hm hx; omega
  | succ m ih =>
    intro n w h0 hm hx
    by_cases h10 : -10 < n
    · exact number_negS n w h0 h10
    · have IH := Lib.hid ih
      have q0 : decide (n < 0) = true := by simpa using h0
      have q1 : decide (-10 < n) = false := by simpa using h10
      have hd1 := (tdivn h0 hx).1
      have hd2 := (tdivn h0 hx).2
      have HL := Lib.hid (num_lastN (n := n) (by omega))
      have HB := Lib.hid (show (n ≤ -10 ∧ -9223372036854775808 ≤ n) ∧ (-n).toNat ≤ m + 1 by omega)
      clear h0 hm hx h10 ih
      obtain ⟨x, hx⟩ : ∃ x, Hid (x = numL (-(-n / 10))) := ⟨_, rfl⟩
      obtain ⟨y, hy⟩ : ∃ y, Hid (y = numL (-n % 10)) := ⟨_, rfl⟩
      have HX2 := Lib.hid (show (S x).size ≤ 21 by rw [S_size, hx.out]; exact num_len _ (by unfold inR; have := HB.out; omega))
      have HY2 := Lib.hid (show (S y).size ≤ 21 by rw [S_size, hy.out]; exact num_len _ (by unfold inR; have := HB.out; omega))
      go_enter Tryz.func57, Tryz.ntmps57
      go_wp2_with fail
      refine (IH.out (-(-n / 10)) w (by have := HB.out; omega) (by have := HB.out; omega) (by have := HB.out; omega)).mono ?_
      rintro e w1 ⟨rfl, hb1⟩
      have HB1 := Lib.hid hb1
      have hx1 := HX2.out
      rw [← hx.out]
      clear hb1
      go_wp2_with fail
      refine (number_pos 9 (-n % 10) w1 (by have := HB.out; omega) (by have := HB.out; omega) (by have := HB.out; omega)).mono ?_
      rintro e w2 ⟨rfl, hb2⟩
      have HB2 := Lib.hid (bNext HB1.out hb2)
      have hy1 := HY2.out
      rw [← hy.out]
      clear hb2
      go_wp2_with fail
      go_ret
      exact ⟨ret_str (by rw [S_app, HL.out, hx.out, hy.out]), HB2.out⟩
theorem number_any (n : Int) (w : World) (h : inR n) : Calls Tryz.prog 57 #[.int .i64 n] w fun e w' => e = .returned (.string (S (numL n))) ∧ Below w.heap.size w w' := by
  by_cases h0 : 0 ≤ n
  · exact number_pos n.toNat n w h0 (Nat.le_refl _) h.2
  · exact number_neg (-n).toNat n w (by omega) (Nat.le_refl _) h.1
end
section
open Go.RowKit

theorem esc_test (c : UInt8) : (decide ((c.toNat : Int) < 32) || decide (126 < (c.toNat : Int)) || ((c.toNat : Int) == 34) || ((c.toNat : Int) == 92)) = !plainB c := by
  have h1 : ((c.toNat : Int) == 34) = (c == 34) := u8_eq c 34 (by omega)
  have h2 : ((c.toNat : Int) == 92) = (c == 92) := u8_eq c 92 (by omega)
  rw [h1, h2]
  unfold plainB bne
  have e1 : decide ((c.toNat : Int) < 32) = !decide (32 ≤ c.toNat) := by rw [Bool.eq_iff_iff]; simp; omega
  have e2 : decide (126 < (c.toNat : Int)) = !decide (c.toNat ≤ 126) := by rw [Bool.eq_iff_iff]; simp; omega
  rw [e1, e2]
  cases decide (32 ≤ c.toNat) <;> cases decide (c.toNat ≤ 126) <;> cases (c == 34) <;> cases (c == 92) <;> rfl
theorem ext_one {s : ByteArray} {j : Nat} (h : j < s.size) : s.extract j (j + 1) = S [s[j]'h] := by
  rw [ByteArray.extract_add_one h]
  rfl
theorem hexB_ext {k : Nat} (h : k < 16) : (⟨#[48, 49, 50, 51, 52, 53, 54, 55, 56, 57, 97, 98, 99, 100, 101, 102]⟩ : ByteArray).extract k (k + 1) = S [hexD k] := by
  rw [ext_one (s := ⟨#[48, 49, 50, 51, 52, 53, 54, 55, 56, 57, 97, 98, 99, 100, 101, 102]⟩) h, hexB_at]
set_option maxHeartbeats 1000000 in
theorem Quote_any (s : ByteArray) (w : World) (hs : s.size ≤ 1000000000) : Calls Tryz.prog 91 #[.string s] w fun e w' => e = .returned (.string (S (quoteL s.data.toList))) ∧ Below w.heap.size w w' := by
  go_enter Tryz.func91, Tryz.ntmps91
  go_wp2_with fail
  go_loopw [4, 5] (fun v i wr => ∃ j : Nat, i = .int .i64 j ∧ j ≤ s.size ∧ v = .string (S (34 :: (s.data.toList.take j).flatMap escB)) ∧ Hid (Below w.heap.size w wr)) (fun _ i _ => s.size - (intOf i).toNat)
  case atStart => exact ⟨0, rfl, Nat.zero_le _, rfl, Lib.hid (Below.refl _ _)⟩
  case round =>
    obtain ⟨j, rfl, hj, rfl, HB⟩ := hrel
    by_cases hlt : j < s.size
    · have hlj : decide ((j : Int) < (s.size : Int)) = true := by simp; omega
      have hget : s.data.toList[j]? = some (s[j]'hlt) := by simp [hlt]; rfl
      obtain ⟨c, hc⟩ : ∃ c, Hid (c = s[j]'hlt) := ⟨_, rfl⟩
      have hstep : (34 :: (s.data.toList.take j).flatMap escB) ++ escB c = 34 :: (s.data.toList.take (j + 1)).flatMap escB := by rw [List.take_add_one, hget, hc.out]; simp
      have hbl : (34 :: (s.data.toList.take j).flatMap escB).length ≤ 4000000001 := by
        have h1 := esc_len (s.data.toList.take j)
        have h2 : (s.data.toList.take j).length ≤ j := List.length_take_le _ _
        simp only [List.length_cons]
        omega
      obtain ⟨l, hl⟩ : ∃ l, Hid (l = 34 :: (s.data.toList.take j).flatMap escB) := ⟨_, rfl⟩
      rw [← hl.out] at hstep hbl ⊢
      have HST := Lib.hid hstep
      have hsz : (S l).size ≤ 4000000001 := by rw [S_size]; exact hbl
      clear hstep hget hbl
      go_upto_region 7 with fail
      rw [← hc.out]
      obtain ⟨n, hn⟩ : ∃ n : Int, Hid (n = c.toNat) := ⟨_, rfl⟩
      rw [← hn.out]
      go_cut [29] from 16 to 29 (fun s29 wx => s29 = .bool (!plainB c) ∧ wr = wx)
      case first =>
        have HT := Lib.hid (esc_test c)
        rw [← hn.out] at HT
        obtain ⟨b1, hb1⟩ : ∃ b, decide (n < 32) = b := ⟨_, rfl⟩
        obtain ⟨b2, hb2⟩ : ∃ b, decide (126 < n) = b := ⟨_, rfl⟩
        obtain ⟨b3, hb3⟩ : ∃ b, (n == 34) = b := ⟨_, rfl⟩
        obtain ⟨b4, hb4⟩ : ∃ b, (n == 92) = b := ⟨_, rfl⟩
        rw [hb1, hb2, hb3, hb4] at HT
        clear hn hc HST
        cases b1 <;> cases b2 <;> cases b3 <;> cases b4 <;> (go_wp2_with fail) <;> go_meet <;> exact ⟨congrArg Value.bool HT.out, rfl⟩
      case rest =>
        obtain ⟨rfl, rfl⟩ := hcut
        cases hp : plainB c
        · have HE := Lib.hid (show escB c = [92, 120, hexD (c.toNat / 16), hexD (c.toNat % 16)] by unfold escB; rw [if_neg (by rw [hp]; simp)])
          clear hp
          obtain ⟨k, hk⟩ : ∃ k, Hid (k = c.toNat / 16) := ⟨_, rfl⟩
          obtain ⟨m, hm⟩ : ∃ k, Hid (k = c.toNat % 16) := ⟨_, rfl⟩
          have hcl := u8_bounds c
          have HKB := Lib.hid (show k < 16 by rw [hk.out]; omega)
          have HMB := Lib.hid (show m < 16 by rw [hm.out]; omega)
          have hkz : (S [hexD k]).size = 1 := rfl
          have hmz : (S [hexD m]).size = 1 := rfl
          have HW1 := Lib.hid (show IntKind.wrap .u8 (n.tdiv 16) = (k : Int) by rw [hn.out, hk.out, Int.tdiv_eq_ediv_of_nonneg (by omega), IntKind.wrap_u8]; omega)
          have HW2 := Lib.hid (show IntKind.wrap .u8 ((k : Int) + 1) = (k : Int) + 1 by have := HKB.out; rw [IntKind.wrap_u8]; omega)
          have HM1 := Lib.hid (show n.tmod 16 = (m : Int) by rw [hn.out, hm.out, Int.tmod_eq_emod_of_nonneg (by omega)]; omega)
          have HM2 := Lib.hid (show IntKind.wrap .u8 ((m : Int) + 1) = (m : Int) + 1 by have := HMB.out; rw [IntKind.wrap_u8]; omega)
          clear hcl
          go_upto_region 8 with fail
          refine wp_region_N (fun _ => True) (fun _ => true) (by kernel_rfl) ?_
          have hS0 : True := trivial
          refine wpAnyN_take (i := 0) (v := ?v1) rfl (by kernel_rfl) (by kernel_rfl) (by kernel_rfl) (by kernel_rfl) (fun _ _ _ h => h) (Or.inl ⟨by rfl, ?hy1⟩) (by assumption) ?_
          case hy1 => intro w hSw; (try dsimp only at hSw); go_simp; try with_reducible rfl
          simp only [Act.put, List.getElem_toArray, List.getElem_cons_zero, List.setIfInBounds_toArray, List.set_cons_zero, List.set_cons_succ]
          refine wpAnyN_take (i := 1) (v := .string (S l ++ ⟨#[92, 120]⟩)) rfl (by kernel_rfl) (by kernel_rfl) (by kernel_rfl) (by kernel_rfl) (fun _ _ _ h => h) (Or.inl ⟨by rfl, ?hv1⟩) (by assumption) ?_
          case hv1 => intro w hSw; go_simp; omega
          simp only [Act.put, List.getElem_toArray, List.getElem_cons_zero, List.getElem_cons_succ, List.setIfInBounds_toArray, List.set_cons_zero, List.set_cons_succ]
          refine wpAnyN_take (i := 2) (v := ?v2) rfl (by kernel_rfl) (by kernel_rfl) (by kernel_rfl) (by kernel_rfl) (fun _ _ _ h => h) (Or.inl ⟨by rfl, ?hy2⟩) (by assumption) ?_
          case hy2 => intro w hSw; (try dsimp only at hSw); go_simp; try with_reducible rfl
          simp only [Act.put, List.getElem_toArray, List.getElem_cons_zero, List.getElem_cons_succ, List.setIfInBounds_toArray, List.set_cons_zero, List.set_cons_succ]
          refine wpAnyN_take (i := 3) (v := ?v3) rfl (by kernel_rfl) (by kernel_rfl) (by kernel_rfl) (by kernel_rfl) (fun _ _ _ h => h) (Or.inl ⟨by rfl, ?hy3⟩) (by assumption) ?_
          case hy3 => intro w hSw; (try dsimp only at hSw); go_simp; try with_reducible rfl
          simp only [Act.put, List.getElem_toArray, List.getElem_cons_zero, List.getElem_cons_succ, List.setIfInBounds_toArray, List.set_cons_zero, List.set_cons_succ]
          refine wpAnyN_take (i := 4) (v := .int .u8 ((k : Int))) rfl (by kernel_rfl) (by kernel_rfl) (by kernel_rfl) (by kernel_rfl) (fun _ _ _ h => h) (Or.inl ⟨by rfl, ?hv4⟩) (by assumption) ?_
          case hv4 => intro w hSw; go_simp; first | rw [HW1.out] | simp [HW1.out]
          simp only [Act.put, List.getElem_toArray, List.getElem_cons_zero, List.getElem_cons_succ, List.setIfInBounds_toArray, List.set_cons_zero, List.set_cons_succ]
          refine wpAnyN_take (i := 5) (v := ?v4) rfl (by kernel_rfl) (by kernel_rfl) (by kernel_rfl) (by kernel_rfl) (fun _ _ _ h => h) (Or.inl ⟨by rfl, ?hy4⟩) (by assumption) ?_
          case hy4 => intro w hSw; (try dsimp only at hSw); go_simp; try with_reducible rfl
          simp only [Act.put, List.getElem_toArray, List.getElem_cons_zero, List.getElem_cons_succ, List.setIfInBounds_toArray, List.set_cons_zero, List.set_cons_succ]
          refine wpAnyN_take (i := 6) (v := .int .u8 ((k : Int))) rfl (by kernel_rfl) (by kernel_rfl) (by kernel_rfl) (by kernel_rfl) (fun _ _ _ h => h) (Or.inl ⟨by rfl, ?hv6⟩) (by assumption) ?_
          case hv6 => intro w hSw; go_simp; first | rw [HW1.out] | simp [HW1.out]
          simp only [Act.put, List.getElem_toArray, List.getElem_cons_zero, List.getElem_cons_succ, List.setIfInBounds_toArray, List.set_cons_zero, List.set_cons_succ]
          refine wpAnyN_take (i := 7) (v := .int .u8 ((k : Int) + 1)) rfl (by kernel_rfl) (by kernel_rfl) (by kernel_rfl) (by kernel_rfl) (fun _ _ _ h => h) (Or.inl ⟨by rfl, ?hv7⟩) (by assumption) ?_
          case hv7 => intro w hSw; go_simp; first | rw [HW2.out] | simp [HW2.out]
          simp only [Act.put, List.getElem_toArray, List.getElem_cons_zero, List.getElem_cons_succ, List.setIfInBounds_toArray, List.set_cons_zero, List.set_cons_succ]
          refine wpAnyN_take (i := 8) (v := .string (S [hexD k])) rfl (by kernel_rfl) (by kernel_rfl) (by kernel_rfl) (by kernel_rfl) (fun _ _ _ h => h) (Or.inl ⟨by rfl, ?hv8⟩) (by assumption) ?_
          case hv8 =>
            intro w hSw
            have hb : k < 16 := by first | exact HKB.out | exact HMB.out
            go_simp
            rw [if_pos (by omega), if_pos (by omega)]
            rw [hexB_ext hb]
          simp only [Act.put, List.getElem_toArray, List.getElem_cons_zero, List.getElem_cons_succ, List.setIfInBounds_toArray, List.set_cons_zero, List.set_cons_succ]
          refine wpAnyN_take (i := 9) (v := .string (S l ++ ⟨#[92, 120]⟩ ++ S [hexD k])) rfl (by kernel_rfl) (by kernel_rfl) (by kernel_rfl) (by kernel_rfl) (fun _ _ _ h => h) (Or.inl ⟨by rfl, ?hv9⟩) (by assumption) ?_
          case hv9 => intro w hSw; go_simp; omega
          simp only [Act.put, List.getElem_toArray, List.getElem_cons_zero, List.getElem_cons_succ, List.setIfInBounds_toArray, List.set_cons_zero, List.set_cons_succ]
          refine wpAnyN_take (i := 10) (v := ?v5) rfl (by kernel_rfl) (by kernel_rfl) (by kernel_rfl) (by kernel_rfl) (fun _ _ _ h => h) (Or.inl ⟨by rfl, ?hy5⟩) (by assumption) ?_
          case hy5 => intro w hSw; (try dsimp only at hSw); go_simp; try with_reducible rfl
          simp only [Act.put, List.getElem_toArray, List.getElem_cons_zero, List.getElem_cons_succ, List.setIfInBounds_toArray, List.set_cons_zero, List.set_cons_succ]
          refine wpAnyN_take (i := 11) (v := ?v6) rfl (by kernel_rfl) (by kernel_rfl) (by kernel_rfl) (by kernel_rfl) (fun _ _ _ h => h) (Or.inl ⟨by rfl, ?hy6⟩) (by assumption) ?_
          case hy6 => intro w hSw; (try dsimp only at hSw); go_simp; try with_reducible rfl
          simp only [Act.put, List.getElem_toArray, List.getElem_cons_zero, List.getElem_cons_succ, List.setIfInBounds_toArray, List.set_cons_zero, List.set_cons_succ]
          refine wpAnyN_take (i := 12) (v := .int .u8 ((m : Int))) rfl (by kernel_rfl) (by kernel_rfl) (by kernel_rfl) (by kernel_rfl) (fun _ _ _ h => h) (Or.inl ⟨by rfl, ?hv12⟩) (by assumption) ?_
          case hv12 => intro w hSw; go_simp; first | rw [HM1.out] | simp [HM1.out]
          simp only [Act.put, List.getElem_toArray, List.getElem_cons_zero, List.getElem_cons_succ, List.setIfInBounds_toArray, List.set_cons_zero, List.set_cons_succ]
          refine wpAnyN_take (i := 13) (v := ?v7) rfl (by kernel_rfl) (by kernel_rfl) (by kernel_rfl) (by kernel_rfl) (fun _ _ _ h => h) (Or.inl ⟨by rfl, ?hy7⟩) (by assumption) ?_
          case hy7 => intro w hSw; (try dsimp only at hSw); go_simp; try with_reducible rfl
          simp only [Act.put, List.getElem_toArray, List.getElem_cons_zero, List.getElem_cons_succ, List.setIfInBounds_toArray, List.set_cons_zero, List.set_cons_succ]
          refine wpAnyN_take (i := 14) (v := .int .u8 ((m : Int))) rfl (by kernel_rfl) (by kernel_rfl) (by kernel_rfl) (by kernel_rfl) (fun _ _ _ h => h) (Or.inl ⟨by rfl, ?hv14⟩) (by assumption) ?_
          case hv14 => intro w hSw; go_simp; first | rw [HM1.out] | simp [HM1.out]
          simp only [Act.put, List.getElem_toArray, List.getElem_cons_zero, List.getElem_cons_succ, List.setIfInBounds_toArray, List.set_cons_zero, List.set_cons_succ]
          refine wpAnyN_take (i := 15) (v := .int .u8 ((m : Int) + 1)) rfl (by kernel_rfl) (by kernel_rfl) (by kernel_rfl) (by kernel_rfl) (fun _ _ _ h => h) (Or.inl ⟨by rfl, ?hv15⟩) (by assumption) ?_
          case hv15 => intro w hSw; go_simp; first | rw [HM2.out] | simp [HM2.out]
          simp only [Act.put, List.getElem_toArray, List.getElem_cons_zero, List.getElem_cons_succ, List.setIfInBounds_toArray, List.set_cons_zero, List.set_cons_succ]
          refine wpAnyN_take (i := 16) (v := .string (S [hexD m])) rfl (by kernel_rfl) (by kernel_rfl) (by kernel_rfl) (by kernel_rfl) (fun _ _ _ h => h) (Or.inl ⟨by rfl, ?hv16⟩) (by assumption) ?_
          case hv16 =>
            intro w hSw
            have hb : m < 16 := by first | exact HKB.out | exact HMB.out
            go_simp
            rw [if_pos (by omega), if_pos (by omega)]
            rw [hexB_ext hb]
          simp only [Act.put, List.getElem_toArray, List.getElem_cons_zero, List.getElem_cons_succ, List.setIfInBounds_toArray, List.set_cons_zero, List.set_cons_succ]
          refine wpAnyN_take (i := 17) (v := .string (S l ++ ⟨#[92, 120]⟩ ++ S [hexD k] ++ S [hexD m])) rfl (by kernel_rfl) (by kernel_rfl) (by kernel_rfl) (by kernel_rfl) (fun _ _ _ h => h) (Or.inl ⟨by rfl, ?hv17⟩) (by assumption) ?_
          case hv17 => intro w hSw; go_simp; omega
          simp only [Act.put, List.getElem_toArray, List.getElem_cons_zero, List.getElem_cons_succ, List.setIfInBounds_toArray, List.set_cons_zero, List.set_cons_succ]
          refine wpAnyN_take (i := 18) (v := ?v8) rfl (by kernel_rfl) (by kernel_rfl) (by kernel_rfl) (by kernel_rfl) (fun _ _ _ h => h) (Or.inl ⟨by rfl, ?hy8⟩) (by assumption) ?_
          case hy8 => intro w hSw; (try dsimp only at hSw); go_simp; try with_reducible rfl
          simp only [Act.put, List.getElem_toArray, List.getElem_cons_zero, List.getElem_cons_succ, List.setIfInBounds_toArray, List.set_cons_zero, List.set_cons_succ]
          refine wpAnyN_done (by kernel_rfl) ?_ _
          have HSE := Lib.hid (show S l ++ ⟨#[92, 120]⟩ ++ S [hexD k] ++ S [hexD m] = S (34 :: (s.data.toList.take (j + 1)).flatMap escB) by
            rw [show (⟨#[92, 120]⟩ : ByteArray) = S [92, 120] from rfl, S_app, S_app, S_app, ← HST.out, HE.out, hk.out, hm.out]; simp)
          rw [HSE.out]
          go_wp2_with fail
          exact ⟨⟨j + 1, by go_num, hlt, rfl, Lib.hid (HB.out.drew)⟩, by simp [intOf]; omega⟩
        · have HE := Lib.hid (show escB c = [c] by unfold escB; rw [if_pos hp])
          have HX := Lib.hid (show S l ++ s.extract j (j + 1) = S (34 :: (s.data.toList.take (j + 1)).flatMap escB) by
            rw [ext_one hlt, ← hc.out, S_app, ← HST.out, HE.out])
          have hxz : (s.extract j (j + 1)).size = 1 := by rw [ext_one hlt]; rfl
          clear hp
          go_wp2_with fail
          exact ⟨⟨j + 1, by go_num, hlt, congrArg Value.string HX.out, HB⟩, by simp [intOf]; omega⟩
    · have hlj : decide ((j : Int) < (s.size : Int)) = false := by simp; omega
      have hdl : s.data.toList.length = s.size := Array.length_toList
      have HQ := Lib.hid (show S (34 :: (s.data.toList.take j).flatMap escB) ++ (⟨#[34]⟩ : ByteArray) = S (quoteL s.data.toList) by
        rw [List.take_of_length_le (by omega), show (⟨#[34]⟩ : ByteArray) = S [34] from rfl, S_app]; rfl)
      have hsz : (S (34 :: (s.data.toList.take j).flatMap escB)).size ≤ 4000000001 := by
        have h1 := esc_len (s.data.toList.take j)
        have h2 : (s.data.toList.take j).length ≤ j := List.length_take_le _ _
        rw [S_size]
        simp only [List.length_cons]
        omega
      obtain ⟨l, hl⟩ : ∃ l, Hid (l = 34 :: (s.data.toList.take j).flatMap escB) := ⟨_, rfl⟩
      rw [← hl.out] at hsz HQ ⊢
      clear hdl hl
      go_wp2_with fail
      go_ret
      exact ⟨ret_str HQ.out, HB.out⟩
end
section
open Go.RowKit

theorem Reg_any (r : Int) (w : World) (hr : -4096 ≤ r ∧ r ≤ 4096) : Calls Tryz.prog 92 #[.int .i64 r] w fun e w' => e = .returned (.string (S (regL r))) ∧ Below w.heap.size w w' := by
  have HR := Lib.hid hr
  clear hr
  by_cases hn : r < 0
  · have q1 : decide (r < 0) = true := by simpa using hn
    have hw : IntKind.wrap .i64 (-r) = -r := wrapI (by have := HR.out; omega)
    have hnl := num_len (-r) (by have := HR.out; unfold inR; omega)
    obtain ⟨y, hy⟩ : ∃ y, Hid (y = numL (-r)) := ⟨_, rfl⟩
    have HY := Lib.hid (show (S y).size ≤ 21 by rw [S_size, hy.out]; omega)
    have HF := Lib.hid (show regL r = 89 :: y by unfold regL; rw [if_pos hn, hy.out])
    clear hn hnl
    go_enter Tryz.func92, Tryz.ntmps92
    go_wp2_with fail
    refine (number_any (-r) w (by have := HR.out; unfold inR; omega)).mono ?_
    rintro e w1 ⟨rfl, hb1⟩
    have HB1 := Lib.hid hb1
    clear hb1
    rw [← hy.out]
    have hy1 := HY.out
    go_wp2_with fail
    go_ret
    exact ⟨ret_str (by rw [HF.out, show (⟨#[89]⟩ : ByteArray) = S [89] from rfl, S_app]; rfl), HB1.out⟩
  · have q1 : decide (r < 0) = false := by simpa using hn
    have hnl := num_len r (by have := HR.out; unfold inR; omega)
    obtain ⟨y, hy⟩ : ∃ y, Hid (y = numL r) := ⟨_, rfl⟩
    have HY := Lib.hid (show (S y).size ≤ 21 by rw [S_size, hy.out]; omega)
    have HF := Lib.hid (show regL r = 88 :: y by unfold regL; rw [if_neg hn, hy.out])
    clear hn hnl
    go_enter Tryz.func92, Tryz.ntmps92
    go_wp2_with fail
    refine (number_any r w (by have := HR.out; unfold inR; omega)).mono ?_
    rintro e w1 ⟨rfl, hb1⟩
    have HB1 := Lib.hid hb1
    clear hb1
    rw [← hy.out]
    have hy1 := HY.out
    go_wp2_with fail
    go_ret
    exact ⟨ret_str (by rw [HF.out, show (⟨#[88]⟩ : ByteArray) = S [88] from rfl, S_app]; rfl), HB1.out⟩
set_option maxHeartbeats 1000000 in
theorem Pred_any (s : ByteArray) (a n : Int) (w : World) (hs : s.size ≤ 1000000) (ha : inR a) (hn : inR n) (h0 : 0 ≤ n) :
    Calls Tryz.prog 58 #[.agg #[.string s, .int .i64 a, .int .i64 n]] w fun e w' => e = .returned (.string (S (predL s.data.toList a n))) ∧ Below w.heap.size w w' := by
  have HA := Lib.hid ha
  have HN := Lib.hid hn
  have hql := quote_len s.data.toList
  have hnl := num_len n hn
  have hal := num_len a ha
  have hsl : s.data.toList.length = s.size := Array.length_toList
  obtain ⟨z, hz⟩ : ∃ x, Hid (x = quoteL s.data.toList) := ⟨_, rfl⟩
  obtain ⟨x, hx⟩ : ∃ x, Hid (x = numL n) := ⟨_, rfl⟩
  obtain ⟨y, hy⟩ : ∃ y, Hid (y = numL a) := ⟨_, rfl⟩
  have HZ := Lib.hid (show (S z).size ≤ 4000002 by rw [S_size, hz.out]; omega)
  have HX := Lib.hid (show (S x).size ≤ 21 by rw [S_size, hx.out]; omega)
  have HY := Lib.hid (show (S y).size ≤ 21 by rw [S_size, hy.out]; omega)
  clear ha hn hql hnl hal hsl
  obtain ⟨w0, hw0⟩ : ∃ X, Hid (X = w.alloc (.cells #[.string s, .int .i64 a, .int .i64 n] 23)) := ⟨_, rfl⟩
  obtain ⟨q, hq⟩ : ∃ q, Hid (q = w.heap.size) := ⟨_, rfl⟩
  have HB0 := Lib.hid (show Below w.heap.size w w0 by rw [hw0.out]; exact bAlloc _ _)
  have HQ := Lib.hid (show Blk w0 q 23 #[.string s, .int .i64 a, .int .i64 n] by rw [hw0.out, hq.out]; exact Blk.new _ _ _)
  go_enter Tryz.func58, Tryz.ntmps58
  go_upto_region 1 with fail
  rw [← hw0.out, ← hq.out]
  clear hw0 hq
  have p2 := HQ.out.cell 2
  have pl := HQ.out.lt
  simp at p2
  by_cases h1 : 0 < n
  · have q1 : decide (0 < n) = true := by simpa using h1
    have HF := Lib.hid (show predL s.data.toList a n = 35 :: (numL n ++ 47 :: numL a) by unfold predL; rw [if_neg (by omega)])
    clear h1
    go_upto_region 2 with fail
    clear p2 pl
    obtain ⟨D, hD⟩ : ∃ X, Hid (X = w0.drew) := ⟨_, rfl⟩
    have hd : Below w0.heap.size w0 D := by rw [hD.out]; exact bDrewN (Below.refl _ _) 1
    refine wp_region_N (fun w' => Below w0.heap.size w0 w') (fun _ => true) (by kernel_rfl) ?_
    rw [← hD.out]
    clear hD
    have hS0 := hd
    refine wpAnyN_take (i := 0) (v := ?v1) rfl (by kernel_rfl) (by kernel_rfl) (by kernel_rfl) (by kernel_rfl) (fun _ _ _ h => h) (Or.inl ⟨by rfl, ?hy1⟩) (by assumption) ?_
    case hy1 => intro w hSw; (try dsimp only at hSw); go_simp; try with_reducible rfl
    simp only [Act.put, List.getElem_toArray, List.getElem_cons_zero, List.setIfInBounds_toArray, List.set_cons_zero, List.set_cons_succ]
    refine wpAnyN_take (i := 1) (v := ?v2) rfl (by kernel_rfl) (by kernel_rfl) (by kernel_rfl) (by kernel_rfl) (fun _ _ _ h => h) (Or.inl ⟨by rfl, ?hy2⟩) (by assumption) ?_
    case hy2 => intro w hSw; have hh := BlkNext HQ.out hSw; have p0 := hh.cell 0; have p1 := hh.cell 1; have p2 := hh.cell 2; have pl := hh.lt; simp at p0 p1 p2; clear hh; go_simp; try with_reducible rfl
    simp only [Act.put, List.getElem_toArray, List.getElem_cons_zero, List.getElem_cons_succ, List.setIfInBounds_toArray, List.set_cons_zero, List.set_cons_succ]
    refine wpAnyN_take (i := 5) (v := ?v3) rfl (by kernel_rfl) (by kernel_rfl) (by kernel_rfl) (by kernel_rfl) (fun _ _ _ h => h) (Or.inl ⟨by rfl, ?hy3⟩) (by assumption) ?_
    case hy3 => intro w hSw; (try dsimp only at hSw); go_simp; try with_reducible rfl
    simp only [Act.put, List.getElem_toArray, List.getElem_cons_zero, List.getElem_cons_succ, List.setIfInBounds_toArray, List.set_cons_zero, List.set_cons_succ]
    refine wpAnyN_take (i := 6) (v := ?v4) rfl (by kernel_rfl) (by kernel_rfl) (by kernel_rfl) (by kernel_rfl) (fun _ _ _ h => h) (Or.inl ⟨by rfl, ?hy4⟩) (by assumption) ?_
    case hy4 => intro w hSw; have hh := BlkNext HQ.out hSw; have p0 := hh.cell 0; have p1 := hh.cell 1; have p2 := hh.cell 2; have pl := hh.lt; simp at p0 p1 p2; clear hh; go_simp; try with_reducible rfl
    simp only [Act.put, List.getElem_toArray, List.getElem_cons_zero, List.getElem_cons_succ, List.setIfInBounds_toArray, List.set_cons_zero, List.set_cons_succ]
    refine wpAnyN_one (i := 2) (by kernel_rfl) rfl (fun K hK => ?_)
    simp only [List.getElem_toArray, List.getElem_cons_zero, List.getElem_cons_succ]
    go_simp
    refine (number_any n D HN.out).mono ?_
    rintro e w1 ⟨rfl, hb⟩
    have hk1 : Below w0.heap.size w0 w1 := bNext hd hb
    refine hK _ _ (fun _ => hk1) ?_
    rw [← hx.out]
    have hx1 := HX.out
    clear hb
    (try simp only [Act.put, List.setIfInBounds_toArray, List.set_cons_zero, List.set_cons_succ])
    refine wpAnyN_take (i := 3) (v := .string ((⟨#[35]⟩ : ByteArray) ++ S x)) rfl (by kernel_rfl) (by kernel_rfl) (by kernel_rfl) (by kernel_rfl) (fun _ _ _ h => h) (Or.inl ⟨by rfl, ?hv3⟩) (by assumption) ?_
    case hv3 => intro w hSw; go_simp; omega
    simp only [Act.put, List.getElem_toArray, List.getElem_cons_zero, List.getElem_cons_succ, List.setIfInBounds_toArray, List.set_cons_zero, List.set_cons_succ]
    refine wpAnyN_take (i := 4) (v := .string ((⟨#[35]⟩ : ByteArray) ++ S x ++ ⟨#[47]⟩)) rfl (by kernel_rfl) (by kernel_rfl) (by kernel_rfl) (by kernel_rfl) (fun _ _ _ h => h) (Or.inl ⟨by rfl, ?hv4⟩) (by assumption) ?_
    case hv4 => intro w hSw; go_simp; omega
    simp only [Act.put, List.getElem_toArray, List.getElem_cons_zero, List.getElem_cons_succ, List.setIfInBounds_toArray, List.set_cons_zero, List.set_cons_succ]
    refine wpAnyN_one (i := 7) (by kernel_rfl) rfl (fun K hK => ?_)
    simp only [List.getElem_toArray, List.getElem_cons_zero, List.getElem_cons_succ]
    go_simp
    refine (number_any a w1 HA.out).mono ?_
    rintro e w2 ⟨rfl, hb⟩
    have hk2 : Below w0.heap.size w0 w2 := bNext hk1 hb
    refine hK _ _ (fun _ => hk2) ?_
    rw [← hy.out]
    have hy1 := HY.out
    clear hb
    (try simp only [Act.put, List.setIfInBounds_toArray, List.set_cons_zero, List.set_cons_succ])
    refine wpAnyN_take (i := 8) (v := .string ((⟨#[35]⟩ : ByteArray) ++ S x ++ ⟨#[47]⟩ ++ S y)) rfl (by kernel_rfl) (by kernel_rfl) (by kernel_rfl) (by kernel_rfl) (fun _ _ _ h => h) (Or.inl ⟨by rfl, ?hv8⟩) (by assumption) ?_
    case hv8 => intro w hSw; go_simp; omega
    simp only [Act.put, List.getElem_toArray, List.getElem_cons_zero, List.getElem_cons_succ, List.setIfInBounds_toArray, List.set_cons_zero, List.set_cons_succ]
    refine wpAnyN_take (i := 9) (v := ?v5) rfl (by kernel_rfl) (by kernel_rfl) (by kernel_rfl) (by kernel_rfl) (fun _ _ _ h => h) (Or.inl ⟨by rfl, ?hy5⟩) (by assumption) ?_
    case hy5 => intro w hSw; (try dsimp only at hSw); go_simp; try with_reducible rfl
    simp only [Act.put, List.getElem_toArray, List.getElem_cons_zero, List.getElem_cons_succ, List.setIfInBounds_toArray, List.set_cons_zero, List.set_cons_succ]
    refine wpAnyN_done (by kernel_rfl) ?_ _
    have HB2 := Lib.hid (bNext HB0.out hk2)
    clear hk1 hk2 hS0 hd
    go_wp2_with fail
    go_ret
    refine ⟨ret_str ?_, HB2.out⟩
    rw [HF.out, show (⟨#[35]⟩ : ByteArray) = S [35] from rfl, show (⟨#[47]⟩ : ByteArray) = S [47] from rfl, S_app, S_app, S_app, hx.out, hy.out]
    simp
  · have q1 : decide (0 < n) = false := by simpa using h1
    have HF := Lib.hid (show predL s.data.toList a n = quoteL s.data.toList ++ 47 :: numL a by unfold predL; rw [if_pos (by omega)]; rfl)
    clear h1
    go_upto_region 3 with fail
    clear p2 pl
    obtain ⟨D, hD⟩ : ∃ X, Hid (X = w0.drew) := ⟨_, rfl⟩
    have hd : Below w0.heap.size w0 D := by rw [hD.out]; exact bDrewN (Below.refl _ _) 1
    refine wp_region_N (fun w' => Below w0.heap.size w0 w') (fun _ => true) (by kernel_rfl) ?_
    rw [← hD.out]
    clear hD
    have hS0 := hd
    refine wpAnyN_take (i := 0) (v := ?v6) rfl (by kernel_rfl) (by kernel_rfl) (by kernel_rfl) (by kernel_rfl) (fun _ _ _ h => h) (Or.inl ⟨by rfl, ?hy6⟩) (by assumption) ?_
    case hy6 => intro w hSw; (try dsimp only at hSw); go_simp; try with_reducible rfl
    simp only [Act.put, List.getElem_toArray, List.getElem_cons_zero, List.setIfInBounds_toArray, List.set_cons_zero, List.set_cons_succ]
    refine wpAnyN_take (i := 1) (v := ?v7) rfl (by kernel_rfl) (by kernel_rfl) (by kernel_rfl) (by kernel_rfl) (fun _ _ _ h => h) (Or.inl ⟨by rfl, ?hy7⟩) (by assumption) ?_
    case hy7 => intro w hSw; have hh := BlkNext HQ.out hSw; have p0 := hh.cell 0; have p1 := hh.cell 1; have p2 := hh.cell 2; have pl := hh.lt; simp at p0 p1 p2; clear hh; go_simp; try with_reducible rfl
    simp only [Act.put, List.getElem_toArray, List.getElem_cons_zero, List.getElem_cons_succ, List.setIfInBounds_toArray, List.set_cons_zero, List.set_cons_succ]
    refine wpAnyN_take (i := 4) (v := ?v8) rfl (by kernel_rfl) (by kernel_rfl) (by kernel_rfl) (by kernel_rfl) (fun _ _ _ h => h) (Or.inl ⟨by rfl, ?hy8⟩) (by assumption) ?_
    case hy8 => intro w hSw; (try dsimp only at hSw); go_simp; try with_reducible rfl
    simp only [Act.put, List.getElem_toArray, List.getElem_cons_zero, List.getElem_cons_succ, List.setIfInBounds_toArray, List.set_cons_zero, List.set_cons_succ]
    refine wpAnyN_take (i := 5) (v := ?v9) rfl (by kernel_rfl) (by kernel_rfl) (by kernel_rfl) (by kernel_rfl) (fun _ _ _ h => h) (Or.inl ⟨by rfl, ?hy9⟩) (by assumption) ?_
    case hy9 => intro w hSw; have hh := BlkNext HQ.out hSw; have p0 := hh.cell 0; have p1 := hh.cell 1; have p2 := hh.cell 2; have pl := hh.lt; simp at p0 p1 p2; clear hh; go_simp; try with_reducible rfl
    simp only [Act.put, List.getElem_toArray, List.getElem_cons_zero, List.getElem_cons_succ, List.setIfInBounds_toArray, List.set_cons_zero, List.set_cons_succ]
    refine wpAnyN_one (i := 2) (by kernel_rfl) rfl (fun K hK => ?_)
    simp only [List.getElem_toArray, List.getElem_cons_zero, List.getElem_cons_succ]
    go_simp
    refine (Quote_any s D (Nat.le_trans hs (by omega))).mono ?_
    rintro e w1 ⟨rfl, hb⟩
    have hk1 : Below w0.heap.size w0 w1 := bNext hd hb
    refine hK _ _ (fun _ => hk1) ?_
    rw [← hz.out]
    have hz1 := HZ.out
    clear hb
    (try simp only [Act.put, List.setIfInBounds_toArray, List.set_cons_zero, List.set_cons_succ])
    refine wpAnyN_take (i := 3) (v := .string (S z ++ ⟨#[47]⟩)) rfl (by kernel_rfl) (by kernel_rfl) (by kernel_rfl) (by kernel_rfl) (fun _ _ _ h => h) (Or.inl ⟨by rfl, ?hv13⟩) (by assumption) ?_
    case hv13 => intro w hSw; go_simp; omega
    simp only [Act.put, List.getElem_toArray, List.getElem_cons_zero, List.getElem_cons_succ, List.setIfInBounds_toArray, List.set_cons_zero, List.set_cons_succ]
    refine wpAnyN_one (i := 6) (by kernel_rfl) rfl (fun K hK => ?_)
    simp only [List.getElem_toArray, List.getElem_cons_zero, List.getElem_cons_succ]
    go_simp
    refine (number_any a w1 HA.out).mono ?_
    rintro e w2 ⟨rfl, hb⟩
    have hk2 : Below w0.heap.size w0 w2 := bNext hk1 hb
    refine hK _ _ (fun _ => hk2) ?_
    rw [← hy.out]
    have hy1 := HY.out
    clear hb
    (try simp only [Act.put, List.setIfInBounds_toArray, List.set_cons_zero, List.set_cons_succ])
    refine wpAnyN_take (i := 7) (v := .string (S z ++ ⟨#[47]⟩ ++ S y)) rfl (by kernel_rfl) (by kernel_rfl) (by kernel_rfl) (by kernel_rfl) (fun _ _ _ h => h) (Or.inl ⟨by rfl, ?hv17⟩) (by assumption) ?_
    case hv17 => intro w hSw; go_simp; omega
    simp only [Act.put, List.getElem_toArray, List.getElem_cons_zero, List.getElem_cons_succ, List.setIfInBounds_toArray, List.set_cons_zero, List.set_cons_succ]
    refine wpAnyN_take (i := 8) (v := ?v10) rfl (by kernel_rfl) (by kernel_rfl) (by kernel_rfl) (by kernel_rfl) (fun _ _ _ h => h) (Or.inl ⟨by rfl, ?hy10⟩) (by assumption) ?_
    case hy10 => intro w hSw; (try dsimp only at hSw); go_simp; try with_reducible rfl
    simp only [Act.put, List.getElem_toArray, List.getElem_cons_zero, List.getElem_cons_succ, List.setIfInBounds_toArray, List.set_cons_zero, List.set_cons_succ]
    refine wpAnyN_done (by kernel_rfl) ?_ _
    have HB2 := Lib.hid (bNext HB0.out hk2)
    clear hk1 hk2 hS0 hd
    go_wp2_with fail
    go_ret
    refine ⟨ret_str ?_, HB2.out⟩
    rw [HF.out, show (⟨#[47]⟩ : ByteArray) = S [47] from rfl, S_app, S_app, hz.out, hy.out]
    simp
set_option maxHeartbeats 1000000 in
theorem Key_any (k n : Int) (s : ByteArray) (a : Int) (w : World) (hs : s.size ≤ 1000000) (ha : inR a) (hn : inR n) :
    Calls Tryz.prog 59 #[.agg #[.int .i64 k, .int .i64 n, .string s, .int .i64 a]] w fun e w' => e = .returned (.string (S (keyL k n s.data.toList a))) ∧ Below w.heap.size w w' := by
  have HA := Lib.hid ha
  have HN := Lib.hid hn
  have hql := quote_len s.data.toList
  have hal := num_len a ha
  have hsl : s.data.toList.length = s.size := Array.length_toList
  obtain ⟨z, hz⟩ : ∃ x, Hid (x = quoteL s.data.toList) := ⟨_, rfl⟩
  obtain ⟨y, hy⟩ : ∃ y, Hid (y = numL a) := ⟨_, rfl⟩
  have HZ := Lib.hid (show (S z).size ≤ 4000002 by rw [S_size, hz.out]; omega)
  have HY := Lib.hid (show (S y).size ≤ 21 by rw [S_size, hy.out]; omega)
  clear ha hn hql hal hsl
  obtain ⟨w0, hw0⟩ : ∃ X, Hid (X = w.alloc (.cells #[.int .i64 k, .int .i64 n, .string s, .int .i64 a] 25)) := ⟨_, rfl⟩
  obtain ⟨q, hq⟩ : ∃ q, Hid (q = w.heap.size) := ⟨_, rfl⟩
  have HB0 := Lib.hid (show Below w.heap.size w w0 by rw [hw0.out]; exact bAlloc _ _)
  have HQ := Lib.hid (show Blk w0 q 25 #[.int .i64 k, .int .i64 n, .string s, .int .i64 a] by rw [hw0.out, hq.out]; exact Blk.new _ _ _)
  go_enter Tryz.func59, Tryz.ntmps59
  go_upto_region 1 with fail
  rw [← hw0.out, ← hq.out]
  clear hw0 hq
  have p0 := HQ.out.cell 0
  have p1 := HQ.out.cell 1
  have p2 := HQ.out.cell 2
  have p3 := HQ.out.cell 3
  have pl := HQ.out.lt
  simp at p0 p1 p2 p3
  by_cases h1 : k = 1
  · subst h1
    go_wp2_with fail
    refine (number_any n w0 HN.out).mono ?_
    rintro e w1 ⟨rfl, hb1⟩
    have HB1 := Lib.hid (bNext HB0.out hb1)
    clear hb1 p0 p1 p2 p3 pl
    go_wp2_with fail
    go_ret
    exact ⟨ret_str rfl, HB1.out⟩
  · have q1 : (k == 1) = false := by simpa using h1
    by_cases h2 : k = 2
    · subst h2
      clear h1
      go_wp2_with fail
      refine (Quote_any s w0 (by omega)).mono ?_
      rintro e w1 ⟨rfl, hb1⟩
      have HB1 := Lib.hid (bNext HB0.out hb1)
      clear hb1 p0 p1 p2 p3 pl
      go_wp2_with fail
      go_ret
      exact ⟨ret_str rfl, HB1.out⟩
    · have q2 : (k == 2) = false := by simpa using h2
      by_cases h3 : k = 3
      · subst h3
        clear h1 h2
        go_upto_region 7 with fail
        clear p0 p1 p2 p3 pl q1 q2
        obtain ⟨D, hD⟩ : ∃ X, Hid (X = w0.drew) := ⟨_, rfl⟩
        have hd : Below w0.heap.size w0 D := by rw [hD.out]; exact bDrewN (Below.refl _ _) 1
        refine wp_region_N (fun w' => Below w0.heap.size w0 w') (fun _ => true) (by kernel_rfl) ?_
        rw [← hD.out]
        clear hD
        have hS0 := hd
        refine wpAnyN_take (i := 0) (v := ?v11) rfl (by kernel_rfl) (by kernel_rfl) (by kernel_rfl) (by kernel_rfl) (fun _ _ _ h => h) (Or.inl ⟨by rfl, ?hy11⟩) (by assumption) ?_
        case hy11 => intro w hSw; (try dsimp only at hSw); go_simp; try with_reducible rfl
        simp only [Act.put, List.getElem_toArray, List.getElem_cons_zero, List.setIfInBounds_toArray, List.set_cons_zero, List.set_cons_succ]
        refine wpAnyN_take (i := 1) (v := ?v12) rfl (by kernel_rfl) (by kernel_rfl) (by kernel_rfl) (by kernel_rfl) (fun _ _ _ h => h) (Or.inl ⟨by rfl, ?hy12⟩) (by assumption) ?_
        case hy12 => intro w hSw; have hh := BlkNext HQ.out hSw; have p2 := hh.cell 2; have p3 := hh.cell 3; have pl := hh.lt; simp at p2 p3; clear hh; go_simp; try with_reducible rfl
        simp only [Act.put, List.getElem_toArray, List.getElem_cons_zero, List.getElem_cons_succ, List.setIfInBounds_toArray, List.set_cons_zero, List.set_cons_succ]
        refine wpAnyN_take (i := 4) (v := ?v13) rfl (by kernel_rfl) (by kernel_rfl) (by kernel_rfl) (by kernel_rfl) (fun _ _ _ h => h) (Or.inl ⟨by rfl, ?hy13⟩) (by assumption) ?_
        case hy13 => intro w hSw; (try dsimp only at hSw); go_simp; try with_reducible rfl
        simp only [Act.put, List.getElem_toArray, List.getElem_cons_zero, List.getElem_cons_succ, List.setIfInBounds_toArray, List.set_cons_zero, List.set_cons_succ]
        refine wpAnyN_take (i := 5) (v := ?v14) rfl (by kernel_rfl) (by kernel_rfl) (by kernel_rfl) (by kernel_rfl) (fun _ _ _ h => h) (Or.inl ⟨by rfl, ?hy14⟩) (by assumption) ?_
        case hy14 => intro w hSw; have hh := BlkNext HQ.out hSw; have p2 := hh.cell 2; have p3 := hh.cell 3; have pl := hh.lt; simp at p2 p3; clear hh; go_simp; try with_reducible rfl
        simp only [Act.put, List.getElem_toArray, List.getElem_cons_zero, List.getElem_cons_succ, List.setIfInBounds_toArray, List.set_cons_zero, List.set_cons_succ]
        refine wpAnyN_one (i := 2) (by kernel_rfl) rfl (fun K hK => ?_)
        simp only [List.getElem_toArray, List.getElem_cons_zero, List.getElem_cons_succ]
        go_simp
        refine (Quote_any s D (Nat.le_trans hs (by omega))).mono ?_
        rintro e w1 ⟨rfl, hb⟩
        have hk1 : Below w0.heap.size w0 w1 := bNext hd hb
        refine hK _ _ (fun _ => hk1) ?_
        rw [← hz.out]
        have hz1 := HZ.out
        clear hb
        (try simp only [Act.put, List.setIfInBounds_toArray, List.set_cons_zero, List.set_cons_succ])
        refine wpAnyN_take (i := 3) (v := .string (S z ++ ⟨#[47]⟩)) rfl (by kernel_rfl) (by kernel_rfl) (by kernel_rfl) (by kernel_rfl) (fun _ _ _ h => h) (Or.inl ⟨by rfl, ?hv13⟩) (by assumption) ?_
        case hv13 => intro w hSw; go_simp; omega
        simp only [Act.put, List.getElem_toArray, List.getElem_cons_zero, List.getElem_cons_succ, List.setIfInBounds_toArray, List.set_cons_zero, List.set_cons_succ]
        refine wpAnyN_one (i := 6) (by kernel_rfl) rfl (fun K hK => ?_)
        simp only [List.getElem_toArray, List.getElem_cons_zero, List.getElem_cons_succ]
        go_simp
        refine (number_any a w1 HA.out).mono ?_
        rintro e w2 ⟨rfl, hb⟩
        have hk2 : Below w0.heap.size w0 w2 := bNext hk1 hb
        refine hK _ _ (fun _ => hk2) ?_
        rw [← hy.out]
        have hy1 := HY.out
        clear hb
        (try simp only [Act.put, List.setIfInBounds_toArray, List.set_cons_zero, List.set_cons_succ])
        refine wpAnyN_take (i := 7) (v := .string (S z ++ ⟨#[47]⟩ ++ S y)) rfl (by kernel_rfl) (by kernel_rfl) (by kernel_rfl) (by kernel_rfl) (fun _ _ _ h => h) (Or.inl ⟨by rfl, ?hv17⟩) (by assumption) ?_
        case hv17 => intro w hSw; go_simp; omega
        simp only [Act.put, List.getElem_toArray, List.getElem_cons_zero, List.getElem_cons_succ, List.setIfInBounds_toArray, List.set_cons_zero, List.set_cons_succ]
        refine wpAnyN_take (i := 8) (v := ?v15) rfl (by kernel_rfl) (by kernel_rfl) (by kernel_rfl) (by kernel_rfl) (fun _ _ _ h => h) (Or.inl ⟨by rfl, ?hy15⟩) (by assumption) ?_
        case hy15 => intro w hSw; (try dsimp only at hSw); go_simp; try with_reducible rfl
        simp only [Act.put, List.getElem_toArray, List.getElem_cons_zero, List.getElem_cons_succ, List.setIfInBounds_toArray, List.set_cons_zero, List.set_cons_succ]
        refine wpAnyN_done (by kernel_rfl) ?_ _
        have HB2 := Lib.hid (bNext HB0.out hk2)
        clear hk1 hk2 hS0 hd
        go_wp2_with fail
        go_ret
        refine ⟨ret_str ?_, HB2.out⟩
        rw [show keyL 3 n s.data.toList a = quoteL s.data.toList ++ 47 :: numL a from rfl, show (⟨#[47]⟩ : ByteArray) = S [47] from rfl, S_app, S_app, hz.out, hy.out]
        simp
      · have q3 : (k == 3) = false := by simpa using h3
        have HF := Lib.hid (show keyL k n s.data.toList a = [95] by unfold keyL; rw [if_neg h1, if_neg h2, if_neg h3])
        clear h1 h2 h3
        go_wp2_with fail
        go_ret
        exact ⟨ret_str (by rw [HF.out]; rfl), HB0.out⟩
end
section
open Go.RowKit

theorem opN_ok {op : Int} (h : okOp op = true) : opN op = op := by unfold opN; rw [if_pos h]
set_option maxRecDepth 100000 in
set_option maxHeartbeats 2000000 in
theorem Line_any (x : In) (w : World) (hf : fo x = true) (hn : inR x.n) : Calls Tryz.prog 60 #[x.v] w fun e w' => e = .returned (.string (S (lineL x))) ∧ Below w.heap.size w w' := by
  have HNR := Lib.hid hn
  have HF := Lib.hid hf
  have HFN := Lib.hid (fon hf)
  have HNM := Lib.hid (show x.nm.size ≤ 1000000 by have := HFN.out.nm; omega)
  have HNB := Lib.hid (show x.nm.size ≤ 1000000000 by have := HFN.out.nm; omega)
  have HAR := Lib.hid (show inR x.ar by have := HFN.out.ar; unfold inR; omega)
  clear hn hf
  obtain ⟨w0, hw0⟩ : ∃ X, Hid (X = w.alloc (.cells #[.int .i64 x.op, .int .i64 x.r, .int .i64 x.a, .int .i64 x.n, .string x.nm, .int .i64 x.ar] 34)) := ⟨_, rfl⟩
  obtain ⟨q, hq⟩ : ∃ q, Hid (q = w.heap.size) := ⟨_, rfl⟩
  have HX := Lib.hid (show BoxI w0 q x by rw [hw0.out, hq.out]; exact BoxI.new w x)
  have HB0 := Lib.hid (show Below w.heap.size w w0 by rw [hw0.out]; exact bAlloc _ _)
  go_enter Tryz.func60, Tryz.ntmps60
  go_upto_region 1 with fail
  rw [← hw0.out, ← hq.out]
  clear hw0 hq
  obtain ⟨x0, x1, x2, x3, x4, x5⟩ := BoxI.cells HX.out
  go_wp2_with fail
  refine (shape_any x.op w0).mono ?_
  rintro e w1 ⟨rfl, hb1⟩
  have HX1 := Lib.hid (BlkNext HX.out hb1)
  have HB1 := Lib.hid (bNext HB0.out hb1)
  clear hb1 x0 x1 x2 x3 x4 x5 HX HB0
  go_upto_region 2 with fail
  obtain ⟨s, hs⟩ : ∃ s, Hid (s = (sh x.op).2.1) := ⟨_, rfl⟩
  have hs2 : s.size ≤ 2 := by rw [hs.out]; exact flds_len _
  have HFL := Lib.hid (show flds x.op = s.data.toList by rw [hs.out]; rfl)
  obtain ⟨sb, hsb⟩ : ∃ q, Hid (q = w1.heap.size) := ⟨_, rfl⟩
  obtain ⟨w2, hw2⟩ : ∃ X, Hid (X = w1.alloc (.cells #[.int .i64 (opN x.op), .string (sh x.op).1, .string (sh x.op).2.1, .string (sh x.op).2.2.1, .string (sh x.op).2.2.2] 97)) := ⟨_, rfl⟩
  have HS2 := Lib.hid (show Blk w2 sb 97 #[.int .i64 (opN x.op), .string (sh x.op).1, .string (sh x.op).2.1, .string (sh x.op).2.2.1, .string (sh x.op).2.2.2] by rw [hw2.out, hsb.out]; exact Blk.new _ _ _)
  have HX2 := Lib.hid (show BoxI w2 q x by rw [hw2.out]; exact Blk.alloc HX1.out _)
  have HB2 := Lib.hid (show Below w.heap.size w w2 by rw [hw2.out]; exact HB1.out.alloc HB1.out.size _)
  rw [← hw2.out, ← hsb.out]
  clear hw2 hsb HX1 HB1
  have hnm : (sh x.op).1 = S (nameL x.op) := (S_eta _).symm
  have p1 := HS2.out.cell 1
  have p2 := HS2.out.cell 2
  have pl := HS2.out.lt
  simp at p1 p2
  rw [hnm] at p1
  clear hnm
  go_wp2_with fail
  clear p1 p2 pl
  go_loopw [5, 6] (fun v i wr => ∃ k : Nat, i = .int .i64 k ∧ k ≤ s.size ∧ v = .string (S (nameL x.op ++ (s.data.toList.take k).flatMap fun c => 32 :: fieldL x c)) ∧ Hid (Below w2.heap.size w2 wr)) (fun _ i _ => s.size - (intOf i).toNat)
  case atStart => exact ⟨0, rfl, Nat.zero_le _, by simp, Lib.hid (Below.refl _ _)⟩
  case round =>
    obtain ⟨k, rfl, hk, rfl, HB⟩ := hrel
    have HX3 := Lib.hid (BlkNext HX2.out HB.out)
    have HS3 := Lib.hid (HS2.out.below HB.out HS2.out.lt)
    have HBW := Lib.hid (bNext HB2.out HB.out)
    have p2 := HS3.out.cell 2
    have pl := HS3.out.lt
    simp at p2
    rw [← hs.out] at p2
    by_cases hlt : k < s.size
    · have hlj : decide ((k : Int) < (s.size : Int)) = true := by simp; omega
      have hget : s.data.toList[k]? = some (s[k]'hlt) := by simp [hlt]; rfl
      have hmem2 : (s[k]'hlt) ∈ flds x.op := by rw [HFL.out]; exact List.mem_of_getElem? hget
      have hmem := flds_mem x.op _ hmem2
      have HFLN := Lib.hid (field_len HF.out HNR.out hmem2)
      have HMEM := Lib.hid hmem2
      obtain ⟨acc, hacc⟩ : ∃ acc, Hid (acc = nameL x.op ++ (s.data.toList.take k).flatMap fun c => 32 :: fieldL x c) := ⟨_, rfl⟩
      have HAL := Lib.hid (show (S acc).size ≤ 2000 by
        rw [S_size, hacc.out, List.length_append]
        have h1 := name_len x.op
        have h2 : ((s.data.toList.take k).flatMap fun c => 32 :: fieldL x c).length ≤ 451 * 2 := by
          have h3 : ∀ l : List UInt8, (∀ c ∈ l, c ∈ flds x.op) → (l.flatMap fun c => 32 :: fieldL x c).length ≤ 451 * l.length := by
            intro l
            induction l with
            | nil => intro _; simp
            | cons c t ih =>
              intro hm
              have h4 := field_len HF.out HNR.out (hm c (by simp))
              have h5 := ih (fun d hd => hm d (by simp [hd]))
              rw [List.flatMap_cons, List.length_append, List.length_cons, List.length_cons]
              omega
          have h6 := h3 (s.data.toList.take k) (fun c hc => by rw [HFL.out]; exact List.mem_of_mem_take hc)
          have h7 : (s.data.toList.take k).length ≤ k := List.length_take_le _ _
          omega
        omega)
      have HST := Lib.hid (show S acc ++ (⟨#[32]⟩ : ByteArray) ++ S (fieldL x (s[k]'hlt)) = S (nameL x.op ++ (s.data.toList.take (k + 1)).flatMap fun c => 32 :: fieldL x c) by
        rw [List.take_add_one, hget, show (⟨#[32]⟩ : ByteArray) = S [32] from rfl, S_app, S_app, hacc.out]; simp)
      rw [← hacc.out]
      have hal := HAL.out
      clear hget hmem2
      obtain ⟨x0, x1, x2, x3, x4, x5⟩ := BoxI.cells HX3.out
      obtain ⟨c, hc⟩ : ∃ c, s[k]'hlt = c := ⟨_, rfl⟩
      rw [hc] at hmem HFLN HMEM HST
      rcases hmem with rfl | rfl | rfl | rfl | rfl | rfl | rfl | rfl
      · go_wp2_with fail
        refine (Reg_any x.r wr (HFN.out.rg.1 HMEM.out)).mono ?_
        rintro e w3 ⟨rfl, hb3⟩
        have HB3 := Lib.hid (bNext HB.out hb3)
        have ht : (S (regL x.r)).size ≤ 450 := by rw [S_size]; exact HFLN.out
        have HSN := Lib.hid (show S acc ++ (⟨#[32]⟩ : ByteArray) ++ S (regL x.r) = S (nameL x.op ++ (s.data.toList.take (k + 1)).flatMap fun c => 32 :: fieldL x c) from HST.out)
        clear hb3 x0 x1 x2 x3 x4 x5 p2
        go_wp2_with fail
        exact ⟨⟨k + 1, by go_num, hlt, congrArg Value.string HSN.out, HB3⟩, by simp [intOf]; omega⟩
      · go_wp2_with fail
        refine (Reg_any x.a wr (HFN.out.rg.2 HMEM.out)).mono ?_
        rintro e w3 ⟨rfl, hb3⟩
        have HB3 := Lib.hid (bNext HB.out hb3)
        have ht : (S (regL x.a)).size ≤ 450 := by rw [S_size]; exact HFLN.out
        have HSN := Lib.hid (show S acc ++ (⟨#[32]⟩ : ByteArray) ++ S (regL x.a) = S (nameL x.op ++ (s.data.toList.take (k + 1)).flatMap fun c => 32 :: fieldL x c) from HST.out)
        clear hb3 x0 x1 x2 x3 x4 x5 p2
        go_wp2_with fail
        exact ⟨⟨k + 1, by go_num, hlt, congrArg Value.string HSN.out, HB3⟩, by simp [intOf]; omega⟩
      · go_wp2_with fail
        refine (number_any x.n wr HNR.out).mono ?_
        rintro e w3 ⟨rfl, hb3⟩
        have HB3 := Lib.hid (bNext HB.out hb3)
        have ht : (S (numL x.n)).size ≤ 450 := by rw [S_size]; exact HFLN.out
        have HSN := Lib.hid (show S acc ++ (⟨#[32]⟩ : ByteArray) ++ S (numL x.n) = S (nameL x.op ++ (s.data.toList.take (k + 1)).flatMap fun c => 32 :: fieldL x c) from HST.out)
        clear hb3 x0 x1 x2 x3 x4 x5 p2
        go_wp2_with fail
        exact ⟨⟨k + 1, by go_num, hlt, congrArg Value.string HSN.out, HB3⟩, by simp [intOf]; omega⟩
      · go_wp2_with fail
        refine (number_any x.n wr HNR.out).mono ?_
        rintro e w3 ⟨rfl, hb3⟩
        have HB3 := Lib.hid (bNext HB.out hb3)
        have ht : (S (numL x.n)).size ≤ 450 := by rw [S_size]; exact HFLN.out
        have HSN := Lib.hid (show S acc ++ (⟨#[32]⟩ : ByteArray) ++ S (numL x.n) = S (nameL x.op ++ (s.data.toList.take (k + 1)).flatMap fun c => 32 :: fieldL x c) from HST.out)
        clear hb3 x0 x1 x2 x3 x4 x5 p2
        go_wp2_with fail
        exact ⟨⟨k + 1, by go_num, hlt, congrArg Value.string HSN.out, HB3⟩, by simp [intOf]; omega⟩
      · go_wp2_with fail
        refine (number_any x.n wr HNR.out).mono ?_
        rintro e w3 ⟨rfl, hb3⟩
        have HB3 := Lib.hid (bNext HB.out hb3)
        have ht : (S (numL x.n)).size ≤ 450 := by rw [S_size]; exact HFLN.out
        have HSN := Lib.hid (show S acc ++ (⟨#[32]⟩ : ByteArray) ++ S (numL x.n) = S (nameL x.op ++ (s.data.toList.take (k + 1)).flatMap fun c => 32 :: fieldL x c) from HST.out)
        clear hb3 x0 x1 x2 x3 x4 x5 p2
        go_wp2_with fail
        exact ⟨⟨k + 1, by go_num, hlt, congrArg Value.string HSN.out, HB3⟩, by simp [intOf]; omega⟩
      · go_wp2_with fail
        refine (Quote_any x.nm wr HNB.out).mono ?_
        rintro e w3 ⟨rfl, hb3⟩
        have HB3 := Lib.hid (bNext HB.out hb3)
        have ht : (S (quoteL x.nm.data.toList)).size ≤ 450 := by rw [S_size]; exact HFLN.out
        have HSN := Lib.hid (show S acc ++ (⟨#[32]⟩ : ByteArray) ++ S (quoteL x.nm.data.toList) = S (nameL x.op ++ (s.data.toList.take (k + 1)).flatMap fun c => 32 :: fieldL x c) from HST.out)
        clear hb3 x0 x1 x2 x3 x4 x5 p2
        go_wp2_with fail
        exact ⟨⟨k + 1, by go_num, hlt, congrArg Value.string HSN.out, HB3⟩, by simp [intOf]; omega⟩
      · go_upto_region 16 with fail
        clear x0 x1 x2 x3 x4 x5 p2 pl
        obtain ⟨z, hz⟩ : ∃ y, Hid (y = quoteL x.nm.data.toList) := ⟨_, rfl⟩
        obtain ⟨y, hy⟩ : ∃ y, Hid (y = numL x.ar) := ⟨_, rfl⟩
        have hzl : (S z).size ≤ 450 := by
          rw [S_size, hz.out]
          have h1 := quote_len x.nm.data.toList
          have h2 : x.nm.data.toList.length = x.nm.size := Array.length_toList
          have h3 := HFN.out.nm
          omega
        have hyl : (S y).size ≤ 21 := by rw [S_size, hy.out]; exact num_len _ HAR.out
        obtain ⟨D, hD⟩ : ∃ X, Hid (X = wr.drew) := ⟨_, rfl⟩
        have hd : Below wr.heap.size wr D := by rw [hD.out]; exact bDrewN (Below.refl _ _) 1
        refine wp_region_N (fun w' => Below wr.heap.size wr w') (fun _ => true) (by kernel_rfl) ?_
        rw [← hD.out]
        clear hD
        have hS0 := hd
        refine wpAnyN_take (i := 0) (v := ?v1) rfl (by kernel_rfl) (by kernel_rfl) (by kernel_rfl) (by kernel_rfl) (fun _ _ _ h => h) (Or.inl ⟨by rfl, ?hy1⟩) (by assumption) ?_
        case hy1 => intro w hSw; (try dsimp only at hSw); go_simp; try with_reducible rfl
        simp only [Act.put, List.getElem_toArray, List.getElem_cons_zero, List.setIfInBounds_toArray, List.set_cons_zero, List.set_cons_succ]
        refine wpAnyN_take (i := 1) (v := ?v2) rfl (by kernel_rfl) (by kernel_rfl) (by kernel_rfl) (by kernel_rfl) (fun _ _ _ h => h) (Or.inl ⟨by rfl, ?hy2⟩) (by assumption) ?_
        case hy2 => intro w hSw; (try dsimp only at hSw); go_simp; try with_reducible rfl
        simp only [Act.put, List.getElem_toArray, List.getElem_cons_zero, List.getElem_cons_succ, List.setIfInBounds_toArray, List.set_cons_zero, List.set_cons_succ]
        refine wpAnyN_take (i := 2) (v := ?v3) rfl (by kernel_rfl) (by kernel_rfl) (by kernel_rfl) (by kernel_rfl) (fun _ _ _ h => h) (Or.inl ⟨by rfl, ?hy3⟩) (by assumption) ?_
        case hy3 => intro w hSw; obtain ⟨x0, x1, x2, x3, x4, x5⟩ := BoxI.cells (BlkNext HX3.out hSw); go_simp; try with_reducible rfl
        simp only [Act.put, List.getElem_toArray, List.getElem_cons_zero, List.getElem_cons_succ, List.setIfInBounds_toArray, List.set_cons_zero, List.set_cons_succ]
        refine wpAnyN_take (i := 6) (v := ?v4) rfl (by kernel_rfl) (by kernel_rfl) (by kernel_rfl) (by kernel_rfl) (fun _ _ _ h => h) (Or.inl ⟨by rfl, ?hy4⟩) (by assumption) ?_
        case hy4 => intro w hSw; (try dsimp only at hSw); go_simp; try with_reducible rfl
        simp only [Act.put, List.getElem_toArray, List.getElem_cons_zero, List.getElem_cons_succ, List.setIfInBounds_toArray, List.set_cons_zero, List.set_cons_succ]
        refine wpAnyN_take (i := 7) (v := ?v5) rfl (by kernel_rfl) (by kernel_rfl) (by kernel_rfl) (by kernel_rfl) (fun _ _ _ h => h) (Or.inl ⟨by rfl, ?hy5⟩) (by assumption) ?_
        case hy5 => intro w hSw; obtain ⟨x0, x1, x2, x3, x4, x5⟩ := BoxI.cells (BlkNext HX3.out hSw); go_simp; try with_reducible rfl
        simp only [Act.put, List.getElem_toArray, List.getElem_cons_zero, List.getElem_cons_succ, List.setIfInBounds_toArray, List.set_cons_zero, List.set_cons_succ]
        refine wpAnyN_one (i := 3) (by kernel_rfl) rfl (fun K hK => ?_)
        simp only [List.getElem_toArray, List.getElem_cons_zero, List.getElem_cons_succ]
        go_simp
        refine (Quote_any x.nm D HNB.out).mono ?_
        rintro e w3 ⟨rfl, hb⟩
        have hk1 : Below wr.heap.size wr w3 := bNext hd hb
        refine hK _ _ (fun _ => hk1) ?_
        rw [← hz.out]
        clear hb
        (try simp only [Act.put, List.setIfInBounds_toArray, List.set_cons_zero, List.set_cons_succ])
        refine wpAnyN_take (i := 4) (v := .string (S acc ++ ⟨#[32]⟩ ++ S z)) rfl (by kernel_rfl) (by kernel_rfl) (by kernel_rfl) (by kernel_rfl) (fun _ _ _ h => h) (Or.inl ⟨by rfl, ?hv4⟩) (by assumption) ?_
        case hv4 => intro w hSw; go_simp; omega
        simp only [Act.put, List.getElem_toArray, List.getElem_cons_zero, List.getElem_cons_succ, List.setIfInBounds_toArray, List.set_cons_zero, List.set_cons_succ]
        refine wpAnyN_take (i := 5) (v := .string (S acc ++ ⟨#[32]⟩ ++ S z ++ ⟨#[47]⟩)) rfl (by kernel_rfl) (by kernel_rfl) (by kernel_rfl) (by kernel_rfl) (fun _ _ _ h => h) (Or.inl ⟨by rfl, ?hv5⟩) (by assumption) ?_
        case hv5 => intro w hSw; go_simp; omega
        simp only [Act.put, List.getElem_toArray, List.getElem_cons_zero, List.getElem_cons_succ, List.setIfInBounds_toArray, List.set_cons_zero, List.set_cons_succ]
        refine wpAnyN_one (i := 8) (by kernel_rfl) rfl (fun K hK => ?_)
        simp only [List.getElem_toArray, List.getElem_cons_zero, List.getElem_cons_succ]
        go_simp
        refine (number_any x.ar w3 HAR.out).mono ?_
        rintro e w4 ⟨rfl, hb⟩
        have hk2 : Below wr.heap.size wr w4 := bNext hk1 hb
        refine hK _ _ (fun _ => hk2) ?_
        rw [← hy.out]
        clear hb
        (try simp only [Act.put, List.setIfInBounds_toArray, List.set_cons_zero, List.set_cons_succ])
        refine wpAnyN_take (i := 9) (v := .string (S acc ++ ⟨#[32]⟩ ++ S z ++ ⟨#[47]⟩ ++ S y)) rfl (by kernel_rfl) (by kernel_rfl) (by kernel_rfl) (by kernel_rfl) (fun _ _ _ h => h) (Or.inl ⟨by rfl, ?hv9⟩) (by assumption) ?_
        case hv9 => intro w hSw; go_simp; omega
        simp only [Act.put, List.getElem_toArray, List.getElem_cons_zero, List.getElem_cons_succ, List.setIfInBounds_toArray, List.set_cons_zero, List.set_cons_succ]
        refine wpAnyN_take (i := 10) (v := ?v6) rfl (by kernel_rfl) (by kernel_rfl) (by kernel_rfl) (by kernel_rfl) (fun _ _ _ h => h) (Or.inl ⟨by rfl, ?hy6⟩) (by assumption) ?_
        case hy6 => intro w hSw; (try dsimp only at hSw); go_simp; try with_reducible rfl
        simp only [Act.put, List.getElem_toArray, List.getElem_cons_zero, List.getElem_cons_succ, List.setIfInBounds_toArray, List.set_cons_zero, List.set_cons_succ]
        refine wpAnyN_done (by kernel_rfl) ?_ _
        have HB4 := Lib.hid (bNext HB.out hk2)
        clear hS0 hd hk1 hk2
        have HSN := Lib.hid (show S acc ++ (⟨#[32]⟩ : ByteArray) ++ S z ++ ⟨#[47]⟩ ++ S y = S (nameL x.op ++ (s.data.toList.take (k + 1)).flatMap fun c => 32 :: fieldL x c) by
          rw [← HST.out, show fieldL x 102 = quoteL x.nm.data.toList ++ 47 :: numL x.ar from rfl, show (⟨#[47]⟩ : ByteArray) = S [47] from rfl, show (⟨#[32]⟩ : ByteArray) = S [32] from rfl, hz.out, hy.out]
          simp only [S_app]
          simp)
        go_wp2_with fail
        exact ⟨⟨k + 1, by go_num, hlt, congrArg Value.string HSN.out, HB4⟩, by simp [intOf]; omega⟩
      · have HN0 := Lib.hid (show 0 ≤ x.n from (pd_facts (s := x.nm) (a := x.ar) (by
          have h := (fo_same HF.out).2
          rw [List.all_eq_true] at h
          exact h 112 HMEM.out)).2.2.1)
        go_wp2_with fail
        refine (Pred_any x.nm x.ar x.n wr HNM.out HAR.out HNR.out HN0.out).mono ?_
        rintro e w3 ⟨rfl, hb3⟩
        have HB3 := Lib.hid (bNext HB.out hb3)
        have ht : (S (predL x.nm.data.toList x.ar x.n)).size ≤ 450 := by rw [S_size]; exact HFLN.out
        have HSN := Lib.hid (show S acc ++ (⟨#[32]⟩ : ByteArray) ++ S (predL x.nm.data.toList x.ar x.n) = S (nameL x.op ++ (s.data.toList.take (k + 1)).flatMap fun c => 32 :: fieldL x c) from HST.out)
        clear hb3 x0 x1 x2 x3 x4 x5 p2
        go_wp2_with fail
        exact ⟨⟨k + 1, by go_num, hlt, congrArg Value.string HSN.out, HB3⟩, by simp [intOf]; omega⟩
    · have hlj : decide ((k : Int) < (s.size : Int)) = false := by simp; omega
      have HLJ := Lib.hid (show nameL x.op ++ ((s.data.toList.take k).flatMap fun c => 32 :: fieldL x c) = lineL x by
        rw [List.take_of_length_le (by have : s.data.toList.length = s.size := Array.length_toList; omega), ← HFL.out]; rfl)
      rw [HLJ.out]
      go_wp2_with fail
      go_ret
      exact ⟨rfl, HBW.out⟩
end
end Go.Proofs.YtbipeakinmbdiaaGreatDoor
