/-
  Walks: what the reference reads: numbers, digits, registers. Walks: what the reference reads: the parts before and after a slash, names. Walk: the name that the reference reads. Walks: the predicates and keys that the reference reads. Walk: the parts of a line (the reference).
-/
import Derived.Test.YtbipeakinmbdiaaGreatDoorKx
import Derived.Test.YtbipeakinmbdiaaGreatDoorKu
namespace Go.Proofs.YtbipeakinmbdiaaGreatDoor
section
open Go.RowKit

/-- a digit more -/
def tnStep (n : Int) (c : UInt8) : Int := if digB c then wrap64 (wrap64 (10 * n) - ((c.toNat : Int) - 48)) else n
def tnAll (l : List UInt8) : Int := l.foldl tnStep 0
/-- the number that the reference reads -/
def tnP (l : List UInt8) : Int := if l.head? = some 45 then tnAll l else wrap64 (-(tnAll l))
theorem tn_snoc {l : List UInt8} {j : Nat} {c : UInt8} (h : l[j]? = some c) : tnAll (l.take (j + 1)) = tnStep (tnAll (l.take j)) c := by
  unfold tnAll
  rw [List.take_add_one, h, List.foldl_append]
  rfl
theorem dig_test (c : UInt8) : (decide (48 ≤ (c.toNat : Int)) && decide ((c.toNat : Int) ≤ 57)) = digB c := by
  unfold digB
  rw [show decide (48 ≤ (c.toNat : Int)) = decide (48 ≤ c.toNat) by rw [Bool.eq_iff_iff]; simp; omega, show decide ((c.toNat : Int) ≤ 57) = decide (c.toNat ≤ 57) by rw [Bool.eq_iff_iff]; simp; omega]
set_option maxHeartbeats 1000000 in
theorem toNumber_any (l : List UInt8) (w : World) (hs : l.length ≤ 1000000000) : Calls Tryz.prog 63 #[.string (S l)] w fun e w' => e = .returned (.int .i64 (tnP l)) ∧ w' = w := by
  have hz : (S l).size = l.length := S_size l
  go_enter Tryz.func63, Tryz.ntmps63
  go_wp2_with fail
  go_loopw [3, 4] (fun v i wr => ∃ j : Nat, i = .int .i64 j ∧ j ≤ l.length ∧ v = .int .i64 (tnAll (l.take j)) ∧ wr = w) (fun _ i _ => l.length - (intOf i).toNat)
  case atStart => exact ⟨0, rfl, Nat.zero_le _, rfl, rfl⟩
  case round =>
    obtain ⟨j, rfl, hj, rfl, rfl⟩ := hrel
    by_cases hlt : j < l.length
    · have hlj : decide ((j : Int) < (l.length : Int)) = true := by simp; omega
      have hlt2 : j < (S l).size := by omega
      have hget : l[j]? = some ((S l)[j]'hlt2) := by
        have h1 : (S l).data.toList[j]? = some ((S l)[j]'hlt2) := by simp [hlt2]; rfl
        rw [S_list] at h1
        exact h1
      obtain ⟨c, hc⟩ : ∃ c, Hid (c = (S l)[j]'hlt2) := ⟨_, rfl⟩
      rw [← hc.out] at hget
      have HST := Lib.hid (tn_snoc hget)
      obtain ⟨v, hv⟩ : ∃ v, Hid (v = tnAll (l.take j)) := ⟨_, rfl⟩
      rw [← hv.out] at HST ⊢
      clear hget
      go_wp2_with fail
      all_goals
        refine ⟨⟨j + 1, by go_num, hlt, congrArg (Value.int IntKind.i64) ?_, trivial⟩, by simp [intOf]; omega⟩
        rw [HST.out, hc.out]
        unfold tnStep
        rw [← dig_test]
        split <;> rename_i hh <;> simp only [Bool.and_eq_true, decide_eq_true_eq] at hh <;> first | rfl | (exfalso; omega)
    · have hlj : decide ((j : Int) < (l.length : Int)) = false := by simp; omega
      obtain ⟨v, hv⟩ : ∃ v, Hid (v = tnAll l) := ⟨_, rfl⟩
      have HP := Lib.hid (show tnP l = if l.head? = some 45 then v else wrap64 (-v) by rw [hv.out]; rfl)
      rw [List.take_of_length_le (by omega), ← hv.out]
      by_cases h0 : l.length = 0
      · have hl0 : decide (0 < (l.length : Int)) = false := decide_eq_false (by omega)
        have HQ := Lib.hid (show tnP l = wrap64 (-v) by rw [HP.out, List.length_eq_zero_iff.1 h0]; rfl)
        go_wp2_with fail
        go_ret
        exact ⟨ret_int HQ.out.symm, rfl⟩
      · have hl0 : decide (0 < (l.length : Int)) = true := decide_eq_true (by omega)
        have hlt2 : 0 < (S l).size := by omega
        have hget : l.head? = some ((S l)[0]'hlt2) := by
          cases l with
          | nil => exact absurd rfl h0
          | cons c t => rfl
        obtain ⟨b, hb⟩ : ∃ b, ((((S l)[0]'hlt2).toNat : Int) == 45) = b := ⟨_, rfl⟩
        have HQ := Lib.hid (show tnP l = if b = true then v else wrap64 (-v) by
          have e0 : ((((S l)[0]'hlt2).toNat : Int) == 45) = ((S l)[0]'hlt2 == 45) := u8_eq _ 45 (by omega)
          rw [HP.out, hget, ← hb, e0]
          by_cases e : (S l)[0]'hlt2 = 45
          · rw [e]; rfl
          · rw [if_neg (by simpa using e), if_neg (by simpa using e)])
        clear hget
        cases b
        · go_wp2_with fail
          go_ret
          exact ⟨ret_int HQ.out.symm, rfl⟩
        · go_wp2_with fail
          go_ret
          exact ⟨ret_int HQ.out.symm, rfl⟩
/-- the value of a hexadecimal digit -/
def hxP (c : UInt8) : UInt8 := if 97 ≤ c.toNat then c - 97 + 10 else c - 48
theorem hex_any (c : UInt8) (w : World) : Calls Tryz.prog 128 #[.int .u8 c.toNat] w fun e w' => e = .returned (.int .u8 (hxP c).toNat) ∧ w' = w := by
  have hc := c.toNat_lt
  obtain ⟨b, hb⟩ : ∃ b, decide (97 ≤ (c.toNat : Int)) = b := ⟨_, rfl⟩
  have HQ := Lib.hid (show ((hxP c).toNat : Int) = if b = true then IntKind.wrap .u8 (IntKind.wrap .u8 ((c.toNat : Int) - 97) + 10) else IntKind.wrap .u8 ((c.toNat : Int) - 48) by
    unfold hxP
    rw [← hb, IntKind.wrap_u8, IntKind.wrap_u8, IntKind.wrap_u8]
    by_cases h : 97 ≤ c.toNat
    · rw [if_pos h, if_pos (decide_eq_true (by omega)), UInt8.toNat_add, UInt8.toNat_sub]
      simp
      omega
    · rw [if_neg h, if_neg (by simp; omega), UInt8.toNat_sub]
      simp
      omega)
  clear hc
  cases b
  · go_enter Tryz.func128, Tryz.ntmps128
    go_wp2_with fail
    go_ret
    exact ⟨ret_int HQ.out.symm, rfl⟩
  · go_enter Tryz.func128, Tryz.ntmps128
    go_wp2_with fail
    go_ret
    exact ⟨ret_int (HQ.out.trans (by rw [if_pos trivial, IntKind.wrap_u8, IntKind.wrap_u8]; omega)).symm, rfl⟩
/-- the register that the reference reads -/
def trP (l : List UInt8) : Int := match l with
  | c :: d :: t => if c = 89 then wrap64 (-(tnP (d :: t))) else tnP (d :: t)
  | _ => 0
theorem toRegister_any (l : List UInt8) (w : World) (hs : l.length ≤ 1000000000) : Calls Tryz.prog 93 #[.string (S l)] w fun e w' => e = .returned (.int .i64 (trP l)) ∧ w' = w := by
  have hz : (S l).size = l.length := S_size l
  by_cases h2 : l.length < 2
  · have hl0 : decide ((l.length : Int) < 2) = true := decide_eq_true (by omega)
    have HQ := Lib.hid (show trP l = 0 by
      match l, h2 with
      | [], _ => rfl
      | [_], _ => rfl)
    go_enter Tryz.func93, Tryz.ntmps93
    go_wp2_with fail
    go_ret
    exact ⟨ret_int HQ.out.symm, rfl⟩
  · have hl0 : decide ((l.length : Int) < 2) = false := decide_eq_false (by omega)
    have hp : 0 < (S l).size := by omega
    obtain ⟨b, hb⟩ : ∃ b, ((((S l)[0]'hp).toNat : Int) == 89) = b := ⟨_, rfl⟩
    have e0 : ((((S l)[0]'hp).toNat : Int) == 89) = ((S l)[0]'hp == 89) := u8_eq _ 89 (by omega)
    obtain ⟨v, hv⟩ : ∃ v, Hid (v = tnP (l.drop 1)) := ⟨_, rfl⟩
    have HE := Lib.hid (show (S l).extract 1 l.length = S (l.drop 1) by
      apply ByteArray.ext
      simp [S]
      rw [List.take_of_length_le (by simp)])
    have HQ := Lib.hid (show trP l = if b = true then wrap64 (-v) else v by
      rw [← hb, e0, hv.out]
      match l, h2 with
      | [], h => exact absurd (by simp) h
      | [_], h => exact absurd (by simp) h
      | c :: d :: t, _ =>
        unfold trP
        show (if c = 89 then _ else _) = if (c == 89) = true then _ else _
        by_cases e : c = 89
        · rw [if_pos e, if_pos (by simpa using e)]; rfl
        · rw [if_neg e, if_neg (by simpa using e)]; rfl)
    clear e0
    go_enter Tryz.func93, Tryz.ntmps93
    go_wp2_with fail
    rw [HE.out]
    refine (toNumber_any (l.drop 1) w (by rw [List.length_drop]; omega)).mono ?_
    rintro e w1 ⟨rfl, rfl⟩
    rw [← hv.out]
    cases b
    · go_wp2_with fail
      go_ret
      exact ⟨ret_int HQ.out.symm, rfl⟩
    · go_wp2_with fail
      go_ret
      exact ⟨ret_int HQ.out.symm, rfl⟩
end
section
open Go.RowKit

/-- the parts before and after the last slash -/
def slP (l : List UInt8) : List UInt8 × List UInt8 :=
  if (l.reverse.takeWhile (· != 47)).length = l.length then (l, []) else (l.take (l.length - (l.reverse.takeWhile (· != 47)).length - 1), l.drop (l.length - (l.reverse.takeWhile (· != 47)).length))
theorem sl_no {l : List UInt8} (h : (47 : UInt8) ∉ l) : slP l = (l, []) := by
  unfold slP
  rw [if_pos]
  have e : l.reverse.takeWhile (· != 47) = l.reverse := by
    have := takeW_app (p := (· != (47 : UInt8))) (l := l.reverse) (r := []) (by rw [List.all_eq_true]; intro x hx; rw [bne_iff_ne]; rintro rfl; exact h (List.mem_reverse.1 hx)) (.inl rfl)
    rwa [List.append_nil] at this
  rw [e, List.length_reverse]
theorem sl_app {a b : List UInt8} (h : (47 : UInt8) ∉ b) : slP (a ++ 47 :: b) = (a, b) := by
  have e : (a ++ 47 :: b).reverse.takeWhile (· != 47) = b.reverse := by
    rw [List.reverse_append, List.reverse_cons, List.append_assoc]
    exact takeW_app (p := (· != (47 : UInt8))) (by rw [List.all_eq_true]; intro x hx; rw [bne_iff_ne]; rintro rfl; exact h (List.mem_reverse.1 hx)) (.inr ⟨47, a.reverse, rfl, rfl⟩)
  unfold slP
  rw [e, List.length_reverse, if_neg (by simp; omega)]
  rw [show (a ++ 47 :: b).length - b.length = a.length + 1 by simp; omega]
  simp
theorem sl_at {l : List UInt8} {j : Nat} (hj : l[j]? = some 47) (h : (47 : UInt8) ∉ l.drop (j + 1)) : slP l = (l.take j, l.drop (j + 1)) := by
  obtain ⟨hlt, he⟩ := List.getElem?_eq_some_iff.1 hj
  have e : l = l.take j ++ 47 :: l.drop (j + 1) := by
    conv => lhs; rw [← List.take_append_drop j l, List.drop_eq_getElem_cons hlt, he]
  have h2 := sl_app (a := l.take j) h
  rw [← e] at h2
  exact h2
theorem ext_drop (l : List UInt8) (j : Nat) : (S l).extract j l.length = S (l.drop j) := by
  apply ByteArray.ext
  simp [S]
  rw [List.take_of_length_le (by simp)]
theorem ext_take (l : List UInt8) (j : Nat) : (S l).extract 0 j = S (l.take j) := by
  apply ByteArray.ext
  simp [S]
theorem ext_mid (l : List UInt8) (i j : Nat) : (S l).extract i j = S ((l.drop i).take (j - i)) := by
  apply ByteArray.ext
  simp [S]
theorem S_get {l : List UInt8} {j : Nat} (h : j < (S l).size) : l[j]? = some ((S l)[j]'h) := by
  have h1 : (S l).data.toList[j]? = some ((S l)[j]'h) := by simp [h]; rfl
  rw [S_list] at h1
  exact h1
set_option maxHeartbeats 1000000 in
theorem slash_any (l : List UInt8) (w : World) (hs : l.length ≤ 1000000000) : Calls Tryz.prog 95 #[.string (S l)] w fun e w' => e = .returned (.tuple #[.string (S (slP l).1), .string (S (slP l).2)]) ∧ Below w.heap.size w w' := by
  have hz : (S l).size = l.length := S_size l
  go_enter Tryz.func95, Tryz.ntmps95
  go_wp2_with fail
  go_loopw [4] (fun i wr => ∃ j : Nat, i = .int .i64 ((j : Int) - 1) ∧ j ≤ l.length ∧ (47 : UInt8) ∉ l.drop j ∧ wr = w) (fun i _ => (intOf i + 1).toNat)
  case atStart => exact ⟨l.length, rfl, Nat.le_refl _, by simp, rfl⟩
  case round =>
    obtain ⟨j, rfl, hj, hn, rfl⟩ := hrel
    by_cases h0 : 0 < j
    · obtain ⟨k, rfl⟩ : ∃ k, j = k + 1 := ⟨j - 1, by omega⟩
      have hlj : decide (0 ≤ (((k + 1 : Nat) : Int) - 1)) = true := decide_eq_true (by omega)
      have hk : (((k + 1 : Nat) : Int) - 1) = (k : Int) := by omega
      rw [hk] at hlj ⊢
      have hlt2 : k < (S l).size := by omega
      have hw : IntKind.wrap .i64 ((k : Int) + 1) = (k : Int) + 1 := wrapI (by omega)
      have hget := S_get hlt2
      obtain ⟨b, hb⟩ : ∃ b, ((((S l)[k]'hlt2).toNat : Int) == 47) = b := ⟨_, rfl⟩
      have e0 : ((((S l)[k]'hlt2).toNat : Int) == 47) = ((S l)[k]'hlt2 == 47) := u8_eq _ 47 (by omega)
      have HN := Lib.hid hn
      have HG := Lib.hid (And.intro hget (e0.symm.trans hb))
      clear hn hget e0
      cases b
      · go_wp2_with fail
        have HQ := Lib.hid (show (47 : UInt8) ∉ l.drop k by
          obtain ⟨h1, h2⟩ := HG.out
          obtain ⟨h3, h4⟩ := List.getElem?_eq_some_iff.1 h1
          rw [List.drop_eq_getElem_cons h3, List.mem_cons, not_or]
          refine ⟨fun e => ?_, HN.out⟩
          rw [← h4, ← e] at h2
          cases h2)
        exact ⟨⟨k, rfl, by omega, HQ.out, trivial⟩, by simp only [intOf]; omega⟩
      · have HQ := Lib.hid (show slP l = (l.take k, l.drop (k + 1)) by
          obtain ⟨h1, h2⟩ := HG.out
          exact sl_at (by rw [h1, eq_of_beq h2]) HN.out)
        go_upto_region 5 with fail
        refine wp_region_N (fun _ => True) (fun _ => true) (by kernel_rfl) ?_
        have hS0 : True := trivial
        refine wpAnyN_take (i := 0) (v := ?v1) rfl (by kernel_rfl) (by kernel_rfl) (by kernel_rfl) (by kernel_rfl) (fun _ _ _ h => h) (Or.inl ⟨by rfl, ?hy1⟩) (by assumption) ?_
        case hy1 => intro w hSw; (try dsimp only at hSw); go_simp; try with_reducible rfl
        simp only [Act.put, List.getElem_toArray, List.getElem_cons_zero, List.setIfInBounds_toArray, List.set_cons_zero, List.set_cons_succ]
        refine wpAnyN_take (i := 1) (v := ?v2) rfl (by kernel_rfl) (by kernel_rfl) (by kernel_rfl) (by kernel_rfl) (fun _ _ _ h => h) (Or.inl ⟨by rfl, ?hy2⟩) (by assumption) ?_
        case hy2 => intro w hSw; (try dsimp only at hSw); go_simp; try with_reducible rfl
        simp only [Act.put, List.getElem_toArray, List.getElem_cons_zero, List.getElem_cons_succ, List.setIfInBounds_toArray, List.set_cons_zero, List.set_cons_succ]
        refine wpAnyN_take (i := 2) (v := .string (S (l.take k))) rfl (by kernel_rfl) (by kernel_rfl) (by kernel_rfl) (by kernel_rfl) (fun _ _ _ h => h) (Or.inl ⟨by rfl, ?hv2⟩) (by assumption) ?_
        case hv2 => intro w hSw; go_simp; rw [ext_take, if_pos (by omega)]
        simp only [Act.put, List.getElem_toArray, List.getElem_cons_zero, List.getElem_cons_succ, List.setIfInBounds_toArray, List.set_cons_zero, List.set_cons_succ]
        refine wpAnyN_take (i := 3) (v := ?v3) rfl (by kernel_rfl) (by kernel_rfl) (by kernel_rfl) (by kernel_rfl) (fun _ _ _ h => h) (Or.inl ⟨by rfl, ?hy3⟩) (by assumption) ?_
        case hy3 => intro w hSw; (try dsimp only at hSw); go_simp; try with_reducible rfl
        simp only [Act.put, List.getElem_toArray, List.getElem_cons_zero, List.getElem_cons_succ, List.setIfInBounds_toArray, List.set_cons_zero, List.set_cons_succ]
        refine wpAnyN_take (i := 4) (v := ?v4) rfl (by kernel_rfl) (by kernel_rfl) (by kernel_rfl) (by kernel_rfl) (fun _ _ _ h => h) (Or.inl ⟨by rfl, ?hy4⟩) (by assumption) ?_
        case hy4 => intro w hSw; (try dsimp only at hSw); go_simp; try with_reducible rfl
        simp only [Act.put, List.getElem_toArray, List.getElem_cons_zero, List.getElem_cons_succ, List.setIfInBounds_toArray, List.set_cons_zero, List.set_cons_succ]
        refine wpAnyN_take (i := 5) (v := ?v5) rfl (by kernel_rfl) (by kernel_rfl) (by kernel_rfl) (by kernel_rfl) (fun _ _ _ h => h) (Or.inl ⟨by rfl, ?hy5⟩) (by assumption) ?_
        case hy5 => intro w hSw; (try dsimp only at hSw); go_simp; try with_reducible rfl
        simp only [Act.put, List.getElem_toArray, List.getElem_cons_zero, List.getElem_cons_succ, List.setIfInBounds_toArray, List.set_cons_zero, List.set_cons_succ]
        refine wpAnyN_take (i := 6) (v := .string (S (l.drop (k + 1)))) rfl (by kernel_rfl) (by kernel_rfl) (by kernel_rfl) (by kernel_rfl) (fun _ _ _ h => h) (Or.inl ⟨by rfl, ?hv6⟩) (by assumption) ?_
        case hv6 => intro w hSw; go_simp; rw [ext_drop, if_pos (by omega)]
        simp only [Act.put, List.getElem_toArray, List.getElem_cons_zero, List.getElem_cons_succ, List.setIfInBounds_toArray, List.set_cons_zero, List.set_cons_succ]
        refine wpAnyN_take (i := 7) (v := ?v6) rfl (by kernel_rfl) (by kernel_rfl) (by kernel_rfl) (by kernel_rfl) (fun _ _ _ h => h) (Or.inl ⟨by rfl, ?hy6⟩) (by assumption) ?_
        case hy6 => intro w hSw; (try dsimp only at hSw); go_simp; try with_reducible rfl
        simp only [Act.put, List.getElem_toArray, List.getElem_cons_zero, List.getElem_cons_succ, List.setIfInBounds_toArray, List.set_cons_zero, List.set_cons_succ]
        refine wpAnyN_take (i := 8) (v := ?v7) rfl (by kernel_rfl) (by kernel_rfl) (by kernel_rfl) (by kernel_rfl) (fun _ _ _ h => h) (Or.inl ⟨by rfl, ?hy7⟩) (by assumption) ?_
        case hy7 => intro w hSw; (try dsimp only at hSw); go_simp; try with_reducible rfl
        simp only [Act.put, List.getElem_toArray, List.getElem_cons_zero, List.getElem_cons_succ, List.setIfInBounds_toArray, List.set_cons_zero, List.set_cons_succ]
        refine wpAnyN_done (by kernel_rfl) ?_ _
        go_wp2_with fail
        go_ret2
        exact ⟨by rw [HQ.out]; rfl, bDrew _⟩
    · obtain rfl : j = 0 := by omega
      have HQ := Lib.hid (show slP l = (l, []) from sl_no hn)
      clear hn
      go_wp2_with fail
      go_ret2
      exact ⟨by rw [HQ.out]; rfl, Below.refl _ _⟩
end
section
open Go.RowKit

/-- the bytes of a name, from a place on to the last quote -/
def tmP : List UInt8 → List UInt8
  | a :: b :: c :: d :: t => if a = 92 then (16 * hxP c + hxP d) :: tmP t else a :: tmP (b :: c :: d :: t)
  | a :: b :: t => a :: tmP (b :: t)
  | _ => []
theorem tm_end {l : List UInt8} (h : l.length ≤ 1) : tmP l = [] := by
  match l, h with
  | [], _ => rfl
  | [_], _ => rfl
theorem tm_esc {l : List UInt8} {j : Nat} {c d : UInt8} (h0 : l[j]? = some 92) (h3 : j + 3 < l.length) (hc : l[j + 2]? = some c) (hd : l[j + 3]? = some d) : tmP (l.drop j) = (16 * hxP c + hxP d) :: tmP (l.drop (j + 4)) := by
  obtain ⟨p0, e0⟩ := List.getElem?_eq_some_iff.1 h0
  obtain ⟨p2, e2⟩ := List.getElem?_eq_some_iff.1 hc
  obtain ⟨p3, e3⟩ := List.getElem?_eq_some_iff.1 hd
  rw [List.drop_eq_getElem_cons p0, List.drop_eq_getElem_cons (i := j + 1) (by omega), List.drop_eq_getElem_cons (i := j + 1 + 1) (by omega), List.drop_eq_getElem_cons (i := j + 1 + 1 + 1) (by omega)]
  show (if l[j] = 92 then _ else _) = _
  rw [if_pos e0, show l[j + 1 + 1] = c from e2, show l[j + 1 + 1 + 1] = d from e3]
theorem tm_one {l : List UInt8} {j : Nat} {a : UInt8} (h0 : l[j]? = some a) (h1 : j + 1 < l.length) (hn : ¬ (a = 92 ∧ j + 3 < l.length)) : tmP (l.drop j) = a :: tmP (l.drop (j + 1)) := by
  obtain ⟨p0, e0⟩ := List.getElem?_eq_some_iff.1 h0
  rw [List.drop_eq_getElem_cons p0, e0]
  generalize hg : l.drop (j + 1) = r
  have hl : r.length = l.length - (j + 1) := by rw [← hg, List.length_drop]
  match r, hl with
  | [], hl => simp at hl; omega
  | [b], _ => rfl
  | [b, c], _ => rfl
  | b :: c :: d :: t, hl =>
    simp only [List.length_cons] at hl
    show (if a = 92 then _ else _) = _
    rw [if_neg (fun e => hn ⟨e, by omega⟩)]
theorem byte_back (w : World) (x : UInt8) :
    (convert 45 9 (.slice (some ⟨w.heap.size, 0, none⟩) 1 1)).run Tryz.prog (w.alloc (.cells #[.int .u8 (x.toNat : Int)] 5)) = .ok (.string (S [x])) (w.alloc (.cells #[.int .u8 (x.toNat : Int)] 5)) := by
  have := run_convert_bytes_back (P := Tryz.prog) (w.alloc (.cells #[.int .u8 (x.toNat : Int)] 5)) 45 9 5 ⟨w.heap.size, 0, none⟩ 1 [x] (by kernel_rfl) (by kernel_rfl) (by kernel_rfl) (fun j hj => by
    have hj0 : j = 0 := by simpa using hj
    subst hj0
    simp only [Addr.add, List.getElem_cons_zero]
    simp)
  exact this
theorem hx_num {c d q z : UInt8} (hq : q = 16 * hxP c) (hz : z = q + hxP d) : (16 * ((hxP c).toNat : Int)) % 256 = (q.toNat : Int) ∧ ((q.toNat : Int) + ((hxP d).toNat : Int)) % 256 = (z.toNat : Int) := by
  subst hq hz
  rw [UInt8.toNat_add, UInt8.toNat_mul]
  simp
set_option maxRecDepth 100000 in
set_option maxHeartbeats 1000000 in
theorem toName_any (l : List UInt8) (w : World) (hs : l.length ≤ 1000000) : Calls Tryz.prog 94 #[.string (S l)] w fun e w' => e = .returned (.string (S (tmP (l.drop 1)))) ∧ Below w.heap.size w w' := by
  have hz : (S l).size = l.length := S_size l
  go_enter Tryz.func94, Tryz.ntmps94
  go_wp2_with fail
  go_loopw [3, 4] (fun v i wr => ∃ (j : Nat) (o : List UInt8), i = .int .i64 (j : Int) ∧ (j ≤ l.length + 1 ∧ o.length ≤ j) ∧ v = .string (S o) ∧ o ++ tmP (l.drop j) = tmP (l.drop 1) ∧ Hid (Below w.heap.size w wr)) (fun _ i _ => l.length + 1 - (intOf i).toNat)
  case atStart => exact ⟨1, [], rfl, ⟨by omega, by simp⟩, rfl, rfl, Lib.hid (Below.refl _ _)⟩
  case round =>
    obtain ⟨j, o, rfl, ⟨hj, ho⟩, rfl, hr, HB⟩ := hrel
    have HR := Lib.hid hr
    clear hr
    have hwl : IntKind.wrap .i64 ((l.length : Int) - 1) = (l.length : Int) - 1 := wrapI (by omega)
    by_cases hlt : j + 1 < l.length
    · have hlj : decide ((j : Int) < (l.length : Int) - 1) = true := decide_eq_true (by omega)
      have hlt2 : j < (S l).size := by omega
      have hget := S_get hlt2
      obtain ⟨b, hb⟩ : ∃ b, ((((S l)[j]'hlt2).toNat : Int) == 92) = b := ⟨_, rfl⟩
      have e0 : ((((S l)[j]'hlt2).toNat : Int) == 92) = ((S l)[j]'hlt2 == 92) := u8_eq _ 92 (by omega)
      obtain ⟨t, ht⟩ : ∃ b, decide ((j : Int) + 3 < (l.length : Int)) = b := ⟨_, rfl⟩
      have HG := Lib.hid (And.intro hget (e0.symm.trans hb))
      have hso : (S o).size ≤ 2000000 := by rw [S_size]; omega
      clear hget e0
      cases hbt : (b && t)
      · obtain ⟨a, ha⟩ : ∃ a, Hid (a = (S l)[j]'hlt2) := ⟨_, rfl⟩
        have HT := Lib.hid (show o ++ [a] ++ tmP (l.drop (j + 1)) = tmP (l.drop 1) by
          rw [← HR.out, tm_one (a := a) (by rw [ha.out]; exact HG.out.1) hlt (fun h => by
            rw [Bool.and_eq_false_iff] at hbt
            rcases hbt with e | e
            · have h2 := HG.out.2
              rw [← ha.out, h.1, e] at h2
              cases h2
            · rw [e, decide_eq_false_iff_not] at ht
              omega), List.append_assoc]
          rfl)
        have HX := Lib.hid (show S o ++ (S l).extract j (j + 1) = S (o ++ [a]) by rw [ext_one hlt2, ← ha.out, S_app])
        have hxz : ((S l).extract j (j + 1)).size = 1 := by rw [ext_one hlt2]; rfl
        obtain hbf | ⟨hbf, htf⟩ : b = false ∨ (b = true ∧ t = false) := by cases b <;> simp_all
        · subst hbf
          clear hbt
          go_wp2_with fail
          exact ⟨⟨j + 1, o ++ [a], by go_num, ⟨by omega, by simp; omega⟩, congrArg Value.string HX.out, HT.out, HB⟩, by simp only [intOf]; omega⟩
        · subst hbf htf
          clear hbt
          go_wp2_with fail
          exact ⟨⟨j + 1, o ++ [a], by go_num, ⟨by omega, by simp; omega⟩, congrArg Value.string HX.out, HT.out, HB⟩, by simp only [intOf]; omega⟩
      · obtain ⟨rfl, rfl⟩ : b = true ∧ t = true := by simpa using hbt
        clear hbt
        have h3 : j + 3 < l.length := by simp at ht; omega
        have hl2 : j + 2 < (S l).size := by omega
        have hl3 : j + 3 < (S l).size := by omega
        have hw2 : IntKind.wrap .i64 ((j : Int) + 2) = ((j + 2 : Nat) : Int) := wrapI (by omega)
        have hw3 : IntKind.wrap .i64 ((j : Int) + 3) = ((j + 3 : Nat) : Int) := wrapI (by omega)
        obtain ⟨c, hc⟩ : ∃ c, Hid (c = (S l)[j + 2]'hl2) := ⟨_, rfl⟩
        obtain ⟨d, hd⟩ : ∃ c, Hid (c = (S l)[j + 3]'hl3) := ⟨_, rfl⟩
        have HT := Lib.hid (show o ++ [16 * hxP c + hxP d] ++ tmP (l.drop (j + 4)) = tmP (l.drop 1) by
          rw [← HR.out, tm_esc (c := c) (d := d) (by rw [HG.out.1, eq_of_beq HG.out.2]) h3 (by rw [hc.out]; exact S_get hl2) (by rw [hd.out]; exact S_get hl3), List.append_assoc]
          rfl)
        obtain ⟨q, hq⟩ : ∃ q, Hid (q = 16 * hxP c) := ⟨_, rfl⟩
        obtain ⟨z, hzz⟩ : ∃ z, Hid (z = q + hxP d) := ⟨_, rfl⟩
        rw [← hq.out, ← hzz.out] at HT
        have HN := Lib.hid (hx_num hq.out hzz.out)
        go_upto_region 6 with fail
        refine wp_region_N (fun _ => True) (fun _ => true) (by kernel_rfl) ?_
        have hS0 : True := trivial
        refine wpAnyN_take (i := 0) (v := ?v1) rfl (by kernel_rfl) (by kernel_rfl) (by kernel_rfl) (by kernel_rfl) (fun _ _ _ h => h) (Or.inl ⟨by rfl, ?hy1⟩) (by assumption) ?_
        case hy1 => intro w hSw; (try dsimp only at hSw); go_simp; try with_reducible rfl
        simp only [Act.put, List.getElem_toArray, List.getElem_cons_zero, List.setIfInBounds_toArray, List.set_cons_zero, List.set_cons_succ]
        refine wpAnyN_take (i := 1) (v := ?v2) rfl (by kernel_rfl) (by kernel_rfl) (by kernel_rfl) (by kernel_rfl) (fun _ _ _ h => h) (Or.inl ⟨by rfl, ?hy2⟩) (by assumption) ?_
        case hy2 => intro w hSw; (try dsimp only at hSw); go_simp; try with_reducible rfl
        simp only [Act.put, List.getElem_toArray, List.getElem_cons_zero, List.getElem_cons_succ, List.setIfInBounds_toArray, List.set_cons_zero, List.set_cons_succ]
        refine wpAnyN_take (i := 2) (v := ?v3) rfl (by kernel_rfl) (by kernel_rfl) (by kernel_rfl) (by kernel_rfl) (fun _ _ _ h => h) (Or.inl ⟨by rfl, ?hy3⟩) (by assumption) ?_
        case hy3 => intro w hSw; (try dsimp only at hSw); go_simp; try with_reducible rfl
        simp only [Act.put, List.getElem_toArray, List.getElem_cons_zero, List.getElem_cons_succ, List.setIfInBounds_toArray, List.set_cons_zero, List.set_cons_succ]
        refine wpAnyN_take (i := 3) (v := .int .i64 ((j + 2 : Nat) : Int)) rfl (by kernel_rfl) (by kernel_rfl) (by kernel_rfl) (by kernel_rfl) (fun _ _ _ h => h) (Or.inl ⟨by rfl, ?hv3⟩) (by assumption) ?_
        case hv3 => intro w hSw; go_simp; skip
        simp only [Act.put, List.getElem_toArray, List.getElem_cons_zero, List.getElem_cons_succ, List.setIfInBounds_toArray, List.set_cons_zero, List.set_cons_succ]
        refine wpAnyN_take (i := 4) (v := .int .u8 (c.toNat : Int)) rfl (by kernel_rfl) (by kernel_rfl) (by kernel_rfl) (by kernel_rfl) (fun _ _ _ h => h) (Or.inl ⟨by rfl, ?hv4⟩) (by assumption) ?_
        case hv4 => intro w hSw; go_simp; rw [hc.out, dif_pos (by omega)]; simp only [show ((j : Int) + 2).toNat = j + 2 by omega]; rfl
        simp only [Act.put, List.getElem_toArray, List.getElem_cons_zero, List.getElem_cons_succ, List.setIfInBounds_toArray, List.set_cons_zero, List.set_cons_succ]
        refine wpAnyN_take (i := 7) (v := ?v4) rfl (by kernel_rfl) (by kernel_rfl) (by kernel_rfl) (by kernel_rfl) (fun _ _ _ h => h) (Or.inl ⟨by rfl, ?hy4⟩) (by assumption) ?_
        case hy4 => intro w hSw; (try dsimp only at hSw); go_simp; try with_reducible rfl
        simp only [Act.put, List.getElem_toArray, List.getElem_cons_zero, List.getElem_cons_succ, List.setIfInBounds_toArray, List.set_cons_zero, List.set_cons_succ]
        refine wpAnyN_take (i := 8) (v := ?v5) rfl (by kernel_rfl) (by kernel_rfl) (by kernel_rfl) (by kernel_rfl) (fun _ _ _ h => h) (Or.inl ⟨by rfl, ?hy5⟩) (by assumption) ?_
        case hy5 => intro w hSw; (try dsimp only at hSw); go_simp; try with_reducible rfl
        simp only [Act.put, List.getElem_toArray, List.getElem_cons_zero, List.getElem_cons_succ, List.setIfInBounds_toArray, List.set_cons_zero, List.set_cons_succ]
        refine wpAnyN_take (i := 9) (v := .int .i64 ((j + 3 : Nat) : Int)) rfl (by kernel_rfl) (by kernel_rfl) (by kernel_rfl) (by kernel_rfl) (fun _ _ _ h => h) (Or.inl ⟨by rfl, ?hv9⟩) (by assumption) ?_
        case hv9 => intro w hSw; go_simp; skip
        simp only [Act.put, List.getElem_toArray, List.getElem_cons_zero, List.getElem_cons_succ, List.setIfInBounds_toArray, List.set_cons_zero, List.set_cons_succ]
        refine wpAnyN_take (i := 10) (v := .int .u8 (d.toNat : Int)) rfl (by kernel_rfl) (by kernel_rfl) (by kernel_rfl) (by kernel_rfl) (fun _ _ _ h => h) (Or.inl ⟨by rfl, ?hv10⟩) (by assumption) ?_
        case hv10 => intro w hSw; go_simp; rw [hd.out, dif_pos (by omega)]; simp only [show ((j : Int) + 3).toNat = j + 3 by omega]; rfl
        simp only [Act.put, List.getElem_toArray, List.getElem_cons_zero, List.getElem_cons_succ, List.setIfInBounds_toArray, List.set_cons_zero, List.set_cons_succ]
        refine wpAnyN_one (i := 5) (by kernel_rfl) rfl (fun K hK => ?_)
        simp only [List.getElem_toArray, List.getElem_cons_zero, List.getElem_cons_succ]
        go_simp
        refine (hex_any c _).mono ?_
        rintro e w1 ⟨rfl, rfl⟩
        refine hK _ _ (fun _ => trivial) ?_
        (try simp only [Act.put, List.setIfInBounds_toArray, List.set_cons_zero, List.set_cons_succ])
        clear hK
        refine wpAnyN_take (i := 6) (v := .int .u8 (q.toNat : Int)) rfl (by kernel_rfl) (by kernel_rfl) (by kernel_rfl) (by kernel_rfl) (fun _ _ _ h => h) (Or.inl ⟨by rfl, ?hv6⟩) (by assumption) ?_
        case hv6 => intro w hSw; go_simp; first | exact HN.out.1 | (rw [← HN.out.1, IntKind.wrap_u8]) | (rw [HN.out.1])
        simp only [Act.put, List.getElem_toArray, List.getElem_cons_zero, List.getElem_cons_succ, List.setIfInBounds_toArray, List.set_cons_zero, List.set_cons_succ]
        refine wpAnyN_one (i := 11) (by kernel_rfl) rfl (fun K hK => ?_)
        simp only [List.getElem_toArray, List.getElem_cons_zero, List.getElem_cons_succ]
        go_simp
        refine (hex_any d _).mono ?_
        rintro e w1 ⟨rfl, rfl⟩
        refine hK _ _ (fun _ => trivial) ?_
        (try simp only [Act.put, List.setIfInBounds_toArray, List.set_cons_zero, List.set_cons_succ])
        clear hK
        refine wpAnyN_take (i := 12) (v := .int .u8 (z.toNat : Int)) rfl (by kernel_rfl) (by kernel_rfl) (by kernel_rfl) (by kernel_rfl) (fun _ _ _ h => h) (Or.inl ⟨by rfl, ?hv12⟩) (by assumption) ?_
        case hv12 => intro w hSw; go_simp; first | exact HN.out.2 | (rw [← HN.out.2, IntKind.wrap_u8]) | (rw [HN.out.2])
        simp only [Act.put, List.getElem_toArray, List.getElem_cons_zero, List.getElem_cons_succ, List.setIfInBounds_toArray, List.set_cons_zero, List.set_cons_succ]
        obtain ⟨w3, hw3⟩ : ∃ X, Hid (X = (World.drew wr)) := ⟨_, rfl⟩
        rw [← hw3.out]
        have hcv := byte_back w3 z
        have hz1 : (S [z]).size = 1 := rfl
        refine wpAnyN_one (i := 13) (by kernel_rfl) rfl (fun K hK => ?_)
        simp only [List.getElem_toArray, List.getElem_cons_zero, List.getElem_cons_succ]
        go_simp
        refine hK _ _ (fun _ => trivial) ?_
        (try simp only [Act.put, List.setIfInBounds_toArray, List.set_cons_zero, List.set_cons_succ])
        clear hK
        refine wpAnyN_one (i := 14) (by kernel_rfl) rfl (fun K hK => ?_)
        simp only [List.getElem_toArray, List.getElem_cons_zero, List.getElem_cons_succ]
        go_simp
        refine hK _ _ (fun _ => trivial) ?_
        (try simp only [Act.put, List.setIfInBounds_toArray, List.set_cons_zero, List.set_cons_succ])
        clear hK
        refine wpAnyN_take (i := 15) (v := .string (S o ++ S [z])) rfl (by kernel_rfl) (by kernel_rfl) (by kernel_rfl) (by kernel_rfl) (fun _ _ _ h => h) (Or.inl ⟨by rfl, ?hv15⟩) (by assumption) ?_
        case hv15 => intro w hSw; go_simp; omega
        simp only [Act.put, List.getElem_toArray, List.getElem_cons_zero, List.getElem_cons_succ, List.setIfInBounds_toArray, List.set_cons_zero, List.set_cons_succ]
        refine wpAnyN_take (i := 16) (v := ?v6) rfl (by kernel_rfl) (by kernel_rfl) (by kernel_rfl) (by kernel_rfl) (fun _ _ _ h => h) (Or.inl ⟨by rfl, ?hy6⟩) (by assumption) ?_
        case hy6 => intro w hSw; (try dsimp only at hSw); go_simp; try with_reducible rfl
        simp only [Act.put, List.getElem_toArray, List.getElem_cons_zero, List.getElem_cons_succ, List.setIfInBounds_toArray, List.set_cons_zero, List.set_cons_succ]
        refine wpAnyN_done (by kernel_rfl) ?_ _
        have HS := Lib.hid (show S o ++ S [z] = S (o ++ [z]) from S_app _ _)
        rw [HS.out]
        go_wp2_with fail
        exact ⟨⟨j + 4, o ++ [z], by go_num, ⟨by omega, by simp; omega⟩, rfl, HT.out, Lib.hid (by rw [hw3.out]; exact (HB.out.drew).alloc HB.out.size _)⟩, by simp only [intOf]; omega⟩
    · have hlj : decide ((j : Int) < (l.length : Int) - 1) = false := decide_eq_false (by omega)
      have HQ := Lib.hid (show o = tmP (l.drop 1) by rw [← HR.out, tm_end (by rw [List.length_drop]; omega), List.append_nil])
      go_wp2_with fail
      go_ret
      exact ⟨by rw [← HQ.out]; rfl, HB.out⟩
end
section
open Go.RowKit

/-- the predicate that the reference reads: name, arity, number -/
def tpP (l : List UInt8) : List UInt8 × Int × Int :=
  if (slP l).1.head? = some 35 then ([], tnP (slP l).2, tnP ((slP l).1.drop 1)) else (tmP ((slP l).1.drop 1), tnP (slP l).2, 0)
theorem sl_len (l : List UInt8) : (slP l).1.length ≤ l.length ∧ (slP l).2.length ≤ l.length := by
  unfold slP
  split
  · exact ⟨Nat.le_refl _, Nat.zero_le _⟩
  · simp; omega
/-- is the first byte this one? -/
theorem head_test {l : List UInt8} (c : Nat) (hc : c < 256) (h : 0 < (S l).size) : ((((S l)[0]'h).toNat : Int) == (c : Int)) = decide (l.head? = some (UInt8.ofNat c)) := by
  rw [u8_eq _ c hc]
  cases l with
  | nil => simp [S_size] at h
  | cons d t =>
    show (d == UInt8.ofNat c) = decide (some d = some (UInt8.ofNat c))
    rw [Bool.eq_iff_iff]
    simp
set_option maxRecDepth 100000 in
set_option maxHeartbeats 1000000 in
theorem toPred_any (l : List UInt8) (w : World) (hs : l.length ≤ 1000000) : Calls Tryz.prog 64 #[.string (S l)] w fun e w' => e = .returned (.agg #[.string (S (tpP l).1), .int .i64 (tpP l).2.1, .int .i64 (tpP l).2.2]) ∧ Below w.heap.size w w' := by
  obtain ⟨a, ha⟩ : ∃ a, Hid (a = (slP l).1) := ⟨_, rfl⟩
  obtain ⟨b, hb⟩ : ∃ b, Hid (b = (slP l).2) := ⟨_, rfl⟩
  have hal : a.length ≤ 1000000 := by rw [ha.out]; have := (sl_len l).1; omega
  have HBL := Lib.hid (show b.length ≤ 1000000 by rw [hb.out]; have := (sl_len l).2; omega)
  have hz : (S a).size = a.length := S_size a
  have HT := Lib.hid (show tpP l = if a.head? = some 35 then ([], tnP b, tnP (a.drop 1)) else (tmP (a.drop 1), tnP b, 0) by rw [ha.out, hb.out]; rfl)
  have HS := Lib.hid hs
  clear hs
  go_enter Tryz.func64, Tryz.ntmps64
  go_wp2_with fail
  refine (slash_any l _ (by have := HS.out; omega)).mono ?_
  rintro e w1 ⟨rfl, hk⟩
  rw [← ha.out, ← hb.out]
  have HB1 := Lib.hid (Blk.next (Blk.new w 23 #[.string ⟨#[]⟩, .int .i64 0, .int .i64 0]) hk)
  have HK1 := Lib.hid (bStart hk)
  have HE := Lib.hid (ext_drop a 1)
  clear hk
  obtain ⟨p, hp⟩ : ∃ p, Hid (p = w.heap.size) := ⟨_, rfl⟩
  rw [← hp.out] at HB1 ⊢
  have HPL := Lib.hid (show w.heap.size ≤ p by rw [hp.out]; exact Nat.le_refl _)
  by_cases h0 : a.length = 0
  · have hl0 : decide (0 < (a.length : Int)) = false := decide_eq_false (by omega)
    have HQ := Lib.hid (show tpP l = (tmP (a.drop 1), tnP b, 0) by rw [HT.out, List.length_eq_zero_iff.1 h0]; rfl)
    go_wp2_with fail
    refine (toName_any a w1 hal).mono ?_
    rintro e w2 ⟨rfl, hk⟩
    have HB2 := Lib.hid (HB1.out.next hk)
    have HK2 := Lib.hid (bNext HK1.out hk)
    clear hk
    go_wp2_with fail
    refine (toNumber_any b w2 (by have := HBL.out; omega)).mono ?_
    rintro e w3 ⟨rfl, rfl⟩
    have g0 := HB2.out.cell 0
    have g1 := HB2.out.cell 1
    have g2 := HB2.out.cell 2
    have f0 := HB2.out.frozen 0
    have f1 := HB2.out.frozen 1
    have f2 := HB2.out.frozen 2
    have gl := HB2.out.lt
    simp at g0 g1 g2
    go_wp2_with fail
    obtain ⟨w4, hw4⟩ : ∃ X, Hid (X = ((w3.setCell ⟨p, 0, none⟩ (.string (S (tmP a.tail)))).setCell ⟨p, 1, none⟩ (.int .i64 (tnP b))).setCell ⟨p, 2, none⟩ (.int .i64 0)) := ⟨_, rfl⟩
    rw [← hw4.out]
    clear g0 g1 g2 f0 f1 f2 gl
    have HB4 := Lib.hid (show Blk w4 p 23 #[.string (S (tmP a.tail)), .int .i64 (tnP b), .int .i64 0] by rw [hw4.out]; exact ((HB2.out.set_ 0 _).set_ 1 _).set_ 2 _)
    have HK4 := Lib.hid (show Below w.heap.size w w4 by rw [hw4.out]; exact ((HK2.out.setCell HPL.out _).setCell HPL.out _).setCell HPL.out _)
    have g0 := HB4.out.cell 0
    have g1 := HB4.out.cell 1
    have g2 := HB4.out.cell 2
    have gl := HB4.out.lt
    simp at g0 g1 g2
    refine bodyPost_ret (v := .agg #[.string (S (tmP a.tail)), .int .i64 (tnP b), .int .i64 0]) (by simp only [results, Tryz.results64]; go_simp) rfl ?_
    exact ⟨by rw [HQ.out, List.drop_one] <;> rfl, HK4.out⟩
  · have hl0 : decide (0 < (a.length : Int)) = true := decide_eq_true (by omega)
    have hlt : 0 < (S a).size := by omega
    obtain ⟨t, ht⟩ : ∃ t, ((((S a)[0]'hlt).toNat : Int) == 35) = t := ⟨_, rfl⟩
    have HD := Lib.hid (show decide (a.head? = some 35) = t from (head_test 35 (by omega) hlt).symm.trans ht)
    cases t
    · have HQ := Lib.hid (show tpP l = (tmP (a.drop 1), tnP b, 0) by rw [HT.out, if_neg (of_decide_eq_false HD.out)])
      go_wp2_with fail
      refine (toName_any a w1 hal).mono ?_
      rintro e w2 ⟨rfl, hk⟩
      have HB2 := Lib.hid (HB1.out.next hk)
      have HK2 := Lib.hid (bNext HK1.out hk)
      clear hk
      go_wp2_with fail
      refine (toNumber_any b w2 (by have := HBL.out; omega)).mono ?_
      rintro e w3 ⟨rfl, rfl⟩
      have g0 := HB2.out.cell 0
      have g1 := HB2.out.cell 1
      have g2 := HB2.out.cell 2
      have f0 := HB2.out.frozen 0
      have f1 := HB2.out.frozen 1
      have f2 := HB2.out.frozen 2
      have gl := HB2.out.lt
      simp at g0 g1 g2
      go_wp2_with fail
      obtain ⟨w4, hw4⟩ : ∃ X, Hid (X = ((w3.setCell ⟨p, 0, none⟩ (.string (S (tmP a.tail)))).setCell ⟨p, 1, none⟩ (.int .i64 (tnP b))).setCell ⟨p, 2, none⟩ (.int .i64 0)) := ⟨_, rfl⟩
      rw [← hw4.out]
      clear g0 g1 g2 f0 f1 f2 gl
      have HB4 := Lib.hid (show Blk w4 p 23 #[.string (S (tmP a.tail)), .int .i64 (tnP b), .int .i64 0] by rw [hw4.out]; exact ((HB2.out.set_ 0 _).set_ 1 _).set_ 2 _)
      have HK4 := Lib.hid (show Below w.heap.size w w4 by rw [hw4.out]; exact ((HK2.out.setCell HPL.out _).setCell HPL.out _).setCell HPL.out _)
      have g0 := HB4.out.cell 0
      have g1 := HB4.out.cell 1
      have g2 := HB4.out.cell 2
      have gl := HB4.out.lt
      simp at g0 g1 g2
      refine bodyPost_ret (v := .agg #[.string (S (tmP a.tail)), .int .i64 (tnP b), .int .i64 0]) (by simp only [results, Tryz.results64]; go_simp) rfl ?_
      exact ⟨by rw [HQ.out, List.drop_one] <;> rfl, HK4.out⟩
    · have HQ := Lib.hid (show tpP l = ([], tnP b, tnP (a.drop 1)) by rw [HT.out, if_pos (of_decide_eq_true HD.out)])
      go_wp2_with fail
      rw [HE.out]
      refine (toNumber_any (a.drop 1) w1 (by rw [List.length_drop]; omega)).mono ?_
      rintro e w2 ⟨rfl, rfl⟩
      go_wp2_with fail
      refine (toNumber_any b w2 (by have := HBL.out; omega)).mono ?_
      rintro e w3 ⟨rfl, rfl⟩
      have HB2 := HB1
      have HK2 := HK1
      have g0 := HB2.out.cell 0
      have g1 := HB2.out.cell 1
      have g2 := HB2.out.cell 2
      have f0 := HB2.out.frozen 0
      have f1 := HB2.out.frozen 1
      have f2 := HB2.out.frozen 2
      have gl := HB2.out.lt
      simp at g0 g1 g2
      go_wp2_with fail
      obtain ⟨w4, hw4⟩ : ∃ X, Hid (X = ((w3.setCell ⟨p, 0, none⟩ (.string ⟨#[]⟩)).setCell ⟨p, 1, none⟩ (.int .i64 (tnP b))).setCell ⟨p, 2, none⟩ (.int .i64 (tnP a.tail))) := ⟨_, rfl⟩
      rw [← hw4.out]
      clear g0 g1 g2 f0 f1 f2 gl
      have HB4 := Lib.hid (show Blk w4 p 23 #[.string ⟨#[]⟩, .int .i64 (tnP b), .int .i64 (tnP a.tail)] by rw [hw4.out]; exact ((HB2.out.set_ 0 _).set_ 1 _).set_ 2 _)
      have HK4 := Lib.hid (show Below w.heap.size w w4 by rw [hw4.out]; exact ((HK2.out.setCell HPL.out _).setCell HPL.out _).setCell HPL.out _)
      have g0 := HB4.out.cell 0
      have g1 := HB4.out.cell 1
      have g2 := HB4.out.cell 2
      have gl := HB4.out.lt
      simp at g0 g1 g2
      refine bodyPost_ret (v := .agg #[.string ⟨#[]⟩, .int .i64 (tnP b), .int .i64 (tnP a.tail)]) (by simp only [results, Tryz.results64]; go_simp) rfl ?_
      exact ⟨by rw [HQ.out, List.drop_one] <;> rfl, HK4.out⟩
/-- the key that the reference reads: kind, number, name, arity -/
def tkP (l : List UInt8) : Int × Int × List UInt8 × Int :=
  if l = [95] then (0, 0, [], 0) else if l.head? = some 34 then (if l.getLast? = some 34 then (2, 0, tmP (l.drop 1), 0) else (3, 0, tmP ((slP l).1.drop 1), tnP (slP l).2)) else (1, tnP l, [], 0)
theorem last_test {l : List UInt8} {n : Nat} (hn : l.length = n + 1) (c : Nat) (hc : c < 256) (h : n < (S l).size) : ((((S l)[n]'h).toNat : Int) == (c : Int)) = decide (l.getLast? = some (UInt8.ofNat c)) := by
  rw [u8_eq _ c hc, List.getLast?_eq_getElem?, show l.length - 1 = n by omega, S_get h, Bool.eq_iff_iff]
  simp
set_option maxRecDepth 100000 in
set_option maxHeartbeats 1000000 in
theorem toKey_any (l : List UInt8) (w : World) (hs : l.length ≤ 1000000) : Calls Tryz.prog 65 #[.string (S l)] w fun e w' => e = .returned (.agg #[.int .i64 (tkP l).1, .int .i64 (tkP l).2.1, .string (S (tkP l).2.2.1), .int .i64 (tkP l).2.2.2]) ∧ Below w.heap.size w w' := by
  obtain ⟨a, ha⟩ : ∃ a, Hid (a = (slP l).1) := ⟨_, rfl⟩
  obtain ⟨b, hb⟩ : ∃ b, Hid (b = (slP l).2) := ⟨_, rfl⟩
  have HAL := Lib.hid (show a.length ≤ 1000000 by rw [ha.out]; have := (sl_len l).1; omega)
  have HBL := Lib.hid (show b.length ≤ 1000000 by rw [hb.out]; have := (sl_len l).2; omega)
  have hz : (S l).size = l.length := S_size l
  have HT := Lib.hid (show tkP l = if l = [95] then (0, 0, [], 0) else if l.head? = some 34 then (if l.getLast? = some 34 then (2, 0, tmP (l.drop 1), 0) else (3, 0, tmP (a.drop 1), tnP b)) else (1, tnP l, [], 0) by rw [ha.out, hb.out]; rfl)
  have HS := Lib.hid hs
  obtain ⟨p, hp⟩ : ∃ p, Hid (p = w.heap.size) := ⟨_, rfl⟩
  obtain ⟨w1, hw1⟩ : ∃ X, Hid (X = w.alloc (.cells #[.int .i64 0, .int .i64 0, .string ⟨#[]⟩, .int .i64 0] 25)) := ⟨_, rfl⟩
  have HB1 := Lib.hid (show Blk w1 p 25 #[.int .i64 0, .int .i64 0, .string ⟨#[]⟩, .int .i64 0] by rw [hw1.out, hp.out]; exact Blk.new _ _ _)
  have HK1 := Lib.hid (show Below w.heap.size w w1 by rw [hw1.out]; exact bAlloc _ _)
  have HPL := Lib.hid (show w.heap.size ≤ p by rw [hp.out]; exact Nat.le_refl _)
  obtain ⟨t, ht⟩ : ∃ t, ((S l).toList == [95]) = t := ⟨_, rfl⟩
  have HC := Lib.hid (show decide (l = [95]) = t by rw [← ht, ByteArray.toList_eq, S_list, Bool.eq_iff_iff]; simp)
  clear hs
  cases t
  · go_enter Tryz.func65, Tryz.ntmps65
    go_upto_region 1 with fail
    rw [← hw1.out, ← hp.out]
    go_upto_region 3 with fail
    by_cases h0 : l.length = 0
    · have hl0 : decide (0 < (l.length : Int)) = false := decide_eq_false (by omega)
      have HD := Lib.hid (show decide (l.head? = some 34) = false by rw [List.length_eq_zero_iff.1 h0]; rfl)
      have HQ := Lib.hid (show tkP l = (1, tnP l, [], 0) by rw [HT.out, if_neg (of_decide_eq_false HC.out), if_neg (of_decide_eq_false HD.out)])
      go_wp2_with fail
      refine (toNumber_any l w1 (by have := HS.out; omega)).mono ?_
      rintro e w2 ⟨rfl, rfl⟩
      have g0 := HB1.out.cell 0
      have g1 := HB1.out.cell 1
      have g2 := HB1.out.cell 2
      have g3 := HB1.out.cell 3
      have f0 := HB1.out.frozen 0
      have f1 := HB1.out.frozen 1
      have f2 := HB1.out.frozen 2
      have f3 := HB1.out.frozen 3
      have gl := HB1.out.lt
      simp at g0 g1 g2 g3
      go_wp2_with fail
      obtain ⟨w4, hw4⟩ : ∃ X, Hid (X = (((w2.setCell ⟨p, 0, none⟩ (.int .i64 1)).setCell ⟨p, 1, none⟩ (.int .i64 (tnP l))).setCell ⟨p, 2, none⟩ (.string ⟨#[]⟩)).setCell ⟨p, 3, none⟩ (.int .i64 0)) := ⟨_, rfl⟩
      rw [← hw4.out]
      clear g0 g1 g2 g3 f0 f1 f2 f3 gl
      have HB4 := Lib.hid (show Blk w4 p 25 #[.int .i64 1, .int .i64 (tnP l), .string ⟨#[]⟩, .int .i64 0] by rw [hw4.out]; exact (((HB1.out.set_ 0 _).set_ 1 _).set_ 2 _).set_ 3 _)
      have HK4 := Lib.hid (show Below w.heap.size w w4 by rw [hw4.out]; exact (((HK1.out.setCell HPL.out _).setCell HPL.out _).setCell HPL.out _).setCell HPL.out _)
      have g0 := HB4.out.cell 0
      have g1 := HB4.out.cell 1
      have g2 := HB4.out.cell 2
      have g3 := HB4.out.cell 3
      have gl := HB4.out.lt
      simp at g0 g1 g2 g3
      refine bodyPost_ret (v := .agg #[.int .i64 1, .int .i64 (tnP l), .string ⟨#[]⟩, .int .i64 0]) (by simp only [results, Tryz.results65]; go_simp) rfl ?_
      exact ⟨by rw [HQ.out] <;> rfl, HK4.out⟩
    · obtain ⟨n, hn⟩ : ∃ n, l.length = n + 1 := ⟨l.length - 1, by omega⟩
      have hl0 : decide (0 < (l.length : Int)) = true := decide_eq_true (by omega)
      have hlt : 0 < (S l).size := by omega
      have hln : n < (S l).size := by omega
      obtain ⟨t, ht1⟩ : ∃ t, ((((S l)[0]'hlt).toNat : Int) == 34) = t := ⟨_, rfl⟩
      have HD := Lib.hid (show decide (l.head? = some 34) = t from (head_test 34 (by omega) hlt).symm.trans ht1)
      obtain ⟨u, hu⟩ : ∃ t, ((((S l)[n]'hln).toNat : Int) == 34) = t := ⟨_, rfl⟩
      have HL := Lib.hid (show decide (l.getLast? = some 34) = u from (last_test hn 34 (by omega) hln).symm.trans hu)
      have hnb : n ≤ 1000000 := by have := HS.out; omega
      cases t
      · have HQ := Lib.hid (show tkP l = (1, tnP l, [], 0) by rw [HT.out, if_neg (of_decide_eq_false HC.out), if_neg (of_decide_eq_false HD.out)])
        go_wp2_with fail
        refine (toNumber_any l w1 (by have := HS.out; omega)).mono ?_
        rintro e w2 ⟨rfl, rfl⟩
        have g0 := HB1.out.cell 0
        have g1 := HB1.out.cell 1
        have g2 := HB1.out.cell 2
        have g3 := HB1.out.cell 3
        have f0 := HB1.out.frozen 0
        have f1 := HB1.out.frozen 1
        have f2 := HB1.out.frozen 2
        have f3 := HB1.out.frozen 3
        have gl := HB1.out.lt
        simp at g0 g1 g2 g3
        go_wp2_with fail
        obtain ⟨w4, hw4⟩ : ∃ X, Hid (X = (((w2.setCell ⟨p, 0, none⟩ (.int .i64 1)).setCell ⟨p, 1, none⟩ (.int .i64 (tnP l))).setCell ⟨p, 2, none⟩ (.string ⟨#[]⟩)).setCell ⟨p, 3, none⟩ (.int .i64 0)) := ⟨_, rfl⟩
        rw [← hw4.out]
        clear g0 g1 g2 g3 f0 f1 f2 f3 gl
        have HB4 := Lib.hid (show Blk w4 p 25 #[.int .i64 1, .int .i64 (tnP l), .string ⟨#[]⟩, .int .i64 0] by rw [hw4.out]; exact (((HB1.out.set_ 0 _).set_ 1 _).set_ 2 _).set_ 3 _)
        have HK4 := Lib.hid (show Below w.heap.size w w4 by rw [hw4.out]; exact (((HK1.out.setCell HPL.out _).setCell HPL.out _).setCell HPL.out _).setCell HPL.out _)
        have g0 := HB4.out.cell 0
        have g1 := HB4.out.cell 1
        have g2 := HB4.out.cell 2
        have g3 := HB4.out.cell 3
        have gl := HB4.out.lt
        simp at g0 g1 g2 g3
        refine bodyPost_ret (v := .agg #[.int .i64 1, .int .i64 (tnP l), .string ⟨#[]⟩, .int .i64 0]) (by simp only [results, Tryz.results65]; go_simp) rfl ?_
        exact ⟨by rw [HQ.out] <;> rfl, HK4.out⟩
      · cases u
        · have HQ := Lib.hid (show tkP l = (3, 0, tmP (a.drop 1), tnP b) by rw [HT.out, if_neg (of_decide_eq_false HC.out), if_pos (of_decide_eq_true HD.out), if_neg (of_decide_eq_false HL.out)])
          have HN := Lib.hid hn
          rw [hn] at hz
          clear hn
          go_wp2_with fail
          refine (slash_any l w1 (by have := HS.out; omega)).mono ?_
          rintro e w2 ⟨rfl, hk⟩
          rw [← ha.out, ← hb.out]
          have HB2 := Lib.hid (HB1.out.next hk)
          have HK2 := Lib.hid (bNext HK1.out hk)
          clear hk
          go_wp2_with fail
          refine (toName_any a w2 HAL.out).mono ?_
          rintro e w3 ⟨rfl, hk⟩
          obtain ⟨x, hx⟩ : ∃ x, Hid (x = tmP (a.drop 1)) := ⟨_, rfl⟩
          rw [← hx.out] at HQ ⊢
          have HB3 := Lib.hid (HB2.out.next hk)
          have HK3 := Lib.hid (bNext HK2.out hk)
          clear hk
          go_wp2_with fail
          refine (toNumber_any b w3 (by have := HBL.out; omega)).mono ?_
          rintro e w5 ⟨rfl, rfl⟩
          have g0 := HB3.out.cell 0
          have g1 := HB3.out.cell 1
          have g2 := HB3.out.cell 2
          have g3 := HB3.out.cell 3
          have f0 := HB3.out.frozen 0
          have f1 := HB3.out.frozen 1
          have f2 := HB3.out.frozen 2
          have f3 := HB3.out.frozen 3
          have gl := HB3.out.lt
          simp at g0 g1 g2 g3
          go_wp2_with fail
          obtain ⟨w4, hw4⟩ : ∃ X, Hid (X = (((w5.setCell ⟨p, 0, none⟩ (.int .i64 3)).setCell ⟨p, 1, none⟩ (.int .i64 0)).setCell ⟨p, 2, none⟩ (.string (S x))).setCell ⟨p, 3, none⟩ (.int .i64 (tnP b))) := ⟨_, rfl⟩
          rw [← hw4.out]
          clear g0 g1 g2 g3 f0 f1 f2 f3 gl
          have HB4 := Lib.hid (show Blk w4 p 25 #[.int .i64 3, .int .i64 0, .string (S x), .int .i64 (tnP b)] by rw [hw4.out]; exact (((HB3.out.set_ 0 _).set_ 1 _).set_ 2 _).set_ 3 _)
          have HK4 := Lib.hid (show Below w.heap.size w w4 by rw [hw4.out]; exact (((HK3.out.setCell HPL.out _).setCell HPL.out _).setCell HPL.out _).setCell HPL.out _)
          have g0 := HB4.out.cell 0
          have g1 := HB4.out.cell 1
          have g2 := HB4.out.cell 2
          have g3 := HB4.out.cell 3
          have gl := HB4.out.lt
          simp at g0 g1 g2 g3
          refine bodyPost_ret (v := .agg #[.int .i64 3, .int .i64 0, .string (S x), .int .i64 (tnP b)]) (by simp only [results, Tryz.results65]; go_simp) rfl ?_
          exact ⟨by rw [HQ.out] <;> rfl, HK4.out⟩
        · have HQ := Lib.hid (show tkP l = (2, 0, tmP (l.drop 1), 0) by rw [HT.out, if_neg (of_decide_eq_false HC.out), if_pos (of_decide_eq_true HD.out), if_pos (of_decide_eq_true HL.out)])
          rw [hn] at hz
          clear hn
          go_wp2_with fail
          refine (toName_any l w1 HS.out).mono ?_
          rintro e w3 ⟨rfl, hk⟩
          have HB3 := Lib.hid (HB1.out.next hk)
          have HK3 := Lib.hid (bNext HK1.out hk)
          clear hk
          obtain ⟨x, hx⟩ : ∃ x, Hid (x = tmP (l.drop 1)) := ⟨_, rfl⟩
          rw [← hx.out] at HQ ⊢
          have g0 := HB3.out.cell 0
          have g1 := HB3.out.cell 1
          have g2 := HB3.out.cell 2
          have g3 := HB3.out.cell 3
          have f0 := HB3.out.frozen 0
          have f1 := HB3.out.frozen 1
          have f2 := HB3.out.frozen 2
          have f3 := HB3.out.frozen 3
          have gl := HB3.out.lt
          simp at g0 g1 g2 g3
          go_wp2_with fail
          obtain ⟨w4, hw4⟩ : ∃ X, Hid (X = (((w3.setCell ⟨p, 0, none⟩ (.int .i64 2)).setCell ⟨p, 1, none⟩ (.int .i64 0)).setCell ⟨p, 2, none⟩ (.string (S x))).setCell ⟨p, 3, none⟩ (.int .i64 0)) := ⟨_, rfl⟩
          rw [← hw4.out]
          clear g0 g1 g2 g3 f0 f1 f2 f3 gl
          have HB4 := Lib.hid (show Blk w4 p 25 #[.int .i64 2, .int .i64 0, .string (S x), .int .i64 0] by rw [hw4.out]; exact (((HB3.out.set_ 0 _).set_ 1 _).set_ 2 _).set_ 3 _)
          have HK4 := Lib.hid (show Below w.heap.size w w4 by rw [hw4.out]; exact (((HK3.out.setCell HPL.out _).setCell HPL.out _).setCell HPL.out _).setCell HPL.out _)
          have g0 := HB4.out.cell 0
          have g1 := HB4.out.cell 1
          have g2 := HB4.out.cell 2
          have g3 := HB4.out.cell 3
          have gl := HB4.out.lt
          simp at g0 g1 g2 g3
          refine bodyPost_ret (v := .agg #[.int .i64 2, .int .i64 0, .string (S x), .int .i64 0]) (by simp only [results, Tryz.results65]; go_simp) rfl ?_
          exact ⟨by rw [HQ.out] <;> rfl, HK4.out⟩
  · have HQ := Lib.hid (show tkP l = (0, 0, [], 0) by rw [HT.out, if_pos (of_decide_eq_true HC.out)])
    go_enter Tryz.func65, Tryz.ntmps65
    go_upto_region 1 with fail
    rw [← hw1.out, ← hp.out]
    have g0 := HB1.out.cell 0
    have g1 := HB1.out.cell 1
    have g2 := HB1.out.cell 2
    have g3 := HB1.out.cell 3
    have f0 := HB1.out.frozen 0
    have f1 := HB1.out.frozen 1
    have f2 := HB1.out.frozen 2
    have f3 := HB1.out.frozen 3
    have gl := HB1.out.lt
    simp at g0 g1 g2 g3
    go_wp2_with fail
    obtain ⟨w4, hw4⟩ : ∃ X, Hid (X = (((w1.setCell ⟨p, 0, none⟩ (.int .i64 0)).setCell ⟨p, 1, none⟩ (.int .i64 0)).setCell ⟨p, 2, none⟩ (.string ⟨#[]⟩)).setCell ⟨p, 3, none⟩ (.int .i64 0)) := ⟨_, rfl⟩
    rw [← hw4.out]
    clear g0 g1 g2 g3 f0 f1 f2 f3 gl
    have HB4 := Lib.hid (show Blk w4 p 25 #[.int .i64 0, .int .i64 0, .string ⟨#[]⟩, .int .i64 0] by rw [hw4.out]; exact (((HB1.out.set_ 0 _).set_ 1 _).set_ 2 _).set_ 3 _)
    have HK4 := Lib.hid (show Below w.heap.size w w4 by rw [hw4.out]; exact (((HK1.out.setCell HPL.out _).setCell HPL.out _).setCell HPL.out _).setCell HPL.out _)
    have g0 := HB4.out.cell 0
    have g1 := HB4.out.cell 1
    have g2 := HB4.out.cell 2
    have g3 := HB4.out.cell 3
    have gl := HB4.out.lt
    simp at g0 g1 g2 g3
    refine bodyPost_ret (v := .agg #[.int .i64 0, .int .i64 0, .string ⟨#[]⟩, .int .i64 0]) (by simp only [results, Tryz.results65]; go_simp) rfl ?_
    exact ⟨by rw [HQ.out] <;> rfl, HK4.out⟩
end
section
open Go.RowKit

/-- a byte more: the parts that are done, the part that is read, whether between quotes -/
def ptStep (st : List (List UInt8) × List UInt8 × Bool) (c : UInt8) : List (List UInt8) × List UInt8 × Bool :=
  if (c == 32 && !(cond (c == 34) (!st.2.2) st.2.2)) = true then (st.1 ++ [st.2.1], [], cond (c == 34) (!st.2.2) st.2.2) else (st.1, st.2.1 ++ [c], cond (c == 34) (!st.2.2) st.2.2)
def ptAll (l : List UInt8) : List (List UInt8) × List UInt8 × Bool := l.foldl ptStep ([], [], false)
/-- the parts of a line -/
def ptP (l : List UInt8) : List (List UInt8) := (ptAll l).1 ++ [(ptAll l).2.1]
theorem pt_snoc {l : List UInt8} {j : Nat} {c : UInt8} (h : l[j]? = some c) : ptAll (l.take (j + 1)) = ptStep (ptAll (l.take j)) c := by
  unfold ptAll
  rw [List.take_add_one, h, List.foldl_append]
  rfl
theorem pt_len (l : List UInt8) : (ptAll l).1.length ≤ l.length ∧ (ptAll l).2.1.length ≤ l.length := by
  have key : ∀ (l : List UInt8) (st : List (List UInt8) × List UInt8 × Bool) (n : Nat), st.1.length ≤ n → st.2.1.length ≤ n → (l.foldl ptStep st).1.length ≤ n + l.length ∧ (l.foldl ptStep st).2.1.length ≤ n + l.length := by
    intro l
    induction l with
    | nil => intro st n h1 h2; exact ⟨by simpa using h1, by simpa using h2⟩
    | cons c t ih =>
      intro st n h1 h2
      have := ih (ptStep st c) (n + 1) (by unfold ptStep; split <;> simp only [List.length_append, List.length_cons, List.length_nil] <;> omega) (by unfold ptStep; split <;> simp only [List.length_append, List.length_cons, List.length_nil] <;> omega)
      simp only [List.foldl_cons, List.length_cons]
      omega
  have := key l ([], [], false) 0 (by simp) (by simp)
  unfold ptAll
  omega
/-- where the walk of a line stands -/
def PtAt (w0 wr : World) (v : Value) (d : List (List UInt8)) (t : List UInt8) : Prop := (wr.ownsRow w0.heap.size 9 1 v (d.length + 1) (sCs (d ++ [t]))) ∧ Below w0.heap.size w0 wr
set_option maxRecDepth 100000 in
set_option maxHeartbeats 2000000 in
theorem parts_any (l : List UInt8) (w : World) (hs : l.length ≤ 1000000) : Calls Tryz.prog 62 #[.string (S l)] w fun e w' => ∃ v, e = .returned v ∧ w'.ownsRow w.heap.size 9 1 v (ptP l).length (sCs (ptP l)) ∧ Below w.heap.size w w' := by
  obtain ⟨i9, hi, hz0, hz1, hz2⟩ := info_parts info9
  have HI := Lib.hid hz1
  have hz : (S l).size = l.length := S_size l
  go_enter Tryz.func62, Tryz.ntmps62
  go_wp2_with fail
  go_loopw [3, 4, 5] (fun v u i wr => ∃ j : Nat, i = .int .i64 (j : Int) ∧ j ≤ l.length ∧ u = .bool (ptAll (l.take j)).2.2 ∧ Hid (PtAt w wr v (ptAll (l.take j)).1 (ptAll (l.take j)).2.1)) (fun _ _ i _ => l.length - (intOf i).toNat)
  case atStart =>
    refine ⟨0, rfl, Nat.zero_le _, rfl, Lib.hid ⟨?_, bAlloc _ _⟩⟩
    have h := World.ownsRow_lit (base := w.heap.size) (e := 9) (size := 1) w #[.string ⟨#[]⟩] 1 (Nat.le_refl _) (by unfold maxLen; omega) rfl
    exact h
  case round =>
    obtain ⟨j, rfl, hj, rfl, HP⟩ := hrel
    by_cases hlt : j < l.length
    · have hlj : decide ((j : Int) < (l.length : Int)) = true := decide_eq_true (by omega)
      have hlt2 : j < (S l).size := by omega
      have hget := S_get hlt2
      have HST := Lib.hid (pt_snoc hget)
      obtain ⟨c, hc⟩ : ∃ c, Hid (c = (S l)[j]'hlt2) := ⟨_, rfl⟩
      rw [← hc.out] at HST
      have HPL := Lib.hid (show (ptAll (l.take j)).1.length ≤ 1000000 ∧ (ptAll (l.take j)).2.1.length ≤ 1000000 by have := pt_len (l.take j); have h2 : (l.take j).length ≤ j := List.length_take_le _ _; omega)
      obtain ⟨q, hq⟩ : ∃ q, q = ptAll (l.take j) := ⟨_, rfl⟩
      rw [← hq] at HST HP HPL ⊢
      clear hq hget
      obtain ⟨d, t, u⟩ := q
      obtain ⟨b1, hb1⟩ : ∃ b, ((((S l)[j]'hlt2).toNat : Int) == 34) = b := ⟨_, rfl⟩
      obtain ⟨b2, hb2⟩ : ∃ b, ((((S l)[j]'hlt2).toNat : Int) == 32) = b := ⟨_, rfl⟩
      have HQ := Lib.hid (show (c == 34) = b1 ∧ (c == 32) = b2 by
        have e1 : ((((S l)[j]'hlt2).toNat : Int) == 34) = ((S l)[j]'hlt2 == 34) := u8_eq _ 34 (by omega)
        have e2 : ((((S l)[j]'hlt2).toNat : Int) == 32) = ((S l)[j]'hlt2 == 32) := u8_eq _ 32 (by omega)
        rw [hc.out]
        exact ⟨e1.symm.trans hb1, e2.symm.trans hb2⟩)
      cases u
      · cases b1
        · cases b2
          · have HSP := Lib.hid (show ptAll (l.take (j + 1)) = (d, t ++ [c], false) by rw [HST.out]; unfold ptStep; rw [HQ.out.1, HQ.out.2]; rfl)
            clear HST
            obtain ⟨g, cp, rfl⟩ := own_some2 HP.out.1 (by omega)
            have hw1 : IntKind.wrap .i64 (d.length : Int) = (d.length : Int) := wrapI (by have h9 : d.length ≤ 1000000 := HPL.out.1; omega)
            have hwj : IntKind.wrap .i64 ((j : Int) + 1) = (j : Int) + 1 := wrapI (by omega)
            have hst : (S t).size ≤ 1000000 := by rw [S_size]; exact HPL.out.2
            have hsc : (S [c]).size = 1 := rfl
            go_upto_region 10 with fail
            obtain ⟨w2, hw2⟩ : ∃ X, Hid (X = wr.drew) := ⟨_, rfl⟩
            have HO2 := Lib.hid (show w2.ownsRow w.heap.size 9 1 (.slice (some ⟨g, 0, none⟩) (d.length + 1) cp) (d.length + 1) (sCs (d ++ [t])) by rw [hw2.out]; exact own_stay HP.out.1 (fun _ _ => rfl))
            have HB2 := Lib.hid (show Below w.heap.size w w2 by rw [hw2.out]; exact HP.out.2.drew)
            have hce : w2.cell? ⟨g, d.length, none⟩ = some (.string (S t)) := by
              rw [HO2.out.cellAt (g := g) d.length (by omega)]
              rw [sCs_app, List.getElem?_append_right (by simp [sCs])]
              simp [sCs]
            obtain ⟨cs, hcs⟩ := own_ty HO2.out (g := g) rfl
            have hfr := frozen_of_row w2 g d.length cs 9 hcs
            have hgl : g < w2.heap.size := (Array.getElem?_eq_some_iff.1 hcs).1
            refine wp_region_N (fun X => X = w2) (fun k => k != 17) (by kernel_rfl) ?_
            rw [← hw2.out]
            have hS0 : w2 = w2 := rfl
            refine wpAnyN_take (i := 0) (v := ?v1) rfl (by kernel_rfl) (by kernel_rfl) (by kernel_rfl) (by kernel_rfl) (fun _ _ _ h => h) (Or.inl ⟨by rfl, ?hy1⟩) (by assumption) ?_
            case hy1 => intro w hSw; (try dsimp only at hSw); go_simp; try with_reducible rfl
            simp only [Act.put, List.getElem_toArray, List.getElem_cons_zero, List.setIfInBounds_toArray, List.set_cons_zero, List.set_cons_succ]
            refine wpAnyN_take (i := 1) (v := ?v2) rfl (by kernel_rfl) (by kernel_rfl) (by kernel_rfl) (by kernel_rfl) (fun _ _ _ h => h) (Or.inl ⟨by rfl, ?hy2⟩) (by assumption) ?_
            case hy2 => intro w hSw; (try dsimp only at hSw); go_simp; try with_reducible rfl
            simp only [Act.put, List.getElem_toArray, List.getElem_cons_zero, List.getElem_cons_succ, List.setIfInBounds_toArray, List.set_cons_zero, List.set_cons_succ]
            refine wpAnyN_take (i := 2) (v := .int .i64 ((d.length + 1 : Nat) : Int)) rfl (by kernel_rfl) (by kernel_rfl) (by kernel_rfl) (by kernel_rfl) (fun _ _ _ h => h) (Or.inl ⟨by rfl, ?b12⟩) (by assumption) ?_
            case b12 => intro w hSw; rw [show w = w2 from hSw]; go_simp; skip
            simp only [Act.put, List.getElem_toArray, List.getElem_cons_zero, List.getElem_cons_succ, List.setIfInBounds_toArray, List.set_cons_zero, List.set_cons_succ]
            refine wpAnyN_take (i := 3) (v := .int .i64 (d.length : Int)) rfl (by kernel_rfl) (by kernel_rfl) (by kernel_rfl) (by kernel_rfl) (fun _ _ _ h => h) (Or.inl ⟨by rfl, ?b13⟩) (by assumption) ?_
            case b13 => intro w hSw; rw [show w = w2 from hSw]; go_simp; skip
            simp only [Act.put, List.getElem_toArray, List.getElem_cons_zero, List.getElem_cons_succ, List.setIfInBounds_toArray, List.set_cons_zero, List.set_cons_succ]
            refine wpAnyN_take (i := 4) (v := ?v3) rfl (by kernel_rfl) (by kernel_rfl) (by kernel_rfl) (by kernel_rfl) (fun _ _ _ h => h) (Or.inl ⟨by rfl, ?hy3⟩) (by assumption) ?_
            case hy3 => intro w hSw; (try dsimp only at hSw); go_simp; try with_reducible rfl
            simp only [Act.put, List.getElem_toArray, List.getElem_cons_zero, List.getElem_cons_succ, List.setIfInBounds_toArray, List.set_cons_zero, List.set_cons_succ]
            refine wpAnyN_take (i := 5) (v := ?v4) rfl (by kernel_rfl) (by kernel_rfl) (by kernel_rfl) (by kernel_rfl) (fun _ _ _ h => h) (Or.inl ⟨by rfl, ?hy4⟩) (by assumption) ?_
            case hy4 => intro w hSw; (try dsimp only at hSw); go_simp; try with_reducible rfl
            simp only [Act.put, List.getElem_toArray, List.getElem_cons_zero, List.getElem_cons_succ, List.setIfInBounds_toArray, List.set_cons_zero, List.set_cons_succ]
            refine wpAnyN_take (i := 6) (v := .int .i64 ((d.length + 1 : Nat) : Int)) rfl (by kernel_rfl) (by kernel_rfl) (by kernel_rfl) (by kernel_rfl) (fun _ _ _ h => h) (Or.inl ⟨by rfl, ?b16⟩) (by assumption) ?_
            case b16 => intro w hSw; rw [show w = w2 from hSw]; go_simp; skip
            simp only [Act.put, List.getElem_toArray, List.getElem_cons_zero, List.getElem_cons_succ, List.setIfInBounds_toArray, List.set_cons_zero, List.set_cons_succ]
            refine wpAnyN_take (i := 7) (v := .int .i64 (d.length : Int)) rfl (by kernel_rfl) (by kernel_rfl) (by kernel_rfl) (by kernel_rfl) (fun _ _ _ h => h) (Or.inl ⟨by rfl, ?b17⟩) (by assumption) ?_
            case b17 => intro w hSw; rw [show w = w2 from hSw]; go_simp; skip
            simp only [Act.put, List.getElem_toArray, List.getElem_cons_zero, List.getElem_cons_succ, List.setIfInBounds_toArray, List.set_cons_zero, List.set_cons_succ]
            refine wpAnyN_take (i := 8) (v := .pointer (some ⟨g, d.length, none⟩)) rfl (by kernel_rfl) (by kernel_rfl) (by kernel_rfl) (by kernel_rfl) (fun _ _ _ h => h) (Or.inl ⟨by rfl, ?b18⟩) (by assumption) ?_
            case b18 => intro w hSw; rw [show w = w2 from hSw]; go_simp; intro h9;omega
            simp only [Act.put, List.getElem_toArray, List.getElem_cons_zero, List.getElem_cons_succ, List.setIfInBounds_toArray, List.set_cons_zero, List.set_cons_succ]
            refine wpAnyN_take (i := 9) (v := .string (S t)) rfl (by kernel_rfl) (by kernel_rfl) (by kernel_rfl) (by kernel_rfl) (fun _ _ _ h => h) (Or.inl ⟨by rfl, ?b19⟩) (by assumption) ?_
            case b19 => intro w hSw; rw [show w = w2 from hSw]; go_simp; skip
            simp only [Act.put, List.getElem_toArray, List.getElem_cons_zero, List.getElem_cons_succ, List.setIfInBounds_toArray, List.set_cons_zero, List.set_cons_succ]
            refine wpAnyN_take (i := 10) (v := ?v5) rfl (by kernel_rfl) (by kernel_rfl) (by kernel_rfl) (by kernel_rfl) (fun _ _ _ h => h) (Or.inl ⟨by rfl, ?hy5⟩) (by assumption) ?_
            case hy5 => intro w hSw; (try dsimp only at hSw); go_simp; try with_reducible rfl
            simp only [Act.put, List.getElem_toArray, List.getElem_cons_zero, List.getElem_cons_succ, List.setIfInBounds_toArray, List.set_cons_zero, List.set_cons_succ]
            refine wpAnyN_take (i := 11) (v := ?v6) rfl (by kernel_rfl) (by kernel_rfl) (by kernel_rfl) (by kernel_rfl) (fun _ _ _ h => h) (Or.inl ⟨by rfl, ?hy6⟩) (by assumption) ?_
            case hy6 => intro w hSw; (try dsimp only at hSw); go_simp; try with_reducible rfl
            simp only [Act.put, List.getElem_toArray, List.getElem_cons_zero, List.getElem_cons_succ, List.setIfInBounds_toArray, List.set_cons_zero, List.set_cons_succ]
            refine wpAnyN_take (i := 12) (v := ?v7) rfl (by kernel_rfl) (by kernel_rfl) (by kernel_rfl) (by kernel_rfl) (fun _ _ _ h => h) (Or.inl ⟨by rfl, ?hy7⟩) (by assumption) ?_
            case hy7 => intro w hSw; (try dsimp only at hSw); go_simp; try with_reducible rfl
            simp only [Act.put, List.getElem_toArray, List.getElem_cons_zero, List.getElem_cons_succ, List.setIfInBounds_toArray, List.set_cons_zero, List.set_cons_succ]
            refine wpAnyN_take (i := 13) (v := .int .i64 ((j + 1 : Nat) : Int)) rfl (by kernel_rfl) (by kernel_rfl) (by kernel_rfl) (by kernel_rfl) (fun _ _ _ h => h) (Or.inl ⟨by rfl, ?b113⟩) (by assumption) ?_
            case b113 => intro w hSw; rw [show w = w2 from hSw]; go_simp; skip
            simp only [Act.put, List.getElem_toArray, List.getElem_cons_zero, List.getElem_cons_succ, List.setIfInBounds_toArray, List.set_cons_zero, List.set_cons_succ]
            refine wpAnyN_take (i := 14) (v := .string (S [c])) rfl (by kernel_rfl) (by kernel_rfl) (by kernel_rfl) (by kernel_rfl) (fun _ _ _ h => h) (Or.inl ⟨by rfl, ?b114⟩) (by assumption) ?_
            case b114 => intro w hSw; rw [show w = w2 from hSw]; go_simp; rw [if_pos (by omega), if_pos (by omega), ext_one hlt2, ← hc.out]
            simp only [Act.put, List.getElem_toArray, List.getElem_cons_zero, List.getElem_cons_succ, List.setIfInBounds_toArray, List.set_cons_zero, List.set_cons_succ]
            refine wpAnyN_take (i := 15) (v := .string (S (t ++ [c]))) rfl (by kernel_rfl) (by kernel_rfl) (by kernel_rfl) (by kernel_rfl) (fun _ _ _ h => h) (Or.inl ⟨by rfl, ?b115⟩) (by assumption) ?_
            case b115 => intro w hSw; rw [show w = w2 from hSw]; go_simp; rw [if_neg (by omega), S_app]
            simp only [Act.put, List.getElem_toArray, List.getElem_cons_zero, List.getElem_cons_succ, List.setIfInBounds_toArray, List.set_cons_zero, List.set_cons_succ]
            refine wpAnyN_take (i := 16) (v := .pointer (some ⟨g, d.length, none⟩)) rfl (by kernel_rfl) (by kernel_rfl) (by kernel_rfl) (by kernel_rfl) (fun _ _ _ h => h) (Or.inl ⟨by rfl, ?b116⟩) (by assumption) ?_
            case b116 => intro w hSw; rw [show w = w2 from hSw]; go_simp; intro h9;omega
            simp only [Act.put, List.getElem_toArray, List.getElem_cons_zero, List.getElem_cons_succ, List.setIfInBounds_toArray, List.set_cons_zero, List.set_cons_succ]
            refine wpAnyN_one (i := 17) (by kernel_rfl) rfl (fun K hK => ?_)
            simp only [List.getElem_toArray, List.getElem_cons_zero, List.getElem_cons_succ]
            go_simp
            refine hK _ _ (fun h => absurd h (by decide)) ?_
            (try simp only [Act.put, List.setIfInBounds_toArray, List.set_cons_zero, List.set_cons_succ])
            clear hK
            refine wpAnyN_done (by kernel_rfl) ?_ _
            have HA : Hid (PtAt w (w2.setCell ⟨g, d.length, none⟩ (.string (S (t ++ [c])))) (.slice (some ⟨g, 0, none⟩) (d.length + 1) cp) (ptAll (l.take (j + 1))).1 (ptAll (l.take (j + 1))).2.1) := Lib.hid (by
              rw [HSP.out]
              refine ⟨?_, HB2.out.setCell (own_lt HO2.out (g := g) rfl).1 _⟩
              have h1 := own_setAt (k := d.length) HO2.out (.string (S (t ++ [c])))
              rw [show (sCs (d ++ [t])).set d.length (.string (S (t ++ [c]))) = sCs (d ++ [t ++ [c]]) by
                rw [sCs_app, sCs_app, List.set_append_right _ _ (by simp [sCs])]
                simp [sCs]] at h1
              exact h1)
            have HU := Lib.hid (show false = (ptAll (l.take (j + 1))).2.2 by rw [HSP.out])
            go_wp2_with fail
            exact ⟨⟨j + 1, by go_num, hlt, congrArg Value.bool HU.out, HA⟩, by simp only [intOf]; omega⟩
          · have HSP := Lib.hid (show ptAll (l.take (j + 1)) = (d ++ [t], [], false) by rw [HST.out]; unfold ptStep; rw [HQ.out.1, HQ.out.2]; rfl)
            clear HST
            go_wp2_with (at_builtin; refine wpList_append_own_at _ rfl (.tmp 27) (.tmp 28) 75 rfl w.heap.size 9 i9 (.string ⟨#[]⟩) 1 16 (by kernel_rfl) hi hz0 HI.out hz2 rfl (by decide) _ _ _ rfl (HP.out.1.alloc _) ⟨wr.heap.size, 0, none⟩ 1 1 [.string (S [])] rfl rfl ?a21 ?a22 ?a23 ?a24 ?a25 ?_)
            case a21 => exact fun _ _ h => h
            case a22 => simp [Value.oneCell']
            case a23 => have h9 : d.length ≤ 1000000 := HPL.out.1; unfold maxLen; omega
            case a24 => have h9 : d.length ≤ 1000000 := HPL.out.1; omega
            case a25 => have := HP.out.2.size; first | omega | (simp; omega)
            intro v' w4 hown' hg _ hat
            have HA : Hid (PtAt w w4 v' (ptAll (l.take (j + 1))).1 (ptAll (l.take (j + 1))).2.1) := Lib.hid (by
              rw [HSP.out]
              refine ⟨?_, ?_⟩
              · show w4.ownsRow w.heap.size 9 1 v' ((d ++ [t]).length + 1) (sCs (d ++ [t] ++ [[]]))
                rw [List.length_append, sCs_app (d ++ [t])]
                exact hown'
              · exact (HP.out.2.alloc HP.out.2.size _).grown hg (by have := HP.out.2.size; simp; omega) (fun g e => (own_lt HP.out.1 e).1))
            have HU := Lib.hid (show false = (ptAll (l.take (j + 1))).2.2 by rw [HSP.out])
            clear hown' hg hat
            go_wp2_with fail
            exact ⟨⟨j + 1, by go_num, hlt, congrArg Value.bool HU.out, HA⟩, by simp only [intOf]; omega⟩
        · cases b2
          · have HSP := Lib.hid (show ptAll (l.take (j + 1)) = (d, t ++ [c], true) by rw [HST.out]; unfold ptStep; rw [HQ.out.1, HQ.out.2]; rfl)
            clear HST
            obtain ⟨g, cp, rfl⟩ := own_some2 HP.out.1 (by omega)
            have hw1 : IntKind.wrap .i64 (d.length : Int) = (d.length : Int) := wrapI (by have h9 : d.length ≤ 1000000 := HPL.out.1; omega)
            have hwj : IntKind.wrap .i64 ((j : Int) + 1) = (j : Int) + 1 := wrapI (by omega)
            have hst : (S t).size ≤ 1000000 := by rw [S_size]; exact HPL.out.2
            have hsc : (S [c]).size = 1 := rfl
            go_upto_region 10 with fail
            obtain ⟨w2, hw2⟩ : ∃ X, Hid (X = wr.drew) := ⟨_, rfl⟩
            have HO2 := Lib.hid (show w2.ownsRow w.heap.size 9 1 (.slice (some ⟨g, 0, none⟩) (d.length + 1) cp) (d.length + 1) (sCs (d ++ [t])) by rw [hw2.out]; exact own_stay HP.out.1 (fun _ _ => rfl))
            have HB2 := Lib.hid (show Below w.heap.size w w2 by rw [hw2.out]; exact HP.out.2.drew)
            have hce : w2.cell? ⟨g, d.length, none⟩ = some (.string (S t)) := by
              rw [HO2.out.cellAt (g := g) d.length (by omega)]
              rw [sCs_app, List.getElem?_append_right (by simp [sCs])]
              simp [sCs]
            obtain ⟨cs, hcs⟩ := own_ty HO2.out (g := g) rfl
            have hfr := frozen_of_row w2 g d.length cs 9 hcs
            have hgl : g < w2.heap.size := (Array.getElem?_eq_some_iff.1 hcs).1
            refine wp_region_N (fun X => X = w2) (fun k => k != 17) (by kernel_rfl) ?_
            rw [← hw2.out]
            have hS0 : w2 = w2 := rfl
            refine wpAnyN_take (i := 0) (v := ?v8) rfl (by kernel_rfl) (by kernel_rfl) (by kernel_rfl) (by kernel_rfl) (fun _ _ _ h => h) (Or.inl ⟨by rfl, ?hy8⟩) (by assumption) ?_
            case hy8 => intro w hSw; (try dsimp only at hSw); go_simp; try with_reducible rfl
            simp only [Act.put, List.getElem_toArray, List.getElem_cons_zero, List.setIfInBounds_toArray, List.set_cons_zero, List.set_cons_succ]
            refine wpAnyN_take (i := 1) (v := ?v9) rfl (by kernel_rfl) (by kernel_rfl) (by kernel_rfl) (by kernel_rfl) (fun _ _ _ h => h) (Or.inl ⟨by rfl, ?hy9⟩) (by assumption) ?_
            case hy9 => intro w hSw; (try dsimp only at hSw); go_simp; try with_reducible rfl
            simp only [Act.put, List.getElem_toArray, List.getElem_cons_zero, List.getElem_cons_succ, List.setIfInBounds_toArray, List.set_cons_zero, List.set_cons_succ]
            refine wpAnyN_take (i := 2) (v := .int .i64 ((d.length + 1 : Nat) : Int)) rfl (by kernel_rfl) (by kernel_rfl) (by kernel_rfl) (by kernel_rfl) (fun _ _ _ h => h) (Or.inl ⟨by rfl, ?b32⟩) (by assumption) ?_
            case b32 => intro w hSw; rw [show w = w2 from hSw]; go_simp; skip
            simp only [Act.put, List.getElem_toArray, List.getElem_cons_zero, List.getElem_cons_succ, List.setIfInBounds_toArray, List.set_cons_zero, List.set_cons_succ]
            refine wpAnyN_take (i := 3) (v := .int .i64 (d.length : Int)) rfl (by kernel_rfl) (by kernel_rfl) (by kernel_rfl) (by kernel_rfl) (fun _ _ _ h => h) (Or.inl ⟨by rfl, ?b33⟩) (by assumption) ?_
            case b33 => intro w hSw; rw [show w = w2 from hSw]; go_simp; skip
            simp only [Act.put, List.getElem_toArray, List.getElem_cons_zero, List.getElem_cons_succ, List.setIfInBounds_toArray, List.set_cons_zero, List.set_cons_succ]
            refine wpAnyN_take (i := 4) (v := ?v10) rfl (by kernel_rfl) (by kernel_rfl) (by kernel_rfl) (by kernel_rfl) (fun _ _ _ h => h) (Or.inl ⟨by rfl, ?hy10⟩) (by assumption) ?_
            case hy10 => intro w hSw; (try dsimp only at hSw); go_simp; try with_reducible rfl
            simp only [Act.put, List.getElem_toArray, List.getElem_cons_zero, List.getElem_cons_succ, List.setIfInBounds_toArray, List.set_cons_zero, List.set_cons_succ]
            refine wpAnyN_take (i := 5) (v := ?v11) rfl (by kernel_rfl) (by kernel_rfl) (by kernel_rfl) (by kernel_rfl) (fun _ _ _ h => h) (Or.inl ⟨by rfl, ?hy11⟩) (by assumption) ?_
            case hy11 => intro w hSw; (try dsimp only at hSw); go_simp; try with_reducible rfl
            simp only [Act.put, List.getElem_toArray, List.getElem_cons_zero, List.getElem_cons_succ, List.setIfInBounds_toArray, List.set_cons_zero, List.set_cons_succ]
            refine wpAnyN_take (i := 6) (v := .int .i64 ((d.length + 1 : Nat) : Int)) rfl (by kernel_rfl) (by kernel_rfl) (by kernel_rfl) (by kernel_rfl) (fun _ _ _ h => h) (Or.inl ⟨by rfl, ?b36⟩) (by assumption) ?_
            case b36 => intro w hSw; rw [show w = w2 from hSw]; go_simp; skip
            simp only [Act.put, List.getElem_toArray, List.getElem_cons_zero, List.getElem_cons_succ, List.setIfInBounds_toArray, List.set_cons_zero, List.set_cons_succ]
            refine wpAnyN_take (i := 7) (v := .int .i64 (d.length : Int)) rfl (by kernel_rfl) (by kernel_rfl) (by kernel_rfl) (by kernel_rfl) (fun _ _ _ h => h) (Or.inl ⟨by rfl, ?b37⟩) (by assumption) ?_
            case b37 => intro w hSw; rw [show w = w2 from hSw]; go_simp; skip
            simp only [Act.put, List.getElem_toArray, List.getElem_cons_zero, List.getElem_cons_succ, List.setIfInBounds_toArray, List.set_cons_zero, List.set_cons_succ]
            refine wpAnyN_take (i := 8) (v := .pointer (some ⟨g, d.length, none⟩)) rfl (by kernel_rfl) (by kernel_rfl) (by kernel_rfl) (by kernel_rfl) (fun _ _ _ h => h) (Or.inl ⟨by rfl, ?b38⟩) (by assumption) ?_
            case b38 => intro w hSw; rw [show w = w2 from hSw]; go_simp; intro h9;omega
            simp only [Act.put, List.getElem_toArray, List.getElem_cons_zero, List.getElem_cons_succ, List.setIfInBounds_toArray, List.set_cons_zero, List.set_cons_succ]
            refine wpAnyN_take (i := 9) (v := .string (S t)) rfl (by kernel_rfl) (by kernel_rfl) (by kernel_rfl) (by kernel_rfl) (fun _ _ _ h => h) (Or.inl ⟨by rfl, ?b39⟩) (by assumption) ?_
            case b39 => intro w hSw; rw [show w = w2 from hSw]; go_simp; skip
            simp only [Act.put, List.getElem_toArray, List.getElem_cons_zero, List.getElem_cons_succ, List.setIfInBounds_toArray, List.set_cons_zero, List.set_cons_succ]
            refine wpAnyN_take (i := 10) (v := ?v12) rfl (by kernel_rfl) (by kernel_rfl) (by kernel_rfl) (by kernel_rfl) (fun _ _ _ h => h) (Or.inl ⟨by rfl, ?hy12⟩) (by assumption) ?_
            case hy12 => intro w hSw; (try dsimp only at hSw); go_simp; try with_reducible rfl
            simp only [Act.put, List.getElem_toArray, List.getElem_cons_zero, List.getElem_cons_succ, List.setIfInBounds_toArray, List.set_cons_zero, List.set_cons_succ]
            refine wpAnyN_take (i := 11) (v := ?v13) rfl (by kernel_rfl) (by kernel_rfl) (by kernel_rfl) (by kernel_rfl) (fun _ _ _ h => h) (Or.inl ⟨by rfl, ?hy13⟩) (by assumption) ?_
            case hy13 => intro w hSw; (try dsimp only at hSw); go_simp; try with_reducible rfl
            simp only [Act.put, List.getElem_toArray, List.getElem_cons_zero, List.getElem_cons_succ, List.setIfInBounds_toArray, List.set_cons_zero, List.set_cons_succ]
            refine wpAnyN_take (i := 12) (v := ?v14) rfl (by kernel_rfl) (by kernel_rfl) (by kernel_rfl) (by kernel_rfl) (fun _ _ _ h => h) (Or.inl ⟨by rfl, ?hy14⟩) (by assumption) ?_
            case hy14 => intro w hSw; (try dsimp only at hSw); go_simp; try with_reducible rfl
            simp only [Act.put, List.getElem_toArray, List.getElem_cons_zero, List.getElem_cons_succ, List.setIfInBounds_toArray, List.set_cons_zero, List.set_cons_succ]
            refine wpAnyN_take (i := 13) (v := .int .i64 ((j + 1 : Nat) : Int)) rfl (by kernel_rfl) (by kernel_rfl) (by kernel_rfl) (by kernel_rfl) (fun _ _ _ h => h) (Or.inl ⟨by rfl, ?b313⟩) (by assumption) ?_
            case b313 => intro w hSw; rw [show w = w2 from hSw]; go_simp; skip
            simp only [Act.put, List.getElem_toArray, List.getElem_cons_zero, List.getElem_cons_succ, List.setIfInBounds_toArray, List.set_cons_zero, List.set_cons_succ]
            refine wpAnyN_take (i := 14) (v := .string (S [c])) rfl (by kernel_rfl) (by kernel_rfl) (by kernel_rfl) (by kernel_rfl) (fun _ _ _ h => h) (Or.inl ⟨by rfl, ?b314⟩) (by assumption) ?_
            case b314 => intro w hSw; rw [show w = w2 from hSw]; go_simp; rw [if_pos (by omega), if_pos (by omega), ext_one hlt2, ← hc.out]
            simp only [Act.put, List.getElem_toArray, List.getElem_cons_zero, List.getElem_cons_succ, List.setIfInBounds_toArray, List.set_cons_zero, List.set_cons_succ]
            refine wpAnyN_take (i := 15) (v := .string (S (t ++ [c]))) rfl (by kernel_rfl) (by kernel_rfl) (by kernel_rfl) (by kernel_rfl) (fun _ _ _ h => h) (Or.inl ⟨by rfl, ?b315⟩) (by assumption) ?_
            case b315 => intro w hSw; rw [show w = w2 from hSw]; go_simp; rw [if_neg (by omega), S_app]
            simp only [Act.put, List.getElem_toArray, List.getElem_cons_zero, List.getElem_cons_succ, List.setIfInBounds_toArray, List.set_cons_zero, List.set_cons_succ]
            refine wpAnyN_take (i := 16) (v := .pointer (some ⟨g, d.length, none⟩)) rfl (by kernel_rfl) (by kernel_rfl) (by kernel_rfl) (by kernel_rfl) (fun _ _ _ h => h) (Or.inl ⟨by rfl, ?b316⟩) (by assumption) ?_
            case b316 => intro w hSw; rw [show w = w2 from hSw]; go_simp; intro h9;omega
            simp only [Act.put, List.getElem_toArray, List.getElem_cons_zero, List.getElem_cons_succ, List.setIfInBounds_toArray, List.set_cons_zero, List.set_cons_succ]
            refine wpAnyN_one (i := 17) (by kernel_rfl) rfl (fun K hK => ?_)
            simp only [List.getElem_toArray, List.getElem_cons_zero, List.getElem_cons_succ]
            go_simp
            refine hK _ _ (fun h => absurd h (by decide)) ?_
            (try simp only [Act.put, List.setIfInBounds_toArray, List.set_cons_zero, List.set_cons_succ])
            clear hK
            refine wpAnyN_done (by kernel_rfl) ?_ _
            have HA : Hid (PtAt w (w2.setCell ⟨g, d.length, none⟩ (.string (S (t ++ [c])))) (.slice (some ⟨g, 0, none⟩) (d.length + 1) cp) (ptAll (l.take (j + 1))).1 (ptAll (l.take (j + 1))).2.1) := Lib.hid (by
              rw [HSP.out]
              refine ⟨?_, HB2.out.setCell (own_lt HO2.out (g := g) rfl).1 _⟩
              have h1 := own_setAt (k := d.length) HO2.out (.string (S (t ++ [c])))
              rw [show (sCs (d ++ [t])).set d.length (.string (S (t ++ [c]))) = sCs (d ++ [t ++ [c]]) by
                rw [sCs_app, sCs_app, List.set_append_right _ _ (by simp [sCs])]
                simp [sCs]] at h1
              exact h1)
            have HU := Lib.hid (show true = (ptAll (l.take (j + 1))).2.2 by rw [HSP.out])
            go_wp2_with fail
            exact ⟨⟨j + 1, by go_num, hlt, congrArg Value.bool HU.out, HA⟩, by simp only [intOf]; omega⟩
          · have HSP := Lib.hid (show ptAll (l.take (j + 1)) = (d, t ++ [c], true) by rw [HST.out]; unfold ptStep; rw [HQ.out.1, HQ.out.2]; rfl)
            clear HST
            obtain ⟨g, cp, rfl⟩ := own_some2 HP.out.1 (by omega)
            have hw1 : IntKind.wrap .i64 (d.length : Int) = (d.length : Int) := wrapI (by have h9 : d.length ≤ 1000000 := HPL.out.1; omega)
            have hwj : IntKind.wrap .i64 ((j : Int) + 1) = (j : Int) + 1 := wrapI (by omega)
            have hst : (S t).size ≤ 1000000 := by rw [S_size]; exact HPL.out.2
            have hsc : (S [c]).size = 1 := rfl
            go_upto_region 10 with fail
            obtain ⟨w2, hw2⟩ : ∃ X, Hid (X = wr.drew) := ⟨_, rfl⟩
            have HO2 := Lib.hid (show w2.ownsRow w.heap.size 9 1 (.slice (some ⟨g, 0, none⟩) (d.length + 1) cp) (d.length + 1) (sCs (d ++ [t])) by rw [hw2.out]; exact own_stay HP.out.1 (fun _ _ => rfl))
            have HB2 := Lib.hid (show Below w.heap.size w w2 by rw [hw2.out]; exact HP.out.2.drew)
            have hce : w2.cell? ⟨g, d.length, none⟩ = some (.string (S t)) := by
              rw [HO2.out.cellAt (g := g) d.length (by omega)]
              rw [sCs_app, List.getElem?_append_right (by simp [sCs])]
              simp [sCs]
            obtain ⟨cs, hcs⟩ := own_ty HO2.out (g := g) rfl
            have hfr := frozen_of_row w2 g d.length cs 9 hcs
            have hgl : g < w2.heap.size := (Array.getElem?_eq_some_iff.1 hcs).1
            refine wp_region_N (fun X => X = w2) (fun k => k != 17) (by kernel_rfl) ?_
            rw [← hw2.out]
            have hS0 : w2 = w2 := rfl
            refine wpAnyN_take (i := 0) (v := ?v15) rfl (by kernel_rfl) (by kernel_rfl) (by kernel_rfl) (by kernel_rfl) (fun _ _ _ h => h) (Or.inl ⟨by rfl, ?hy15⟩) (by assumption) ?_
            case hy15 => intro w hSw; (try dsimp only at hSw); go_simp; try with_reducible rfl
            simp only [Act.put, List.getElem_toArray, List.getElem_cons_zero, List.setIfInBounds_toArray, List.set_cons_zero, List.set_cons_succ]
            refine wpAnyN_take (i := 1) (v := ?v16) rfl (by kernel_rfl) (by kernel_rfl) (by kernel_rfl) (by kernel_rfl) (fun _ _ _ h => h) (Or.inl ⟨by rfl, ?hy16⟩) (by assumption) ?_
            case hy16 => intro w hSw; (try dsimp only at hSw); go_simp; try with_reducible rfl
            simp only [Act.put, List.getElem_toArray, List.getElem_cons_zero, List.getElem_cons_succ, List.setIfInBounds_toArray, List.set_cons_zero, List.set_cons_succ]
            refine wpAnyN_take (i := 2) (v := .int .i64 ((d.length + 1 : Nat) : Int)) rfl (by kernel_rfl) (by kernel_rfl) (by kernel_rfl) (by kernel_rfl) (fun _ _ _ h => h) (Or.inl ⟨by rfl, ?b42⟩) (by assumption) ?_
            case b42 => intro w hSw; rw [show w = w2 from hSw]; go_simp; skip
            simp only [Act.put, List.getElem_toArray, List.getElem_cons_zero, List.getElem_cons_succ, List.setIfInBounds_toArray, List.set_cons_zero, List.set_cons_succ]
            refine wpAnyN_take (i := 3) (v := .int .i64 (d.length : Int)) rfl (by kernel_rfl) (by kernel_rfl) (by kernel_rfl) (by kernel_rfl) (fun _ _ _ h => h) (Or.inl ⟨by rfl, ?b43⟩) (by assumption) ?_
            case b43 => intro w hSw; rw [show w = w2 from hSw]; go_simp; skip
            simp only [Act.put, List.getElem_toArray, List.getElem_cons_zero, List.getElem_cons_succ, List.setIfInBounds_toArray, List.set_cons_zero, List.set_cons_succ]
            refine wpAnyN_take (i := 4) (v := ?v17) rfl (by kernel_rfl) (by kernel_rfl) (by kernel_rfl) (by kernel_rfl) (fun _ _ _ h => h) (Or.inl ⟨by rfl, ?hy17⟩) (by assumption) ?_
            case hy17 => intro w hSw; (try dsimp only at hSw); go_simp; try with_reducible rfl
            simp only [Act.put, List.getElem_toArray, List.getElem_cons_zero, List.getElem_cons_succ, List.setIfInBounds_toArray, List.set_cons_zero, List.set_cons_succ]
            refine wpAnyN_take (i := 5) (v := ?v18) rfl (by kernel_rfl) (by kernel_rfl) (by kernel_rfl) (by kernel_rfl) (fun _ _ _ h => h) (Or.inl ⟨by rfl, ?hy18⟩) (by assumption) ?_
            case hy18 => intro w hSw; (try dsimp only at hSw); go_simp; try with_reducible rfl
            simp only [Act.put, List.getElem_toArray, List.getElem_cons_zero, List.getElem_cons_succ, List.setIfInBounds_toArray, List.set_cons_zero, List.set_cons_succ]
            refine wpAnyN_take (i := 6) (v := .int .i64 ((d.length + 1 : Nat) : Int)) rfl (by kernel_rfl) (by kernel_rfl) (by kernel_rfl) (by kernel_rfl) (fun _ _ _ h => h) (Or.inl ⟨by rfl, ?b46⟩) (by assumption) ?_
            case b46 => intro w hSw; rw [show w = w2 from hSw]; go_simp; skip
            simp only [Act.put, List.getElem_toArray, List.getElem_cons_zero, List.getElem_cons_succ, List.setIfInBounds_toArray, List.set_cons_zero, List.set_cons_succ]
            refine wpAnyN_take (i := 7) (v := .int .i64 (d.length : Int)) rfl (by kernel_rfl) (by kernel_rfl) (by kernel_rfl) (by kernel_rfl) (fun _ _ _ h => h) (Or.inl ⟨by rfl, ?b47⟩) (by assumption) ?_
            case b47 => intro w hSw; rw [show w = w2 from hSw]; go_simp; skip
            simp only [Act.put, List.getElem_toArray, List.getElem_cons_zero, List.getElem_cons_succ, List.setIfInBounds_toArray, List.set_cons_zero, List.set_cons_succ]
            refine wpAnyN_take (i := 8) (v := .pointer (some ⟨g, d.length, none⟩)) rfl (by kernel_rfl) (by kernel_rfl) (by kernel_rfl) (by kernel_rfl) (fun _ _ _ h => h) (Or.inl ⟨by rfl, ?b48⟩) (by assumption) ?_
            case b48 => intro w hSw; rw [show w = w2 from hSw]; go_simp; intro h9;omega
            simp only [Act.put, List.getElem_toArray, List.getElem_cons_zero, List.getElem_cons_succ, List.setIfInBounds_toArray, List.set_cons_zero, List.set_cons_succ]
            refine wpAnyN_take (i := 9) (v := .string (S t)) rfl (by kernel_rfl) (by kernel_rfl) (by kernel_rfl) (by kernel_rfl) (fun _ _ _ h => h) (Or.inl ⟨by rfl, ?b49⟩) (by assumption) ?_
            case b49 => intro w hSw; rw [show w = w2 from hSw]; go_simp; skip
            simp only [Act.put, List.getElem_toArray, List.getElem_cons_zero, List.getElem_cons_succ, List.setIfInBounds_toArray, List.set_cons_zero, List.set_cons_succ]
            refine wpAnyN_take (i := 10) (v := ?v19) rfl (by kernel_rfl) (by kernel_rfl) (by kernel_rfl) (by kernel_rfl) (fun _ _ _ h => h) (Or.inl ⟨by rfl, ?hy19⟩) (by assumption) ?_
            case hy19 => intro w hSw; (try dsimp only at hSw); go_simp; try with_reducible rfl
            simp only [Act.put, List.getElem_toArray, List.getElem_cons_zero, List.getElem_cons_succ, List.setIfInBounds_toArray, List.set_cons_zero, List.set_cons_succ]
            refine wpAnyN_take (i := 11) (v := ?v20) rfl (by kernel_rfl) (by kernel_rfl) (by kernel_rfl) (by kernel_rfl) (fun _ _ _ h => h) (Or.inl ⟨by rfl, ?hy20⟩) (by assumption) ?_
            case hy20 => intro w hSw; (try dsimp only at hSw); go_simp; try with_reducible rfl
            simp only [Act.put, List.getElem_toArray, List.getElem_cons_zero, List.getElem_cons_succ, List.setIfInBounds_toArray, List.set_cons_zero, List.set_cons_succ]
            refine wpAnyN_take (i := 12) (v := ?v21) rfl (by kernel_rfl) (by kernel_rfl) (by kernel_rfl) (by kernel_rfl) (fun _ _ _ h => h) (Or.inl ⟨by rfl, ?hy21⟩) (by assumption) ?_
            case hy21 => intro w hSw; (try dsimp only at hSw); go_simp; try with_reducible rfl
            simp only [Act.put, List.getElem_toArray, List.getElem_cons_zero, List.getElem_cons_succ, List.setIfInBounds_toArray, List.set_cons_zero, List.set_cons_succ]
            refine wpAnyN_take (i := 13) (v := .int .i64 ((j + 1 : Nat) : Int)) rfl (by kernel_rfl) (by kernel_rfl) (by kernel_rfl) (by kernel_rfl) (fun _ _ _ h => h) (Or.inl ⟨by rfl, ?b413⟩) (by assumption) ?_
            case b413 => intro w hSw; rw [show w = w2 from hSw]; go_simp; skip
            simp only [Act.put, List.getElem_toArray, List.getElem_cons_zero, List.getElem_cons_succ, List.setIfInBounds_toArray, List.set_cons_zero, List.set_cons_succ]
            refine wpAnyN_take (i := 14) (v := .string (S [c])) rfl (by kernel_rfl) (by kernel_rfl) (by kernel_rfl) (by kernel_rfl) (fun _ _ _ h => h) (Or.inl ⟨by rfl, ?b414⟩) (by assumption) ?_
            case b414 => intro w hSw; rw [show w = w2 from hSw]; go_simp; rw [if_pos (by omega), if_pos (by omega), ext_one hlt2, ← hc.out]
            simp only [Act.put, List.getElem_toArray, List.getElem_cons_zero, List.getElem_cons_succ, List.setIfInBounds_toArray, List.set_cons_zero, List.set_cons_succ]
            refine wpAnyN_take (i := 15) (v := .string (S (t ++ [c]))) rfl (by kernel_rfl) (by kernel_rfl) (by kernel_rfl) (by kernel_rfl) (fun _ _ _ h => h) (Or.inl ⟨by rfl, ?b415⟩) (by assumption) ?_
            case b415 => intro w hSw; rw [show w = w2 from hSw]; go_simp; rw [if_neg (by omega), S_app]
            simp only [Act.put, List.getElem_toArray, List.getElem_cons_zero, List.getElem_cons_succ, List.setIfInBounds_toArray, List.set_cons_zero, List.set_cons_succ]
            refine wpAnyN_take (i := 16) (v := .pointer (some ⟨g, d.length, none⟩)) rfl (by kernel_rfl) (by kernel_rfl) (by kernel_rfl) (by kernel_rfl) (fun _ _ _ h => h) (Or.inl ⟨by rfl, ?b416⟩) (by assumption) ?_
            case b416 => intro w hSw; rw [show w = w2 from hSw]; go_simp; intro h9;omega
            simp only [Act.put, List.getElem_toArray, List.getElem_cons_zero, List.getElem_cons_succ, List.setIfInBounds_toArray, List.set_cons_zero, List.set_cons_succ]
            refine wpAnyN_one (i := 17) (by kernel_rfl) rfl (fun K hK => ?_)
            simp only [List.getElem_toArray, List.getElem_cons_zero, List.getElem_cons_succ]
            go_simp
            refine hK _ _ (fun h => absurd h (by decide)) ?_
            (try simp only [Act.put, List.setIfInBounds_toArray, List.set_cons_zero, List.set_cons_succ])
            clear hK
            refine wpAnyN_done (by kernel_rfl) ?_ _
            have HA : Hid (PtAt w (w2.setCell ⟨g, d.length, none⟩ (.string (S (t ++ [c])))) (.slice (some ⟨g, 0, none⟩) (d.length + 1) cp) (ptAll (l.take (j + 1))).1 (ptAll (l.take (j + 1))).2.1) := Lib.hid (by
              rw [HSP.out]
              refine ⟨?_, HB2.out.setCell (own_lt HO2.out (g := g) rfl).1 _⟩
              have h1 := own_setAt (k := d.length) HO2.out (.string (S (t ++ [c])))
              rw [show (sCs (d ++ [t])).set d.length (.string (S (t ++ [c]))) = sCs (d ++ [t ++ [c]]) by
                rw [sCs_app, sCs_app, List.set_append_right _ _ (by simp [sCs])]
                simp [sCs]] at h1
              exact h1)
            have HU := Lib.hid (show true = (ptAll (l.take (j + 1))).2.2 by rw [HSP.out])
            go_wp2_with fail
            exact ⟨⟨j + 1, by go_num, hlt, congrArg Value.bool HU.out, HA⟩, by simp only [intOf]; omega⟩
      · cases b1
        · cases b2
          · have HSP := Lib.hid (show ptAll (l.take (j + 1)) = (d, t ++ [c], true) by rw [HST.out]; unfold ptStep; rw [HQ.out.1, HQ.out.2]; rfl)
            clear HST
            obtain ⟨g, cp, rfl⟩ := own_some2 HP.out.1 (by omega)
            have hw1 : IntKind.wrap .i64 (d.length : Int) = (d.length : Int) := wrapI (by have h9 : d.length ≤ 1000000 := HPL.out.1; omega)
            have hwj : IntKind.wrap .i64 ((j : Int) + 1) = (j : Int) + 1 := wrapI (by omega)
            have hst : (S t).size ≤ 1000000 := by rw [S_size]; exact HPL.out.2
            have hsc : (S [c]).size = 1 := rfl
            go_upto_region 10 with fail
            obtain ⟨w2, hw2⟩ : ∃ X, Hid (X = wr.drew) := ⟨_, rfl⟩
            have HO2 := Lib.hid (show w2.ownsRow w.heap.size 9 1 (.slice (some ⟨g, 0, none⟩) (d.length + 1) cp) (d.length + 1) (sCs (d ++ [t])) by rw [hw2.out]; exact own_stay HP.out.1 (fun _ _ => rfl))
            have HB2 := Lib.hid (show Below w.heap.size w w2 by rw [hw2.out]; exact HP.out.2.drew)
            have hce : w2.cell? ⟨g, d.length, none⟩ = some (.string (S t)) := by
              rw [HO2.out.cellAt (g := g) d.length (by omega)]
              rw [sCs_app, List.getElem?_append_right (by simp [sCs])]
              simp [sCs]
            obtain ⟨cs, hcs⟩ := own_ty HO2.out (g := g) rfl
            have hfr := frozen_of_row w2 g d.length cs 9 hcs
            have hgl : g < w2.heap.size := (Array.getElem?_eq_some_iff.1 hcs).1
            refine wp_region_N (fun X => X = w2) (fun k => k != 17) (by kernel_rfl) ?_
            rw [← hw2.out]
            have hS0 : w2 = w2 := rfl
            refine wpAnyN_take (i := 0) (v := ?v22) rfl (by kernel_rfl) (by kernel_rfl) (by kernel_rfl) (by kernel_rfl) (fun _ _ _ h => h) (Or.inl ⟨by rfl, ?hy22⟩) (by assumption) ?_
            case hy22 => intro w hSw; (try dsimp only at hSw); go_simp; try with_reducible rfl
            simp only [Act.put, List.getElem_toArray, List.getElem_cons_zero, List.setIfInBounds_toArray, List.set_cons_zero, List.set_cons_succ]
            refine wpAnyN_take (i := 1) (v := ?v23) rfl (by kernel_rfl) (by kernel_rfl) (by kernel_rfl) (by kernel_rfl) (fun _ _ _ h => h) (Or.inl ⟨by rfl, ?hy23⟩) (by assumption) ?_
            case hy23 => intro w hSw; (try dsimp only at hSw); go_simp; try with_reducible rfl
            simp only [Act.put, List.getElem_toArray, List.getElem_cons_zero, List.getElem_cons_succ, List.setIfInBounds_toArray, List.set_cons_zero, List.set_cons_succ]
            refine wpAnyN_take (i := 2) (v := .int .i64 ((d.length + 1 : Nat) : Int)) rfl (by kernel_rfl) (by kernel_rfl) (by kernel_rfl) (by kernel_rfl) (fun _ _ _ h => h) (Or.inl ⟨by rfl, ?b52⟩) (by assumption) ?_
            case b52 => intro w hSw; rw [show w = w2 from hSw]; go_simp; skip
            simp only [Act.put, List.getElem_toArray, List.getElem_cons_zero, List.getElem_cons_succ, List.setIfInBounds_toArray, List.set_cons_zero, List.set_cons_succ]
            refine wpAnyN_take (i := 3) (v := .int .i64 (d.length : Int)) rfl (by kernel_rfl) (by kernel_rfl) (by kernel_rfl) (by kernel_rfl) (fun _ _ _ h => h) (Or.inl ⟨by rfl, ?b53⟩) (by assumption) ?_
            case b53 => intro w hSw; rw [show w = w2 from hSw]; go_simp; skip
            simp only [Act.put, List.getElem_toArray, List.getElem_cons_zero, List.getElem_cons_succ, List.setIfInBounds_toArray, List.set_cons_zero, List.set_cons_succ]
            refine wpAnyN_take (i := 4) (v := ?v24) rfl (by kernel_rfl) (by kernel_rfl) (by kernel_rfl) (by kernel_rfl) (fun _ _ _ h => h) (Or.inl ⟨by rfl, ?hy24⟩) (by assumption) ?_
            case hy24 => intro w hSw; (try dsimp only at hSw); go_simp; try with_reducible rfl
            simp only [Act.put, List.getElem_toArray, List.getElem_cons_zero, List.getElem_cons_succ, List.setIfInBounds_toArray, List.set_cons_zero, List.set_cons_succ]
            refine wpAnyN_take (i := 5) (v := ?v25) rfl (by kernel_rfl) (by kernel_rfl) (by kernel_rfl) (by kernel_rfl) (fun _ _ _ h => h) (Or.inl ⟨by rfl, ?hy25⟩) (by assumption) ?_
            case hy25 => intro w hSw; (try dsimp only at hSw); go_simp; try with_reducible rfl
            simp only [Act.put, List.getElem_toArray, List.getElem_cons_zero, List.getElem_cons_succ, List.setIfInBounds_toArray, List.set_cons_zero, List.set_cons_succ]
            refine wpAnyN_take (i := 6) (v := .int .i64 ((d.length + 1 : Nat) : Int)) rfl (by kernel_rfl) (by kernel_rfl) (by kernel_rfl) (by kernel_rfl) (fun _ _ _ h => h) (Or.inl ⟨by rfl, ?b56⟩) (by assumption) ?_
            case b56 => intro w hSw; rw [show w = w2 from hSw]; go_simp; skip
            simp only [Act.put, List.getElem_toArray, List.getElem_cons_zero, List.getElem_cons_succ, List.setIfInBounds_toArray, List.set_cons_zero, List.set_cons_succ]
            refine wpAnyN_take (i := 7) (v := .int .i64 (d.length : Int)) rfl (by kernel_rfl) (by kernel_rfl) (by kernel_rfl) (by kernel_rfl) (fun _ _ _ h => h) (Or.inl ⟨by rfl, ?b57⟩) (by assumption) ?_
            case b57 => intro w hSw; rw [show w = w2 from hSw]; go_simp; skip
            simp only [Act.put, List.getElem_toArray, List.getElem_cons_zero, List.getElem_cons_succ, List.setIfInBounds_toArray, List.set_cons_zero, List.set_cons_succ]
            refine wpAnyN_take (i := 8) (v := .pointer (some ⟨g, d.length, none⟩)) rfl (by kernel_rfl) (by kernel_rfl) (by kernel_rfl) (by kernel_rfl) (fun _ _ _ h => h) (Or.inl ⟨by rfl, ?b58⟩) (by assumption) ?_
            case b58 => intro w hSw; rw [show w = w2 from hSw]; go_simp; intro h9;omega
            simp only [Act.put, List.getElem_toArray, List.getElem_cons_zero, List.getElem_cons_succ, List.setIfInBounds_toArray, List.set_cons_zero, List.set_cons_succ]
            refine wpAnyN_take (i := 9) (v := .string (S t)) rfl (by kernel_rfl) (by kernel_rfl) (by kernel_rfl) (by kernel_rfl) (fun _ _ _ h => h) (Or.inl ⟨by rfl, ?b59⟩) (by assumption) ?_
            case b59 => intro w hSw; rw [show w = w2 from hSw]; go_simp; skip
            simp only [Act.put, List.getElem_toArray, List.getElem_cons_zero, List.getElem_cons_succ, List.setIfInBounds_toArray, List.set_cons_zero, List.set_cons_succ]
            refine wpAnyN_take (i := 10) (v := ?v26) rfl (by kernel_rfl) (by kernel_rfl) (by kernel_rfl) (by kernel_rfl) (fun _ _ _ h => h) (Or.inl ⟨by rfl, ?hy26⟩) (by assumption) ?_
            case hy26 => intro w hSw; (try dsimp only at hSw); go_simp; try with_reducible rfl
            simp only [Act.put, List.getElem_toArray, List.getElem_cons_zero, List.getElem_cons_succ, List.setIfInBounds_toArray, List.set_cons_zero, List.set_cons_succ]
            refine wpAnyN_take (i := 11) (v := ?v27) rfl (by kernel_rfl) (by kernel_rfl) (by kernel_rfl) (by kernel_rfl) (fun _ _ _ h => h) (Or.inl ⟨by rfl, ?hy27⟩) (by assumption) ?_
            case hy27 => intro w hSw; (try dsimp only at hSw); go_simp; try with_reducible rfl
            simp only [Act.put, List.getElem_toArray, List.getElem_cons_zero, List.getElem_cons_succ, List.setIfInBounds_toArray, List.set_cons_zero, List.set_cons_succ]
            refine wpAnyN_take (i := 12) (v := ?v28) rfl (by kernel_rfl) (by kernel_rfl) (by kernel_rfl) (by kernel_rfl) (fun _ _ _ h => h) (Or.inl ⟨by rfl, ?hy28⟩) (by assumption) ?_
            case hy28 => intro w hSw; (try dsimp only at hSw); go_simp; try with_reducible rfl
            simp only [Act.put, List.getElem_toArray, List.getElem_cons_zero, List.getElem_cons_succ, List.setIfInBounds_toArray, List.set_cons_zero, List.set_cons_succ]
            refine wpAnyN_take (i := 13) (v := .int .i64 ((j + 1 : Nat) : Int)) rfl (by kernel_rfl) (by kernel_rfl) (by kernel_rfl) (by kernel_rfl) (fun _ _ _ h => h) (Or.inl ⟨by rfl, ?b513⟩) (by assumption) ?_
            case b513 => intro w hSw; rw [show w = w2 from hSw]; go_simp; skip
            simp only [Act.put, List.getElem_toArray, List.getElem_cons_zero, List.getElem_cons_succ, List.setIfInBounds_toArray, List.set_cons_zero, List.set_cons_succ]
            refine wpAnyN_take (i := 14) (v := .string (S [c])) rfl (by kernel_rfl) (by kernel_rfl) (by kernel_rfl) (by kernel_rfl) (fun _ _ _ h => h) (Or.inl ⟨by rfl, ?b514⟩) (by assumption) ?_
            case b514 => intro w hSw; rw [show w = w2 from hSw]; go_simp; rw [if_pos (by omega), if_pos (by omega), ext_one hlt2, ← hc.out]
            simp only [Act.put, List.getElem_toArray, List.getElem_cons_zero, List.getElem_cons_succ, List.setIfInBounds_toArray, List.set_cons_zero, List.set_cons_succ]
            refine wpAnyN_take (i := 15) (v := .string (S (t ++ [c]))) rfl (by kernel_rfl) (by kernel_rfl) (by kernel_rfl) (by kernel_rfl) (fun _ _ _ h => h) (Or.inl ⟨by rfl, ?b515⟩) (by assumption) ?_
            case b515 => intro w hSw; rw [show w = w2 from hSw]; go_simp; rw [if_neg (by omega), S_app]
            simp only [Act.put, List.getElem_toArray, List.getElem_cons_zero, List.getElem_cons_succ, List.setIfInBounds_toArray, List.set_cons_zero, List.set_cons_succ]
            refine wpAnyN_take (i := 16) (v := .pointer (some ⟨g, d.length, none⟩)) rfl (by kernel_rfl) (by kernel_rfl) (by kernel_rfl) (by kernel_rfl) (fun _ _ _ h => h) (Or.inl ⟨by rfl, ?b516⟩) (by assumption) ?_
            case b516 => intro w hSw; rw [show w = w2 from hSw]; go_simp; intro h9;omega
            simp only [Act.put, List.getElem_toArray, List.getElem_cons_zero, List.getElem_cons_succ, List.setIfInBounds_toArray, List.set_cons_zero, List.set_cons_succ]
            refine wpAnyN_one (i := 17) (by kernel_rfl) rfl (fun K hK => ?_)
            simp only [List.getElem_toArray, List.getElem_cons_zero, List.getElem_cons_succ]
            go_simp
            refine hK _ _ (fun h => absurd h (by decide)) ?_
            (try simp only [Act.put, List.setIfInBounds_toArray, List.set_cons_zero, List.set_cons_succ])
            clear hK
            refine wpAnyN_done (by kernel_rfl) ?_ _
            have HA : Hid (PtAt w (w2.setCell ⟨g, d.length, none⟩ (.string (S (t ++ [c])))) (.slice (some ⟨g, 0, none⟩) (d.length + 1) cp) (ptAll (l.take (j + 1))).1 (ptAll (l.take (j + 1))).2.1) := Lib.hid (by
              rw [HSP.out]
              refine ⟨?_, HB2.out.setCell (own_lt HO2.out (g := g) rfl).1 _⟩
              have h1 := own_setAt (k := d.length) HO2.out (.string (S (t ++ [c])))
              rw [show (sCs (d ++ [t])).set d.length (.string (S (t ++ [c]))) = sCs (d ++ [t ++ [c]]) by
                rw [sCs_app, sCs_app, List.set_append_right _ _ (by simp [sCs])]
                simp [sCs]] at h1
              exact h1)
            have HU := Lib.hid (show true = (ptAll (l.take (j + 1))).2.2 by rw [HSP.out])
            go_wp2_with fail
            exact ⟨⟨j + 1, by go_num, hlt, congrArg Value.bool HU.out, HA⟩, by simp only [intOf]; omega⟩
          · have HSP := Lib.hid (show ptAll (l.take (j + 1)) = (d, t ++ [c], true) by rw [HST.out]; unfold ptStep; rw [HQ.out.1, HQ.out.2]; rfl)
            clear HST
            obtain ⟨g, cp, rfl⟩ := own_some2 HP.out.1 (by omega)
            have hw1 : IntKind.wrap .i64 (d.length : Int) = (d.length : Int) := wrapI (by have h9 : d.length ≤ 1000000 := HPL.out.1; omega)
            have hwj : IntKind.wrap .i64 ((j : Int) + 1) = (j : Int) + 1 := wrapI (by omega)
            have hst : (S t).size ≤ 1000000 := by rw [S_size]; exact HPL.out.2
            have hsc : (S [c]).size = 1 := rfl
            go_upto_region 10 with fail
            obtain ⟨w2, hw2⟩ : ∃ X, Hid (X = wr.drew) := ⟨_, rfl⟩
            have HO2 := Lib.hid (show w2.ownsRow w.heap.size 9 1 (.slice (some ⟨g, 0, none⟩) (d.length + 1) cp) (d.length + 1) (sCs (d ++ [t])) by rw [hw2.out]; exact own_stay HP.out.1 (fun _ _ => rfl))
            have HB2 := Lib.hid (show Below w.heap.size w w2 by rw [hw2.out]; exact HP.out.2.drew)
            have hce : w2.cell? ⟨g, d.length, none⟩ = some (.string (S t)) := by
              rw [HO2.out.cellAt (g := g) d.length (by omega)]
              rw [sCs_app, List.getElem?_append_right (by simp [sCs])]
              simp [sCs]
            obtain ⟨cs, hcs⟩ := own_ty HO2.out (g := g) rfl
            have hfr := frozen_of_row w2 g d.length cs 9 hcs
            have hgl : g < w2.heap.size := (Array.getElem?_eq_some_iff.1 hcs).1
            refine wp_region_N (fun X => X = w2) (fun k => k != 17) (by kernel_rfl) ?_
            rw [← hw2.out]
            have hS0 : w2 = w2 := rfl
            refine wpAnyN_take (i := 0) (v := ?v29) rfl (by kernel_rfl) (by kernel_rfl) (by kernel_rfl) (by kernel_rfl) (fun _ _ _ h => h) (Or.inl ⟨by rfl, ?hy29⟩) (by assumption) ?_
            case hy29 => intro w hSw; (try dsimp only at hSw); go_simp; try with_reducible rfl
            simp only [Act.put, List.getElem_toArray, List.getElem_cons_zero, List.setIfInBounds_toArray, List.set_cons_zero, List.set_cons_succ]
            refine wpAnyN_take (i := 1) (v := ?v30) rfl (by kernel_rfl) (by kernel_rfl) (by kernel_rfl) (by kernel_rfl) (fun _ _ _ h => h) (Or.inl ⟨by rfl, ?hy30⟩) (by assumption) ?_
            case hy30 => intro w hSw; (try dsimp only at hSw); go_simp; try with_reducible rfl
            simp only [Act.put, List.getElem_toArray, List.getElem_cons_zero, List.getElem_cons_succ, List.setIfInBounds_toArray, List.set_cons_zero, List.set_cons_succ]
            refine wpAnyN_take (i := 2) (v := .int .i64 ((d.length + 1 : Nat) : Int)) rfl (by kernel_rfl) (by kernel_rfl) (by kernel_rfl) (by kernel_rfl) (fun _ _ _ h => h) (Or.inl ⟨by rfl, ?b62⟩) (by assumption) ?_
            case b62 => intro w hSw; rw [show w = w2 from hSw]; go_simp; skip
            simp only [Act.put, List.getElem_toArray, List.getElem_cons_zero, List.getElem_cons_succ, List.setIfInBounds_toArray, List.set_cons_zero, List.set_cons_succ]
            refine wpAnyN_take (i := 3) (v := .int .i64 (d.length : Int)) rfl (by kernel_rfl) (by kernel_rfl) (by kernel_rfl) (by kernel_rfl) (fun _ _ _ h => h) (Or.inl ⟨by rfl, ?b63⟩) (by assumption) ?_
            case b63 => intro w hSw; rw [show w = w2 from hSw]; go_simp; skip
            simp only [Act.put, List.getElem_toArray, List.getElem_cons_zero, List.getElem_cons_succ, List.setIfInBounds_toArray, List.set_cons_zero, List.set_cons_succ]
            refine wpAnyN_take (i := 4) (v := ?v31) rfl (by kernel_rfl) (by kernel_rfl) (by kernel_rfl) (by kernel_rfl) (fun _ _ _ h => h) (Or.inl ⟨by rfl, ?hy31⟩) (by assumption) ?_
            case hy31 => intro w hSw; (try dsimp only at hSw); go_simp; try with_reducible rfl
            simp only [Act.put, List.getElem_toArray, List.getElem_cons_zero, List.getElem_cons_succ, List.setIfInBounds_toArray, List.set_cons_zero, List.set_cons_succ]
            refine wpAnyN_take (i := 5) (v := ?v32) rfl (by kernel_rfl) (by kernel_rfl) (by kernel_rfl) (by kernel_rfl) (fun _ _ _ h => h) (Or.inl ⟨by rfl, ?hy32⟩) (by assumption) ?_
            case hy32 => intro w hSw; (try dsimp only at hSw); go_simp; try with_reducible rfl
            simp only [Act.put, List.getElem_toArray, List.getElem_cons_zero, List.getElem_cons_succ, List.setIfInBounds_toArray, List.set_cons_zero, List.set_cons_succ]
            refine wpAnyN_take (i := 6) (v := .int .i64 ((d.length + 1 : Nat) : Int)) rfl (by kernel_rfl) (by kernel_rfl) (by kernel_rfl) (by kernel_rfl) (fun _ _ _ h => h) (Or.inl ⟨by rfl, ?b66⟩) (by assumption) ?_
            case b66 => intro w hSw; rw [show w = w2 from hSw]; go_simp; skip
            simp only [Act.put, List.getElem_toArray, List.getElem_cons_zero, List.getElem_cons_succ, List.setIfInBounds_toArray, List.set_cons_zero, List.set_cons_succ]
            refine wpAnyN_take (i := 7) (v := .int .i64 (d.length : Int)) rfl (by kernel_rfl) (by kernel_rfl) (by kernel_rfl) (by kernel_rfl) (fun _ _ _ h => h) (Or.inl ⟨by rfl, ?b67⟩) (by assumption) ?_
            case b67 => intro w hSw; rw [show w = w2 from hSw]; go_simp; skip
            simp only [Act.put, List.getElem_toArray, List.getElem_cons_zero, List.getElem_cons_succ, List.setIfInBounds_toArray, List.set_cons_zero, List.set_cons_succ]
            refine wpAnyN_take (i := 8) (v := .pointer (some ⟨g, d.length, none⟩)) rfl (by kernel_rfl) (by kernel_rfl) (by kernel_rfl) (by kernel_rfl) (fun _ _ _ h => h) (Or.inl ⟨by rfl, ?b68⟩) (by assumption) ?_
            case b68 => intro w hSw; rw [show w = w2 from hSw]; go_simp; intro h9;omega
            simp only [Act.put, List.getElem_toArray, List.getElem_cons_zero, List.getElem_cons_succ, List.setIfInBounds_toArray, List.set_cons_zero, List.set_cons_succ]
            refine wpAnyN_take (i := 9) (v := .string (S t)) rfl (by kernel_rfl) (by kernel_rfl) (by kernel_rfl) (by kernel_rfl) (fun _ _ _ h => h) (Or.inl ⟨by rfl, ?b69⟩) (by assumption) ?_
            case b69 => intro w hSw; rw [show w = w2 from hSw]; go_simp; skip
            simp only [Act.put, List.getElem_toArray, List.getElem_cons_zero, List.getElem_cons_succ, List.setIfInBounds_toArray, List.set_cons_zero, List.set_cons_succ]
            refine wpAnyN_take (i := 10) (v := ?v33) rfl (by kernel_rfl) (by kernel_rfl) (by kernel_rfl) (by kernel_rfl) (fun _ _ _ h => h) (Or.inl ⟨by rfl, ?hy33⟩) (by assumption) ?_
            case hy33 => intro w hSw; (try dsimp only at hSw); go_simp; try with_reducible rfl
            simp only [Act.put, List.getElem_toArray, List.getElem_cons_zero, List.getElem_cons_succ, List.setIfInBounds_toArray, List.set_cons_zero, List.set_cons_succ]
            refine wpAnyN_take (i := 11) (v := ?v34) rfl (by kernel_rfl) (by kernel_rfl) (by kernel_rfl) (by kernel_rfl) (fun _ _ _ h => h) (Or.inl ⟨by rfl, ?hy34⟩) (by assumption) ?_
            case hy34 => intro w hSw; (try dsimp only at hSw); go_simp; try with_reducible rfl
            simp only [Act.put, List.getElem_toArray, List.getElem_cons_zero, List.getElem_cons_succ, List.setIfInBounds_toArray, List.set_cons_zero, List.set_cons_succ]
            refine wpAnyN_take (i := 12) (v := ?v35) rfl (by kernel_rfl) (by kernel_rfl) (by kernel_rfl) (by kernel_rfl) (fun _ _ _ h => h) (Or.inl ⟨by rfl, ?hy35⟩) (by assumption) ?_
            case hy35 => intro w hSw; (try dsimp only at hSw); go_simp; try with_reducible rfl
            simp only [Act.put, List.getElem_toArray, List.getElem_cons_zero, List.getElem_cons_succ, List.setIfInBounds_toArray, List.set_cons_zero, List.set_cons_succ]
            refine wpAnyN_take (i := 13) (v := .int .i64 ((j + 1 : Nat) : Int)) rfl (by kernel_rfl) (by kernel_rfl) (by kernel_rfl) (by kernel_rfl) (fun _ _ _ h => h) (Or.inl ⟨by rfl, ?b613⟩) (by assumption) ?_
            case b613 => intro w hSw; rw [show w = w2 from hSw]; go_simp; skip
            simp only [Act.put, List.getElem_toArray, List.getElem_cons_zero, List.getElem_cons_succ, List.setIfInBounds_toArray, List.set_cons_zero, List.set_cons_succ]
            refine wpAnyN_take (i := 14) (v := .string (S [c])) rfl (by kernel_rfl) (by kernel_rfl) (by kernel_rfl) (by kernel_rfl) (fun _ _ _ h => h) (Or.inl ⟨by rfl, ?b614⟩) (by assumption) ?_
            case b614 => intro w hSw; rw [show w = w2 from hSw]; go_simp; rw [if_pos (by omega), if_pos (by omega), ext_one hlt2, ← hc.out]
            simp only [Act.put, List.getElem_toArray, List.getElem_cons_zero, List.getElem_cons_succ, List.setIfInBounds_toArray, List.set_cons_zero, List.set_cons_succ]
            refine wpAnyN_take (i := 15) (v := .string (S (t ++ [c]))) rfl (by kernel_rfl) (by kernel_rfl) (by kernel_rfl) (by kernel_rfl) (fun _ _ _ h => h) (Or.inl ⟨by rfl, ?b615⟩) (by assumption) ?_
            case b615 => intro w hSw; rw [show w = w2 from hSw]; go_simp; rw [if_neg (by omega), S_app]
            simp only [Act.put, List.getElem_toArray, List.getElem_cons_zero, List.getElem_cons_succ, List.setIfInBounds_toArray, List.set_cons_zero, List.set_cons_succ]
            refine wpAnyN_take (i := 16) (v := .pointer (some ⟨g, d.length, none⟩)) rfl (by kernel_rfl) (by kernel_rfl) (by kernel_rfl) (by kernel_rfl) (fun _ _ _ h => h) (Or.inl ⟨by rfl, ?b616⟩) (by assumption) ?_
            case b616 => intro w hSw; rw [show w = w2 from hSw]; go_simp; intro h9;omega
            simp only [Act.put, List.getElem_toArray, List.getElem_cons_zero, List.getElem_cons_succ, List.setIfInBounds_toArray, List.set_cons_zero, List.set_cons_succ]
            refine wpAnyN_one (i := 17) (by kernel_rfl) rfl (fun K hK => ?_)
            simp only [List.getElem_toArray, List.getElem_cons_zero, List.getElem_cons_succ]
            go_simp
            refine hK _ _ (fun h => absurd h (by decide)) ?_
            (try simp only [Act.put, List.setIfInBounds_toArray, List.set_cons_zero, List.set_cons_succ])
            clear hK
            refine wpAnyN_done (by kernel_rfl) ?_ _
            have HA : Hid (PtAt w (w2.setCell ⟨g, d.length, none⟩ (.string (S (t ++ [c])))) (.slice (some ⟨g, 0, none⟩) (d.length + 1) cp) (ptAll (l.take (j + 1))).1 (ptAll (l.take (j + 1))).2.1) := Lib.hid (by
              rw [HSP.out]
              refine ⟨?_, HB2.out.setCell (own_lt HO2.out (g := g) rfl).1 _⟩
              have h1 := own_setAt (k := d.length) HO2.out (.string (S (t ++ [c])))
              rw [show (sCs (d ++ [t])).set d.length (.string (S (t ++ [c]))) = sCs (d ++ [t ++ [c]]) by
                rw [sCs_app, sCs_app, List.set_append_right _ _ (by simp [sCs])]
                simp [sCs]] at h1
              exact h1)
            have HU := Lib.hid (show true = (ptAll (l.take (j + 1))).2.2 by rw [HSP.out])
            go_wp2_with fail
            exact ⟨⟨j + 1, by go_num, hlt, congrArg Value.bool HU.out, HA⟩, by simp only [intOf]; omega⟩
        · cases b2
          · have HSP := Lib.hid (show ptAll (l.take (j + 1)) = (d, t ++ [c], false) by rw [HST.out]; unfold ptStep; rw [HQ.out.1, HQ.out.2]; rfl)
            clear HST
            obtain ⟨g, cp, rfl⟩ := own_some2 HP.out.1 (by omega)
            have hw1 : IntKind.wrap .i64 (d.length : Int) = (d.length : Int) := wrapI (by have h9 : d.length ≤ 1000000 := HPL.out.1; omega)
            have hwj : IntKind.wrap .i64 ((j : Int) + 1) = (j : Int) + 1 := wrapI (by omega)
            have hst : (S t).size ≤ 1000000 := by rw [S_size]; exact HPL.out.2
            have hsc : (S [c]).size = 1 := rfl
            go_upto_region 10 with fail
            obtain ⟨w2, hw2⟩ : ∃ X, Hid (X = wr.drew) := ⟨_, rfl⟩
            have HO2 := Lib.hid (show w2.ownsRow w.heap.size 9 1 (.slice (some ⟨g, 0, none⟩) (d.length + 1) cp) (d.length + 1) (sCs (d ++ [t])) by rw [hw2.out]; exact own_stay HP.out.1 (fun _ _ => rfl))
            have HB2 := Lib.hid (show Below w.heap.size w w2 by rw [hw2.out]; exact HP.out.2.drew)
            have hce : w2.cell? ⟨g, d.length, none⟩ = some (.string (S t)) := by
              rw [HO2.out.cellAt (g := g) d.length (by omega)]
              rw [sCs_app, List.getElem?_append_right (by simp [sCs])]
              simp [sCs]
            obtain ⟨cs, hcs⟩ := own_ty HO2.out (g := g) rfl
            have hfr := frozen_of_row w2 g d.length cs 9 hcs
            have hgl : g < w2.heap.size := (Array.getElem?_eq_some_iff.1 hcs).1
            refine wp_region_N (fun X => X = w2) (fun k => k != 17) (by kernel_rfl) ?_
            rw [← hw2.out]
            have hS0 : w2 = w2 := rfl
            refine wpAnyN_take (i := 0) (v := ?v36) rfl (by kernel_rfl) (by kernel_rfl) (by kernel_rfl) (by kernel_rfl) (fun _ _ _ h => h) (Or.inl ⟨by rfl, ?hy36⟩) (by assumption) ?_
            case hy36 => intro w hSw; (try dsimp only at hSw); go_simp; try with_reducible rfl
            simp only [Act.put, List.getElem_toArray, List.getElem_cons_zero, List.setIfInBounds_toArray, List.set_cons_zero, List.set_cons_succ]
            refine wpAnyN_take (i := 1) (v := ?v37) rfl (by kernel_rfl) (by kernel_rfl) (by kernel_rfl) (by kernel_rfl) (fun _ _ _ h => h) (Or.inl ⟨by rfl, ?hy37⟩) (by assumption) ?_
            case hy37 => intro w hSw; (try dsimp only at hSw); go_simp; try with_reducible rfl
            simp only [Act.put, List.getElem_toArray, List.getElem_cons_zero, List.getElem_cons_succ, List.setIfInBounds_toArray, List.set_cons_zero, List.set_cons_succ]
            refine wpAnyN_take (i := 2) (v := .int .i64 ((d.length + 1 : Nat) : Int)) rfl (by kernel_rfl) (by kernel_rfl) (by kernel_rfl) (by kernel_rfl) (fun _ _ _ h => h) (Or.inl ⟨by rfl, ?b72⟩) (by assumption) ?_
            case b72 => intro w hSw; rw [show w = w2 from hSw]; go_simp; skip
            simp only [Act.put, List.getElem_toArray, List.getElem_cons_zero, List.getElem_cons_succ, List.setIfInBounds_toArray, List.set_cons_zero, List.set_cons_succ]
            refine wpAnyN_take (i := 3) (v := .int .i64 (d.length : Int)) rfl (by kernel_rfl) (by kernel_rfl) (by kernel_rfl) (by kernel_rfl) (fun _ _ _ h => h) (Or.inl ⟨by rfl, ?b73⟩) (by assumption) ?_
            case b73 => intro w hSw; rw [show w = w2 from hSw]; go_simp; skip
            simp only [Act.put, List.getElem_toArray, List.getElem_cons_zero, List.getElem_cons_succ, List.setIfInBounds_toArray, List.set_cons_zero, List.set_cons_succ]
            refine wpAnyN_take (i := 4) (v := ?v38) rfl (by kernel_rfl) (by kernel_rfl) (by kernel_rfl) (by kernel_rfl) (fun _ _ _ h => h) (Or.inl ⟨by rfl, ?hy38⟩) (by assumption) ?_
            case hy38 => intro w hSw; (try dsimp only at hSw); go_simp; try with_reducible rfl
            simp only [Act.put, List.getElem_toArray, List.getElem_cons_zero, List.getElem_cons_succ, List.setIfInBounds_toArray, List.set_cons_zero, List.set_cons_succ]
            refine wpAnyN_take (i := 5) (v := ?v39) rfl (by kernel_rfl) (by kernel_rfl) (by kernel_rfl) (by kernel_rfl) (fun _ _ _ h => h) (Or.inl ⟨by rfl, ?hy39⟩) (by assumption) ?_
            case hy39 => intro w hSw; (try dsimp only at hSw); go_simp; try with_reducible rfl
            simp only [Act.put, List.getElem_toArray, List.getElem_cons_zero, List.getElem_cons_succ, List.setIfInBounds_toArray, List.set_cons_zero, List.set_cons_succ]
            refine wpAnyN_take (i := 6) (v := .int .i64 ((d.length + 1 : Nat) : Int)) rfl (by kernel_rfl) (by kernel_rfl) (by kernel_rfl) (by kernel_rfl) (fun _ _ _ h => h) (Or.inl ⟨by rfl, ?b76⟩) (by assumption) ?_
            case b76 => intro w hSw; rw [show w = w2 from hSw]; go_simp; skip
            simp only [Act.put, List.getElem_toArray, List.getElem_cons_zero, List.getElem_cons_succ, List.setIfInBounds_toArray, List.set_cons_zero, List.set_cons_succ]
            refine wpAnyN_take (i := 7) (v := .int .i64 (d.length : Int)) rfl (by kernel_rfl) (by kernel_rfl) (by kernel_rfl) (by kernel_rfl) (fun _ _ _ h => h) (Or.inl ⟨by rfl, ?b77⟩) (by assumption) ?_
            case b77 => intro w hSw; rw [show w = w2 from hSw]; go_simp; skip
            simp only [Act.put, List.getElem_toArray, List.getElem_cons_zero, List.getElem_cons_succ, List.setIfInBounds_toArray, List.set_cons_zero, List.set_cons_succ]
            refine wpAnyN_take (i := 8) (v := .pointer (some ⟨g, d.length, none⟩)) rfl (by kernel_rfl) (by kernel_rfl) (by kernel_rfl) (by kernel_rfl) (fun _ _ _ h => h) (Or.inl ⟨by rfl, ?b78⟩) (by assumption) ?_
            case b78 => intro w hSw; rw [show w = w2 from hSw]; go_simp; intro h9;omega
            simp only [Act.put, List.getElem_toArray, List.getElem_cons_zero, List.getElem_cons_succ, List.setIfInBounds_toArray, List.set_cons_zero, List.set_cons_succ]
            refine wpAnyN_take (i := 9) (v := .string (S t)) rfl (by kernel_rfl) (by kernel_rfl) (by kernel_rfl) (by kernel_rfl) (fun _ _ _ h => h) (Or.inl ⟨by rfl, ?b79⟩) (by assumption) ?_
            case b79 => intro w hSw; rw [show w = w2 from hSw]; go_simp; skip
            simp only [Act.put, List.getElem_toArray, List.getElem_cons_zero, List.getElem_cons_succ, List.setIfInBounds_toArray, List.set_cons_zero, List.set_cons_succ]
            refine wpAnyN_take (i := 10) (v := ?v40) rfl (by kernel_rfl) (by kernel_rfl) (by kernel_rfl) (by kernel_rfl) (fun _ _ _ h => h) (Or.inl ⟨by rfl, ?hy40⟩) (by assumption) ?_
            case hy40 => intro w hSw; (try dsimp only at hSw); go_simp; try with_reducible rfl
            simp only [Act.put, List.getElem_toArray, List.getElem_cons_zero, List.getElem_cons_succ, List.setIfInBounds_toArray, List.set_cons_zero, List.set_cons_succ]
            refine wpAnyN_take (i := 11) (v := ?v41) rfl (by kernel_rfl) (by kernel_rfl) (by kernel_rfl) (by kernel_rfl) (fun _ _ _ h => h) (Or.inl ⟨by rfl, ?hy41⟩) (by assumption) ?_
            case hy41 => intro w hSw; (try dsimp only at hSw); go_simp; try with_reducible rfl
            simp only [Act.put, List.getElem_toArray, List.getElem_cons_zero, List.getElem_cons_succ, List.setIfInBounds_toArray, List.set_cons_zero, List.set_cons_succ]
            refine wpAnyN_take (i := 12) (v := ?v42) rfl (by kernel_rfl) (by kernel_rfl) (by kernel_rfl) (by kernel_rfl) (fun _ _ _ h => h) (Or.inl ⟨by rfl, ?hy42⟩) (by assumption) ?_
            case hy42 => intro w hSw; (try dsimp only at hSw); go_simp; try with_reducible rfl
            simp only [Act.put, List.getElem_toArray, List.getElem_cons_zero, List.getElem_cons_succ, List.setIfInBounds_toArray, List.set_cons_zero, List.set_cons_succ]
            refine wpAnyN_take (i := 13) (v := .int .i64 ((j + 1 : Nat) : Int)) rfl (by kernel_rfl) (by kernel_rfl) (by kernel_rfl) (by kernel_rfl) (fun _ _ _ h => h) (Or.inl ⟨by rfl, ?b713⟩) (by assumption) ?_
            case b713 => intro w hSw; rw [show w = w2 from hSw]; go_simp; skip
            simp only [Act.put, List.getElem_toArray, List.getElem_cons_zero, List.getElem_cons_succ, List.setIfInBounds_toArray, List.set_cons_zero, List.set_cons_succ]
            refine wpAnyN_take (i := 14) (v := .string (S [c])) rfl (by kernel_rfl) (by kernel_rfl) (by kernel_rfl) (by kernel_rfl) (fun _ _ _ h => h) (Or.inl ⟨by rfl, ?b714⟩) (by assumption) ?_
            case b714 => intro w hSw; rw [show w = w2 from hSw]; go_simp; rw [if_pos (by omega), if_pos (by omega), ext_one hlt2, ← hc.out]
            simp only [Act.put, List.getElem_toArray, List.getElem_cons_zero, List.getElem_cons_succ, List.setIfInBounds_toArray, List.set_cons_zero, List.set_cons_succ]
            refine wpAnyN_take (i := 15) (v := .string (S (t ++ [c]))) rfl (by kernel_rfl) (by kernel_rfl) (by kernel_rfl) (by kernel_rfl) (fun _ _ _ h => h) (Or.inl ⟨by rfl, ?b715⟩) (by assumption) ?_
            case b715 => intro w hSw; rw [show w = w2 from hSw]; go_simp; rw [if_neg (by omega), S_app]
            simp only [Act.put, List.getElem_toArray, List.getElem_cons_zero, List.getElem_cons_succ, List.setIfInBounds_toArray, List.set_cons_zero, List.set_cons_succ]
            refine wpAnyN_take (i := 16) (v := .pointer (some ⟨g, d.length, none⟩)) rfl (by kernel_rfl) (by kernel_rfl) (by kernel_rfl) (by kernel_rfl) (fun _ _ _ h => h) (Or.inl ⟨by rfl, ?b716⟩) (by assumption) ?_
            case b716 => intro w hSw; rw [show w = w2 from hSw]; go_simp; intro h9;omega
            simp only [Act.put, List.getElem_toArray, List.getElem_cons_zero, List.getElem_cons_succ, List.setIfInBounds_toArray, List.set_cons_zero, List.set_cons_succ]
            refine wpAnyN_one (i := 17) (by kernel_rfl) rfl (fun K hK => ?_)
            simp only [List.getElem_toArray, List.getElem_cons_zero, List.getElem_cons_succ]
            go_simp
            refine hK _ _ (fun h => absurd h (by decide)) ?_
            (try simp only [Act.put, List.setIfInBounds_toArray, List.set_cons_zero, List.set_cons_succ])
            clear hK
            refine wpAnyN_done (by kernel_rfl) ?_ _
            have HA : Hid (PtAt w (w2.setCell ⟨g, d.length, none⟩ (.string (S (t ++ [c])))) (.slice (some ⟨g, 0, none⟩) (d.length + 1) cp) (ptAll (l.take (j + 1))).1 (ptAll (l.take (j + 1))).2.1) := Lib.hid (by
              rw [HSP.out]
              refine ⟨?_, HB2.out.setCell (own_lt HO2.out (g := g) rfl).1 _⟩
              have h1 := own_setAt (k := d.length) HO2.out (.string (S (t ++ [c])))
              rw [show (sCs (d ++ [t])).set d.length (.string (S (t ++ [c]))) = sCs (d ++ [t ++ [c]]) by
                rw [sCs_app, sCs_app, List.set_append_right _ _ (by simp [sCs])]
                simp [sCs]] at h1
              exact h1)
            have HU := Lib.hid (show false = (ptAll (l.take (j + 1))).2.2 by rw [HSP.out])
            go_wp2_with fail
            exact ⟨⟨j + 1, by go_num, hlt, congrArg Value.bool HU.out, HA⟩, by simp only [intOf]; omega⟩
          · have HSP := Lib.hid (show ptAll (l.take (j + 1)) = (d ++ [t], [], false) by rw [HST.out]; unfold ptStep; rw [HQ.out.1, HQ.out.2]; rfl)
            clear HST
            go_wp2_with (at_builtin; refine wpList_append_own_at _ rfl (.tmp 27) (.tmp 28) 75 rfl w.heap.size 9 i9 (.string ⟨#[]⟩) 1 16 (by kernel_rfl) hi hz0 HI.out hz2 rfl (by decide) _ _ _ rfl (HP.out.1.alloc _) ⟨wr.heap.size, 0, none⟩ 1 1 [.string (S [])] rfl rfl ?a81 ?a82 ?a83 ?a84 ?a85 ?_)
            case a81 => exact fun _ _ h => h
            case a82 => simp [Value.oneCell']
            case a83 => have h9 : d.length ≤ 1000000 := HPL.out.1; unfold maxLen; omega
            case a84 => have h9 : d.length ≤ 1000000 := HPL.out.1; omega
            case a85 => have := HP.out.2.size; first | omega | (simp; omega)
            intro v' w4 hown' hg _ hat
            have HA : Hid (PtAt w w4 v' (ptAll (l.take (j + 1))).1 (ptAll (l.take (j + 1))).2.1) := Lib.hid (by
              rw [HSP.out]
              refine ⟨?_, ?_⟩
              · show w4.ownsRow w.heap.size 9 1 v' ((d ++ [t]).length + 1) (sCs (d ++ [t] ++ [[]]))
                rw [List.length_append, sCs_app (d ++ [t])]
                exact hown'
              · exact (HP.out.2.alloc HP.out.2.size _).grown hg (by have := HP.out.2.size; simp; omega) (fun g e => (own_lt HP.out.1 e).1))
            have HU := Lib.hid (show false = (ptAll (l.take (j + 1))).2.2 by rw [HSP.out])
            clear hown' hg hat
            go_wp2_with fail
            exact ⟨⟨j + 1, by go_num, hlt, congrArg Value.bool HU.out, HA⟩, by simp only [intOf]; omega⟩
    · have hlj : decide ((j : Int) < (l.length : Int)) = false := decide_eq_false (by omega)
      rw [List.take_of_length_le (by omega)] at HP
      go_wp2_with fail
      go_ret
      refine ⟨_, rfl, ?_, HP.out.2⟩
      unfold ptP
      rw [List.length_append]
      exact HP.out.1
end
end Go.Proofs.YtbipeakinmbdiaaGreatDoor
