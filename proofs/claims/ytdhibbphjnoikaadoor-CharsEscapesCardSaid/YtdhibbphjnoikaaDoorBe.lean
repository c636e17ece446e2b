/-
  The walks of find and Convert, both.
-/
import Derived.Test.YtdhibbphjnoikaaDoorBd
namespace Go.Proofs.YtdhibbphjnoikaaDoor
open Go.RowKit
theorem srt_lt {l : Tab} : ∀ {lo : Int}, Srt lo l → ∀ {i j : Nat}, i < j → j < l.length → (l.getD i (0, 0)).1 < (l.getD j (0, 0)).1 := by
  induction l with
  | nil => intro _ _ i j _ hj; simp at hj
  | cons x t ih =>
    intro lo h i j hij hj
    cases j with
    | zero => omega
    | succ j =>
      cases i with
      | zero => have := (srt_at h.2.2.2.2.2 j (by simpa using hj)).1.1; simp at this ⊢; omega
      | succ i => simpa using ih h.2.2.2.2.2 (show i < j by omega) (by simpa using hj)
theorem pos_is {l : Tab} {c : Int} {i : Nat} (hi : i ≤ l.length) (h1 : ∀ p, p < i → (l.getD p (0, 0)).1 < c) (h2 : i < l.length → c ≤ (l.getD i (0, 0)).1) : pos l c = i := by
  unfold pos
  rcases Nat.lt_or_ge i l.length with h | h
  · rw [List.findIdx_eq h]
    have h3 := h2 h
    rw [List.getD_eq_getElem?_getD, List.getElem?_eq_getElem h] at h3
    refine ⟨by simpa using h3, fun j hj => ?_⟩
    have h4 := h1 j hj
    rw [List.getD_eq_getElem?_getD, List.getElem?_eq_getElem (by omega)] at h4
    simp at h4 ⊢
    omega
  · have e : i = l.length := by omega
    rw [e]
    refine List.findIdx_eq_length.2 fun x hx => ?_
    obtain ⟨j, hj, rfl⟩ := List.mem_iff_getElem.1 hx
    have h4 := h1 j (by omega)
    rw [List.getD_eq_getElem?_getD, List.getElem?_eq_getElem hj] at h4
    simp at h4 ⊢
    omega
/-- whether a table in order has a key -/
def hasK (l : Tab) (c : Int) : Bool := decide (pos l c < l.length) && ((l.getD (pos l c) (0, 0)).1 == c)
theorem pos_le (l : Tab) (c : Int) : pos l c ≤ l.length := List.findIdx_le_length
set_option maxHeartbeats 1000000 in
theorem search_any (A : Option Addr) (n cap : Nat) (l : Tab) (c : Int) (w : World) (h : PairsAt w w.heap.size A n l) (hs : Srt 0 l) :
    Calls Tryd.prog 36 #[.slice A n cap, .int .i64 c, .func (.func 37) #[] #[]] w fun e w' => e = .returned (.tuple #[.int .i64 (pos l c), .bool (hasK l c)]) ∧ Below w.heap.size w w' := by
  have hn := h.1.2
  have hl := h.len
  have HA := Lib.hid h
  have HS := Lib.hid hs
  clear h hs
  go_enter Tryd.func36, Tryd.ntmps36
  go_wp2_with fail
  go_loopw [9, 10] (fun u v wr => ∃ i j : Nat, i ≤ j ∧ j ≤ n ∧ u = .int .i64 (i : Int) ∧ v = .int .i64 (j : Int) ∧ Hid (∀ p, p < i → (l.getD p (0, 0)).1 < c) ∧ Hid (∀ p, j ≤ p → p < n → c ≤ (l.getD p (0, 0)).1) ∧ Hid (Below w.heap.size w wr)) (fun u v _ => (intOf v).toNat - (intOf u).toNat)
  case atStart => exact ⟨0, n, by omega, by omega, rfl, rfl, Lib.hid fun _ h => absurd h (by omega), Lib.hid fun p h h2 => absurd h2 (by omega), Lib.hid (Below.refl _ _)⟩
  case round =>
    obtain ⟨i, j, hij, hj, rfl, rfl, H1, H2, HW⟩ := hrel
    by_cases hlt : i < j
    · obtain ⟨b, off, rfl, hB, hc⟩ := (HA.out.below HW.out).at (show (i + j) / 2 < n by omega)
      obtain ⟨c0, c1⟩ := hc
      generalize hx : l.getD ((i + j) / 2) (0, 0) = x at *
      have HX := Lib.hid hx
      clear hx
      go_wp2_with fail
      refine (find1_any x c _).mono ?_
      rintro e w1 ⟨rfl, hb⟩
      have HB := Lib.hid (bNext HW.out hb)
      clear hb
      by_cases hd : x.1 < c
      · have hcm : cmpI x.1 c = -1 := if_pos hd
        rw [hcm]
        have HD := Lib.hid hd
        clear hcm hd
        go_wp2_with fail
        exact ⟨⟨(i + j) / 2 + 1, j, by omega, by omega, by go_num, rfl, Lib.hid fun p hp => by
          rcases Nat.lt_or_ge p ((i + j) / 2) with h | h
          · have := srt_lt HS.out h (by omega)
            rw [HX.out] at this
            have := HD.out
            omega
          · (obtain rfl : p = (i + j) / 2 := by omega); rw [HX.out]; exact HD.out, H2, HB⟩, by simp [intOf]; omega⟩
      · have hcm : decide (cmpI x.1 c < 0) = false := by unfold cmpI; rw [if_neg hd]; split <;> decide
        have HD := Lib.hid hd
        generalize cmpI x.1 c = q at *
        clear hd
        go_wp2_with fail
        exact ⟨⟨i, (i + j) / 2, by omega, by omega, rfl, by go_num, H1, Lib.hid fun p h1 h2 => by
          rcases Nat.eq_or_lt_of_le h1 with h | h
          · rw [← h, HX.out]; have := HD.out; omega
          · have := srt_lt HS.out h (by omega)
            rw [HX.out] at this
            have := HD.out
            omega, HB⟩, by simp [intOf]; omega⟩
    · obtain rfl : j = i := by omega
      have HP := Lib.hid (pos_is (l := l) (c := c) (i := j) (by omega) H1.out (fun h => H2.out j (by omega) (by omega)))
      clear hlt hij
      by_cases hj2 : j < n
      · obtain ⟨b, off, rfl, hB, hc⟩ := (HA.out.below HW.out).at hj2
        obtain ⟨c0, c1⟩ := hc
        generalize hx : l.getD j (0, 0) = x at *
        have HK := Lib.hid (show hasK l c = (x.1 == c) by unfold hasK; rw [HP.out, hx]; simp; intro _; omega)
        clear hx
        go_wp2_with fail
        refine (find1_any x c _).mono ?_
        rintro e w1 ⟨rfl, hb⟩
        have HB := Lib.hid (bNext HW.out hb)
        clear hb
        have hcm : (cmpI x.1 c == 0) = (x.1 == c) := by
          unfold cmpI
          rw [Bool.eq_iff_iff]
          simp only [beq_iff_eq]
          split
          · omega
          · split <;> omega
        generalize cmpI x.1 c = q at *
        obtain ⟨o, ho⟩ : ∃ o, (x.1 == c) = o := ⟨_, rfl⟩
        rw [ho] at hcm HK
        clear ho
        go_wp2_with fail
        go_ret2
        exact ⟨ret_two (by rw [HP.out]) HK.out.symm, HB.out⟩
      · have HK := Lib.hid (show hasK l c = false by unfold hasK; rw [HP.out]; simp; omega)
        have hj3 : decide (j < n) = false := decide_eq_false hj2
        go_wp2_with fail
        go_ret2
        exact ⟨ret_two (by rw [HP.out]) HK.out.symm, HW.out⟩
theorem find_any (A : Option Addr) (n cap : Nat) (l : Tab) (c : Int) (w : World) (h : PairsAt w w.heap.size A n l) (hs : Srt 0 l) :
    Calls Tryd.prog 28 #[.slice A n cap, .int .i64 c] w fun e w' => e = .returned (.tuple #[.int .i64 (pos l c), .bool (hasK l c)]) ∧ Below w.heap.size w w' := by
  have HA := Lib.hid h
  have HS := Lib.hid hs
  clear h hs
  go_enter Tryd.func28, Tryd.ntmps28
  go_wp2_with fail
  refine (search_any A n cap l c _ HA.out HS.out).mono ?_
  rintro e w1 ⟨rfl, hb⟩
  have HB := Lib.hid hb
  clear hb
  generalize hp : pos l c = p
  generalize ho : hasK l c = o
  have HP := Lib.hid hp
  have HO := Lib.hid ho
  clear hp ho
  go_wp2_with fail
  go_ret2
  exact ⟨ret_two (by rw [HP.out]) HO.out.symm, HB.out⟩
theorem conv_at {l : Tab} {c : Int} (hs : Srt 0 l) (h : hasK l c = true) : conv l c = (l.getD (pos l c) (0, 0)).2 := by
  unfold hasK at h
  simp only [Bool.and_eq_true, decide_eq_true_eq, beq_iff_eq] at h
  obtain ⟨hp, he⟩ := h
  have key : ∀ {l : Tab} {lo : Int} {i : Nat}, Srt lo l → i < l.length → (l.getD i (0, 0)).1 = c → conv l c = (l.getD i (0, 0)).2 := by
    intro l
    induction l with
    | nil => intro lo i _ hi _; simp at hi
    | cons x t ih =>
      intro lo i hs hi he
      rw [conv_cons]
      cases i with
      | zero => simp at he ⊢; exact fun h => absurd he h
      | succ i =>
        have h1 := (srt_at hs.2.2.2.2.2 i (by simpa using hi)).1.1
        simp only [List.getD_cons_succ] at he ⊢
        rw [if_neg (by omega)]
        exact ih hs.2.2.2.2.2 (by simpa using hi) he
  exact key hs hp he
theorem pos_lt {l : Tab} {c : Int} {p : Nat} (h : p < pos l c) : (l.getD p (0, 0)).1 < c := by
  have h2 := List.not_of_lt_findIdx h
  have hp : p < l.length := Nat.lt_of_lt_of_le h (pos_le l c)
  rw [List.getD_eq_getElem?_getD, List.getElem?_eq_getElem hp]
  simp at h2 ⊢
  omega
theorem conv_no {l : Tab} {c : Int} (hs : Srt 0 l) (h : hasK l c = false) : conv l c = c := by
  unfold conv
  rw [List.find?_eq_none.2]
  · rfl
  · intro x hx e
    obtain ⟨j, hj, rfl⟩ := List.mem_iff_getElem.1 hx
    have e2 : (l.getD j (0, 0)).1 = c := by rw [List.getD_eq_getElem?_getD, List.getElem?_eq_getElem hj]; simpa using e
    have hpj : pos l c = j := pos_is (by omega) (fun p hp => by have := srt_lt hs hp hj; omega) (fun _ => by omega)
    unfold hasK at h
    rw [hpj] at h
    simp [hj] at h
    rw [List.getD_eq_getElem?_getD, List.getElem?_eq_getElem hj] at e2
    exact h e2
theorem cv_bad {l : Tab} {c : Int} (h : vld l = false) : cv l c = 0 := by unfold cv; rw [h]; rfl
theorem cv_chr {l : Tab} {c : Int} (h : chr c = false) : cv l c = 0 := by unfold cv; rw [h, Bool.and_false]; rfl
theorem cv_ok {l : Tab} {c : Int} (h : vld l = true) (h2 : chr c = true) : cv l c = conv l c := by unfold cv; rw [h, h2]; rfl
set_option maxHeartbeats 1000000 in
theorem convert_any (A : Option Addr) (n cap : Nat) (l : Tab) (c : Int) (w : World) (h : PairsAt w w.heap.size A n l) :
    Calls Tryd.prog 13 #[.slice A n cap, .int .i64 c] w fun e w' => e = .returned (.int .i64 (cv l c)) ∧ Below w.heap.size w w' := by
  have hn := h.1.2
  have hl := h.len
  have HA := Lib.hid h
  clear h
  go_enter Tryd.func13, Tryd.ntmps13
  go_wp2_with fail
  refine (valid_any A n cap l _ HA.out).mono ?_
  rintro e w1 ⟨rfl, hb⟩
  have HB := Lib.hid hb
  clear hb
  cases hv : vld l
  · have HE := Lib.hid (cv_bad (c := c) hv)
    go_wp2_with fail
    go_ret
    exact ⟨ret_i64 HE.out.symm, HB.out⟩
  have HV := Lib.hid hv
  clear hv
  go_wp2_with fail
  refine (is_any c _).mono ?_
  rintro e w2 ⟨rfl, rfl⟩
  cases hc : chr c
  · have HE := Lib.hid (cv_chr (l := l) hc)
    go_wp2_with fail
    go_ret
    exact ⟨ret_i64 HE.out.symm, HB.out⟩
  have HC := Lib.hid hc
  clear hc
  go_wp2_with fail
  refine (find_any A n cap l c _ ((HA.out.below HB.out).more HB.out.size) (srt_vld HV.out)).mono ?_
  rintro e w3 ⟨rfl, hb⟩
  have HB2 := Lib.hid (bNext HB.out hb)
  clear hb
  have hp := pos_le l c
  cases hk : hasK l c
  · have HE := Lib.hid (show cv l c = c by rw [cv_ok HV.out HC.out]; exact conv_no (srt_vld HV.out) hk)
    generalize pos l c = p at *
    go_wp2_with fail
    go_ret
    exact ⟨ret_i64 HE.out.symm, HB2.out⟩
  · have HE := Lib.hid (show cv l c = (l.getD (pos l c) (0, 0)).2 by rw [cv_ok HV.out HC.out]; exact conv_at (srt_vld HV.out) hk)
    have hlt : pos l c < n := by unfold hasK at hk; simp at hk; omega
    generalize pos l c = p at *
    obtain ⟨b, off, rfl, hB, hc⟩ := (HA.out.below HB2.out).at hlt
    obtain ⟨c0, c1⟩ := hc
    generalize l.getD p (0, 0) = x at *
    go_wp2_with fail
    go_ret
    exact ⟨ret_i64 HE.out.symm, HB2.out⟩
set_option maxHeartbeats 1000000 in
theorem rconvert_any (A : Option Addr) (n cap : Nat) (l : Tab) (c : Int) (w : World) (h : PairsAt w w.heap.size A n l) :
    Calls Tryd.prog 17 #[.slice A n cap, .int .i64 c] w fun e w' => e = .returned (.int .i64 (cv l c)) ∧ Below w.heap.size w w' := by
  have hn := h.1.2
  have hl := h.len
  have HA := Lib.hid h
  clear h
  go_enter Tryd.func17, Tryd.ntmps17
  go_wp2_with fail
  refine (rvalid_any A n cap l _ HA.out).mono ?_
  rintro e w1 ⟨rfl, hb⟩
  have HB := Lib.hid hb
  clear hb
  cases hv : vld l
  · have HE := Lib.hid (cv_bad (c := c) hv)
    go_wp2_with fail
    go_ret
    exact ⟨ret_i64 HE.out.symm, HB.out⟩
  have HV := Lib.hid hv
  clear hv
  go_wp2_with fail
  refine (ris_any c _).mono ?_
  rintro e w2 ⟨rfl, rfl⟩
  cases hc : chr c
  · have HE := Lib.hid (cv_chr (l := l) hc)
    go_wp2_with fail
    go_ret
    exact ⟨ret_i64 HE.out.symm, HB.out⟩
  have HC := Lib.hid hc
  clear hc
  go_wp2_with fail
  go_loop [5] (fun i => ∃ k : Nat, k ≤ n ∧ i = .int .i64 (k : Int) ∧ Hid (conv l c = conv (l.drop k) c)) (fun i => n - (intOf i).toNat)
  case atStart => exact ⟨0, by omega, rfl, rfl⟩
  case round =>
    obtain ⟨k, hk, rfl, HP⟩ := hrel
    by_cases hlt : k < n
    · obtain ⟨b, off, rfl, hB, hc⟩ := (HA.out.below HB.out).at hlt
      obtain ⟨c0, c1⟩ := hc
      have hd : l.drop k = l.getD k (0, 0) :: l.drop (k + 1) := by
        rw [List.drop_eq_getElem_cons (by omega), List.getD_eq_getElem?_getD, List.getElem?_eq_getElem (by omega)]; rfl
      generalize l.getD k (0, 0) = x at *
      have HD := Lib.hid (show conv l c = if x.1 = c then x.2 else conv (l.drop (k + 1)) c by rw [HP.out, hd, conv_cons])
      clear hd
      cases he : x.1 == c
      · have HF := Lib.hid (show conv l c = conv (l.drop (k + 1)) c by rw [HD.out, if_neg (by simpa using he)])
        go_wp2_with fail
        exact ⟨⟨k + 1, by omega, by go_num, HF⟩, by simp [intOf]; omega⟩
      · have HF := Lib.hid (show cv l c = x.2 by rw [cv_ok HV.out HC.out, HD.out, if_pos (by simpa using he)])
        go_wp2_with fail
        go_ret
        exact ⟨ret_i64 HF.out.symm, HB.out⟩
    · have HF := Lib.hid (show cv l c = c by rw [cv_ok HV.out HC.out, HP.out, List.drop_of_length_le (by omega)]; rfl)
      go_wp2_with fail
      go_ret
      exact ⟨ret_i64 HF.out.symm, HB.out⟩
end Go.Proofs.YtdhibbphjnoikaaDoor
