/-
  Plain: what the laws say of the values that Eval, Call, Canon and Replace give.
-/
import Derived.Test.YtcagaaacfcpoeaaCy
import Derived.Test.YtcagaaacfcpoeaaCx
namespace Go.Proofs.Ytcagaaacfcpoeaa
open Go.RowKit

theorem rng_num {L : List Int} (hL : L.length ≤ 8000) : ∀ t : Tm, rngT t = true → rngT (mapT (numF L) t) = true := Tm.ind fun k n s a ih h => by
  rw [rngT_mk] at h
  simp only [Bool.and_eq_true, decide_eq_true_eq] at h
  rw [mapT_mk, rngT_mk, Bool.and_eq_true, decide_eq_true_eq, rngT_go_all]
  refine ⟨?_, fun x hx => ?_⟩
  · unfold numF
    split
    · have := posI_range L n
      unfold inR
      omega
    · exact h.1
  · obtain ⟨y, hy, rfl⟩ := List.mem_map.1 hx
    exact ih y hy ((rngT_go_all a).1 h.2 y hy)
theorem rng_canon {t : Tm} (h : rngT t = true) : rngT (canonT t) = true := by
  unfold canonT
  split
  · rename_i hv
    have h1 := (validT_ok hv).2
    have h2 := varsT_len _ t [] (Nat.lt_succ_self _)
    simp only [List.length_nil] at h2
    exact rng_num (by omega) t h
  · simp [rngT, rngT.go]
theorem evT_zero {t : Tm} (h : (evT t).2.2 = 0) : validT t = true ∧ valT t = .ok (evT t).1 := by
  unfold evT at h ⊢
  cases hv : validT t
  · rw [hv] at h; simp at h
  · rw [hv] at h
    simp only [Bool.true_eq_false, if_false] at h ⊢
    cases ht : valT t with
    | error b => rw [ht] at h; simp at h
    | ok n => simp
theorem evT_ball {t : Tm} (h : (evT t).2.2 = 8) : validT (evT t).2.1 = true := by
  unfold evT at h ⊢
  cases hv : validT t
  · rw [hv] at h; simp at h
  · rw [hv] at h
    simp only [Bool.true_eq_false, if_false] at h ⊢
    cases ht : valT t with
    | error b => exact valT_ball t b ht
    | ok n => rw [ht] at h; simp at h
theorem sameT_refl {t : Tm} (h : validT t = true) : sameT t t = true := sameT_iff.2 ⟨h, rfl⟩
theorem valid_goal {s : ByteArray} {a b : Tm} (hs : s.size ≤ 100) (ha : validT a = true) (hb : validT b = true) (hc : cnt a + cnt b < 2000) : validT (goalC s [a, b]) = true := by
  have h1 := validT_ok ha
  have h2 := validT_ok hb
  unfold validT
  rw [Bool.and_eq_true, decide_eq_true_eq, cnt_mk, okT_mk]
  refine ⟨by simp only [cnt.go]; omega, ?_⟩
  simp only [okT.go, h1.1, h2.1]
  simp [nodeB]; omega
theorem gnd_goal {s : ByteArray} {a b : Tm} (ha : gndT a = true) (hb : gndT b = true) : gndT (goalC s [a, b]) = true := by
  rw [gndT_mk]; simp [gndT.go, ha, hb]
theorem canonT_gnd {t : Tm} (hv : validT t = true) (h : gndT t = true) : canonT t = t := by
  unfold canonT; rw [if_pos hv]; exact gnd_num _ t h
/-- the result of a comparison of two expressions with values -/
theorem one_val {s : ByteArray} {a b : Tm} {x y : Int} (hs : s.size ≤ 100) (hc : cnt a + cnt b < 2000) (ha : validT a = true) (hb : validT b = true) (hx : valT a = .ok x) (hy : valT b = .ok y) (his : (s.toList == [105, 115]) = false) (hcmp : (lookS cmpT s).isSome = true) :
    ((callV (canonT (goalC s [a, b]))).1.length == 1) = cmpB s x y ∧ (callV (canonT (goalC s [a, b]))).2.2 = 0 := by
  have hv := valid_goal hs ha hb hc
  have hg := canonT_gnd hv (gnd_goal (s := s) (val_gnd a (validT_ok ha).1 x hx).1 (val_gnd b (validT_ok hb).1 y hy).1)
  rw [hg, callV_two (by rw [hv, hg, sameT_refl hv]; rfl) (by unfold hasS; rw [hcmp]; rfl), callL_cmp his (a := x) (b := y) (by simp only [valT.go, hx, hy])]
  cases cmpB s x y <;> simp
theorem canT_two {s : ByteArray} {x t : Tm} : canT (goalC s [x, t]) = goalC s [mapT (numF (varsT (goalC s [x, t]) [])) x, mapT (numF (varsT (goalC s [x, t]) [])) t] := by
  show mapT (numF (varsT (goalC s [x, t]) [])) (goalC s [x, t]) = _
  rw [mapT_mk]
  rfl
/-- is/2 has one answer for an expression with a value -/
theorem is_val {x t : Tm} {n : Int} (ht : valT t = .ok n) (hv : validT (goalC { data := #[105, 115] } [x, t]) = true) :
    ∃ x', canonT (goalC { data := #[105, 115] } [x, t]) = goalC { data := #[105, 115] } [x', t] ∧ callV (goalC { data := #[105, 115] } [x', t]) = ([goalC { data := #[105, 115] } [intC n, t]], zeroT, 0) ∧ validT (goalC { data := #[105, 115] } [intC n, t]) = true := by
  have hok := validT_ok hv
  have h1 := hok.1
  rw [okT_mk] at h1
  simp only [okT.go, Bool.and_eq_true] at h1
  have hg := (val_gnd t h1.2.2.1 n ht).1
  have he : canonT (goalC { data := #[105, 115] } [x, t]) = goalC { data := #[105, 115] } [mapT (numF (varsT (goalC { data := #[105, 115] } [x, t]) [])) x, t] := by
    unfold canonT; rw [if_pos hv, canT_two, gnd_num _ t hg]
  refine ⟨_, he, ?_, ?_⟩
  · rw [← he]
    have hv2 : validT (canonT (goalC { data := #[105, 115] } [x, t])) = true := by unfold canonT; rw [if_pos hv]; exact validT_can hv
    have hs := canonT_twice hv
    rw [he] at hv2 hs ⊢
    have hcl : validT (goalC { data := #[105, 115] } [intC n, t]) = true := by
      have h2 := hok.2
      rw [cnt_mk] at h2
      simp only [cnt.go] at h2
      have h3 := cnt_pos x
      unfold validT
      rw [Bool.and_eq_true, decide_eq_true_eq, cnt_mk, okT_mk]
      refine ⟨by simp only [cnt.go, cnt_mk]; omega, ?_⟩
      simp only [okT.go, h1.2.2.1]
      simp [nodeB, okT_mk, okT.go, ByteArray.size]
    rw [callV_two (by rw [hv2, hs, sameT_refl hv2]; rfl) (by simp [hasS, eqS_data]), callL_is (n := n) (by simp [ByteArray.toList_eq]) ht]
    simp only [structC, cloneT]
    rw [if_neg (by simp), if_pos hcl]
  · have h2 := hok.2
    rw [cnt_mk] at h2
    simp only [cnt.go] at h2
    have h3 := cnt_pos x
    unfold validT
    rw [Bool.and_eq_true, decide_eq_true_eq, cnt_mk, okT_mk]
    refine ⟨by simp only [cnt.go, cnt_mk]; omega, ?_⟩
    simp only [okT.go, h1.2.2.1]
    simp [nodeB, okT_mk, okT.go, ByteArray.size]
theorem canonT_bad {t : Tm} (h : validT t = false) : canonT t = zeroT := by unfold canonT; rw [h]; rfl
theorem replV_zero {t y : Tm} {v : Int} (h : (replV t v y).2 = 0) : replV t v y = (putT v y t, 0) ∧ validT (putT v y t) = true := by
  cases h1 : (validT t && decide (0 ≤ v ∧ v ≤ 1099511627776) && validT y)
  · rw [replV_bad h1] at h; simp at h
  · by_cases h2 : 2000 < cnt t + occT v t * (cnt y - 1)
    · rw [replV_long h1 h2] at h; simp at h
    · refine ⟨replV_ok h1 h2, ?_⟩
      simp only [Bool.and_eq_true] at h1
      have ht := validT_ok h1.1.1
      have hy := validT_ok h1.2
      unfold validT
      rw [Bool.and_eq_true, decide_eq_true_eq]
      refine ⟨?_, ok_put hy.1 t ht.1⟩
      have h3 := cnt_put v y t ht.1
      have h4 := cnt_pos y
      rw [Nat.mul_sub_one] at h2
      have h5 : occT v t ≤ occT v t * cnt y := Nat.le_mul_of_pos_right _ (by omega)
      omega
/-- an expression and its value put in place of a variable -/
theorem parts_val {t y : Tm} {v n : Int} (hy : (evT y).2.2 = 0) (hn : n = (evT y).1) (h1 : (replV t v y).2 = 0) (h2 : (replV t v (intC n)).2 = 0) : evT (replV t v y).1 = evT (replV t v (intC n)).1 := by
  obtain ⟨e1, v1⟩ := replV_zero h1
  obtain ⟨e2, v2⟩ := replV_zero h2
  rw [e1, e2]
  obtain ⟨-, hv⟩ := evT_zero hy
  have h := val_put (v := v) (b := y) (c := intC n) (by rw [hv, hn]; exact (valT_int (t := intC (evT y).1) rfl).symm) t
  unfold evT
  simp only
  rw [v1, v2, h]
end Go.Proofs.Ytcagaaacfcpoeaa
