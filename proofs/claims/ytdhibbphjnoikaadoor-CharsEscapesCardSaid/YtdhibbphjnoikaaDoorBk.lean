/-
  The walks of among, and of Unescape, both.
-/
import Derived.Test.YtdhibbphjnoikaaDoorBj
import Derived.Outline
namespace Go.Proofs.YtdhibbphjnoikaaDoor
open Go.RowKit
def amg (l : List UInt8) (c : Int) : Bool := l.any fun b => (b.toNat : Int) == c
theorem size_len (t : ByteArray) : t.data.toList.length = t.size := by rw [Array.length_toList]; rfl
theorem byte_at (t : ByteArray) (k : Nat) (_ : k < t.data.toList.length) (hk : k < t.size) : t.data.toList[k] = t[k] := by
  rw [Array.getElem_toList]; rfl
set_option maxHeartbeats 1000000 in
theorem among_any (s : ByteArray) (hs : s.size ≤ 1000) (c : Int) (w : World) : Calls Tryd.prog 35 #[.string s, .int .i64 c] w fun e w' => e = .returned (.bool (amg s.data.toList c)) ∧ w = w' := by
  go_enter Tryd.func35, Tryd.ntmps35
  go_wp2_with fail
  go_loop [5] (fun i => ∃ k : Nat, k ≤ s.size ∧ i = .int .i64 (k : Int) ∧ Hid (∀ j (hj : j < s.data.toList.length), j < k → ((s.data.toList[j].toNat : Int) == c) = false)) (fun i => s.size - (intOf i).toNat)
  case atStart => exact ⟨0, by omega, rfl, Lib.hid fun _ _ h => absurd h (by omega)⟩
  case round =>
    obtain ⟨k, hk, rfl, HP⟩ := hrel
    by_cases hlt : k < s.size
    · have hlk : k < s.data.toList.length := by rw [size_len]; exact hlt
      have HY := Lib.hid (byte_at s k hlk hlt)
      have hc : s[k].toNat < 256 := UInt8.toNat_lt _
      cases ht : ((s[k].toNat : Int) == c)
      · have HT := Lib.hid ht
        go_wp2_with fail
        exact ⟨⟨k + 1, by omega, by go_num, Lib.hid fun j hj hjk => by
          rcases Nat.lt_or_ge j k with h | h
          · exact HP.out j hj h
          · have e : s.data.toList[j] = s[k] := by rw [← HY.out]; exact getElem_congr_idx (by omega)
            rw [e]; exact HT.out⟩, by simp [intOf]; omega⟩
      · have HF := Lib.hid (show true = amg s.data.toList c by
          symm; unfold amg; rw [List.any_eq_true]
          exact ⟨_, List.getElem_mem hlk, by rw [HY.out]; exact ht⟩)
        go_wp2_with fail
        go_ret
        exact ⟨ret_bool HF.out, rfl⟩
    · have HF := Lib.hid (show false = amg s.data.toList c by
        symm; unfold amg; rw [List.any_eq_false]
        intro b hb
        obtain ⟨j, hj, rfl⟩ := List.mem_iff_getElem.1 hb
        rw [HP.out j hj (by rw [size_len] at hj; omega)]; decide)
      go_wp2_with fail
      go_ret
      exact ⟨ret_bool HF.out, rfl⟩
def idxL (c : Int) : Int := if c = 97 then 0 else if c = 98 then 1 else if c = 116 then 2 else if c = 110 then 3 else if c = 118 then 4 else if c = 102 then 5 else if c = 114 then 6 else -1
theorem idxL_ok (c : Int) (h0 : 0 ≤ c) (h1 : c ≤ 255) : Lib.indexByte [97, 98, 116, 110, 118, 102, 114] c.toNat.toUInt8 = idxL c := by
  have h : ∀ n : Fin 256, Lib.indexByte [97, 98, 116, 110, 118, 102, 114] n.val.toUInt8 = idxL n.val := by decide +kernel
  have := h ⟨c.toNat, by omega⟩
  simpa [Int.toNat_of_nonneg h0] using this
/-- the character that a letter denotes -/
def unE (c : Int) : Int × Bool := if c = 92 ∨ c = 39 ∨ c = 34 ∨ c = 96 then (c, true) else if idxL c < 0 then (0, false) else (7 + idxL c, true)
theorem idxL_big {c : Int} (h : chr c = false) : idxL c = -1 := by
  rw [chr_no] at h
  unfold idxL
  repeat (first | rfl | (rw [if_neg (by omega)]))
theorem une_q {c : Int} (h : c = 92 ∨ c = 39 ∨ c = 34 ∨ c = 96) : unE c = (c, true) := if_pos h
theorem une_no {c : Int} (h : ¬ (c = 92 ∨ c = 39 ∨ c = 34 ∨ c = 96)) (h2 : idxL c < 0) : unE c = (0, false) := by unfold unE; rw [if_neg h, if_pos h2]
theorem une_yes {c : Int} (h : ¬ (c = 92 ∨ c = 39 ∨ c = 34 ∨ c = 96)) (h2 : ¬ idxL c < 0) : unE c = (7 + idxL c, true) := by unfold unE; rw [if_neg h, if_neg h2]
theorem idxL_le (c : Int) : -1 ≤ idxL c ∧ idxL c ≤ 6 := by
  unfold idxL
  repeat (first | omega | split)
set_option maxHeartbeats 1000000 in
theorem unescape_any (c : Int) (w : World) : Calls Tryd.prog 22 #[.int .i64 c] w fun e w' => e = .returned (.tuple #[.int .i64 (unE c).1, .bool (unE c).2]) ∧ w = w' := by
  by_cases hq : c = 92 ∨ c = 39 ∨ c = 34 ∨ c = 96
  · have HE := Lib.hid (une_q hq)
    rcases hq with rfl | rfl | rfl | rfl
    all_goals
      go_enter Tryd.func22, Tryd.ntmps22
      go_wp2_with fail
      go_ret2
      exact ⟨ret_dig HE.out, rfl⟩
  have q1 : (c == 92) = false := by simp; omega
  have q2 : (c == 39) = false := by simp; omega
  have q3 : (c == 34) = false := by simp; omega
  have q4 : (c == 96) = false := by simp; omega
  have HQ := Lib.hid hq
  clear hq
  go_enter Tryd.func22, Tryd.ntmps22
  go_wp2_with fail
  refine (is_any c _).mono ?_
  rintro e w1 ⟨rfl, rfl⟩
  cases hc : chr c
  · have HE := Lib.hid (une_no HQ.out (by rw [idxL_big hc]; decide))
    go_wp2_with fail
    go_ret2
    exact ⟨ret_dig HE.out, rfl⟩
  obtain ⟨c0, c1⟩ := chr_iff.1 hc
  have hib := idxL_ok c c0 c1
  have hle := idxL_le c
  have HIB := Lib.hid hib
  clear hib
  go_wp2_with fail
  refine (Tryd.strings_IndexByte _ c _).mono ?_
  rintro e w2 ⟨rfl, rfl⟩
  rw [show (⟨#[97, 98, 116, 110, 118, 102, 114]⟩ : ByteArray).data.toList = [97, 98, 116, 110, 118, 102, 114] from rfl, HIB.out]
  obtain ⟨l0, l1⟩ := hle
  by_cases hi : idxL c < 0
  · have HE := Lib.hid (une_no HQ.out hi)
    generalize idxL c = i at *
    go_wp2_with fail
    go_ret2
    exact ⟨ret_dig HE.out, rfl⟩
  · have HE := Lib.hid (une_yes HQ.out hi)
    generalize idxL c = i at *
    go_wp2_with fail
    go_ret2
    exact ⟨ret_dig HE.out, rfl⟩
theorem une_let {c x i : Int} (h : (x == c) = true) (hi : unE x = (7 + i, true)) : unE c = (7 + i, true) := by
  rw [← eq_of_beq h]; exact hi
theorem ext_p {l : List Int} {c : Int} {k : Nat} (h : ∀ j : Nat, j < k → ((l.getD j 0) == c) = false) (hk : (l.getD k 0 == c) = false) : ∀ j : Nat, j < k + 1 → ((l.getD j 0) == c) = false := fun j hj => by
  rcases Nat.lt_or_ge j k with g | g
  · exact h j g
  · rw [show j = k by omega]; exact hk
set_option maxHeartbeats 1000000 in
theorem runescape_any (c : Int) (w : World) : Calls Tryd.prog 25 #[.int .i64 c] w fun e w' => e = .returned (.tuple #[.int .i64 (unE c).1, .bool (unE c).2]) ∧ w = w' := by
  have key : ∀ k : Nat, k ≤ 7 → (∀ j : Nat, j < k → ((([97, 98, 116, 110, 118, 102, 114] : List Int).getD j 0) == c) = false) → k = 7 → idxL c = -1 := fun k hk h hk7 => by
    subst hk7
    have h0 := h 0 (by decide)
    have h1 := h 1 (by decide)
    have h2 := h 2 (by decide)
    have h3 := h 3 (by decide)
    have h4 := h 4 (by decide)
    have h5 := h 5 (by decide)
    have h6 := h 6 (by decide)
    simp at h0 h1 h2 h3 h4 h5 h6
    unfold idxL
    repeat (first | rfl | (rw [if_neg (by omega)]))
  have HKEY := Lib.hid key
  clear key
  go_enter Tryd.func25, Tryd.ntmps25
  go_wp2_with fail
  go_loop [4] (fun i => ∃ k : Nat, k ≤ 7 ∧ i = .int .i64 (k : Int) ∧ Hid (∀ j : Nat, j < k → ((([97, 98, 116, 110, 118, 102, 114] : List Int).getD j 0) == c) = false)) (fun i => 7 - (intOf i).toNat)
  case atStart => exact ⟨0, by omega, rfl, Lib.hid fun _ h => absurd h (by omega)⟩
  case round =>
    obtain ⟨k, hk, rfl, HP⟩ := hrel
    by_cases hlt : k < 7
    · have hx : k = 0 ∨ k = 1 ∨ k = 2 ∨ k = 3 ∨ k = 4 ∨ k = 5 ∨ k = 6 := by omega
      rcases hx with rfl | rfl | rfl | rfl | rfl | rfl | rfl
      · go_wp2_with fail
        · rename_i h _
          have HE := Lib.hid (une_let (c := c) (i := 0) (by rw [← h]; congr 1; decide +kernel : ((97 : Int) == c) = true) rfl)
          clear h
          go_ret2
          exact ⟨ret_dig HE.out, rfl⟩
        · rename_i h
          exact ⟨⟨1, by omega, rfl, Lib.hid (ext_p HP.out (by rw [← h]; congr 1; decide +kernel : ((97 : Int) == c) = false))⟩, by simp [intOf]⟩
      · go_wp2_with fail
        · rename_i h _
          have HE := Lib.hid (une_let (c := c) (i := 1) (by rw [← h]; congr 1; decide +kernel : ((98 : Int) == c) = true) rfl)
          clear h
          go_ret2
          exact ⟨ret_dig HE.out, rfl⟩
        · rename_i h
          exact ⟨⟨2, by omega, rfl, Lib.hid (ext_p HP.out (by rw [← h]; congr 1; decide +kernel : ((98 : Int) == c) = false))⟩, by simp [intOf]⟩
      · go_wp2_with fail
        · rename_i h _
          have HE := Lib.hid (une_let (c := c) (i := 2) (by rw [← h]; congr 1; decide +kernel : ((116 : Int) == c) = true) rfl)
          clear h
          go_ret2
          exact ⟨ret_dig HE.out, rfl⟩
        · rename_i h
          exact ⟨⟨3, by omega, rfl, Lib.hid (ext_p HP.out (by rw [← h]; congr 1; decide +kernel : ((116 : Int) == c) = false))⟩, by simp [intOf]⟩
      · go_wp2_with fail
        · rename_i h _
          have HE := Lib.hid (une_let (c := c) (i := 3) (by rw [← h]; congr 1; decide +kernel : ((110 : Int) == c) = true) rfl)
          clear h
          go_ret2
          exact ⟨ret_dig HE.out, rfl⟩
        · rename_i h
          exact ⟨⟨4, by omega, rfl, Lib.hid (ext_p HP.out (by rw [← h]; congr 1; decide +kernel : ((110 : Int) == c) = false))⟩, by simp [intOf]⟩
      · go_wp2_with fail
        · rename_i h _
          have HE := Lib.hid (une_let (c := c) (i := 4) (by rw [← h]; congr 1; decide +kernel : ((118 : Int) == c) = true) rfl)
          clear h
          go_ret2
          exact ⟨ret_dig HE.out, rfl⟩
        · rename_i h
          exact ⟨⟨5, by omega, rfl, Lib.hid (ext_p HP.out (by rw [← h]; congr 1; decide +kernel : ((118 : Int) == c) = false))⟩, by simp [intOf]⟩
      · go_wp2_with fail
        · rename_i h _
          have HE := Lib.hid (une_let (c := c) (i := 5) (by rw [← h]; congr 1; decide +kernel : ((102 : Int) == c) = true) rfl)
          clear h
          go_ret2
          exact ⟨ret_dig HE.out, rfl⟩
        · rename_i h
          exact ⟨⟨6, by omega, rfl, Lib.hid (ext_p HP.out (by rw [← h]; congr 1; decide +kernel : ((102 : Int) == c) = false))⟩, by simp [intOf]⟩
      · go_wp2_with fail
        · rename_i h _
          have HE := Lib.hid (une_let (c := c) (i := 6) (by rw [← h]; congr 1; decide +kernel : ((114 : Int) == c) = true) rfl)
          clear h
          go_ret2
          exact ⟨ret_dig HE.out, rfl⟩
        · rename_i h
          exact ⟨⟨7, by omega, rfl, Lib.hid (ext_p HP.out (by rw [← h]; congr 1; decide +kernel : ((114 : Int) == c) = false))⟩, by simp [intOf]⟩
    · have hk7 : k = 7 := by omega
      have HI := Lib.hid (HKEY.out k hk HP.out hk7)
      go_wp2_with fail
      refine (among_any _ (by decide) c _).mono ?_
      rintro e w1 ⟨rfl, rfl⟩
      by_cases hq : c = 92 ∨ c = 39 ∨ c = 34 ∨ c = 96
      · have hm : amg (⟨#[92, 39, 34, 96]⟩ : ByteArray).data.toList c = true := by
          unfold amg; rcases hq with rfl | rfl | rfl | rfl <;> decide
        rw [hm]
        have HE := Lib.hid (une_q hq)
        clear hm hq
        go_wp2_with fail
        go_ret2
        exact ⟨ret_dig HE.out, rfl⟩
      · have hm : amg (⟨#[92, 39, 34, 96]⟩ : ByteArray).data.toList c = false := by
          unfold amg; simp; omega
        rw [hm]
        have HE := Lib.hid (une_no hq (by rw [HI.out]; decide))
        clear hm hq
        go_wp2_with fail
        go_ret2
        exact ⟨ret_dig HE.out, rfl⟩
end Go.Proofs.YtdhibbphjnoikaaDoor
