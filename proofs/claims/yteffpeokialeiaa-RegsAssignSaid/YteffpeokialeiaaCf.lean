/-
  Plain: numbers are small; the walk of RegsShift.
-/
import Derived.Test.YteffpeokialeiaaCe
import Derived.Outline
namespace Go.Proofs.Yteffpeokialeiaa
open Go.RowKit

theorem leastFrom_le (l : List Int) : ∀ (fuel : Nat) (n : Int), leastFrom l fuel n ≤ n + fuel
  | 0, n => by unfold leastFrom; omega
  | fuel + 1, n => by
    unfold leastFrom
    split
    · have := leastFrom_le l fuel (n + 1); omega
    · omega
theorem small_step {la : Int → Nat} {base : Int} {k : Nat} {wr : List Int} : ∀ (l : List Int) (ts : List Tm), (∀ t ∈ ts, t.n ≤ base + 2 + ts.length) →
    (∀ t ∈ l.foldl (numStep la base k wr) ts, t.n ≤ base + 2 + (l.foldl (numStep la base k wr) ts).length) ∧ (l.foldl (numStep la base k wr) ts).length ≤ ts.length + l.length
  | [], ts, h => ⟨h, by simp⟩
  | x :: l, ts, h => by
    rw [List.foldl_cons]
    have hs : (∀ t ∈ numStep la base k wr ts x, t.n ≤ base + 2 + (numStep la base k wr ts x).length) ∧ (numStep la base k wr ts x).length ≤ ts.length + 1 := by
      unfold numStep
      split
      · exact ⟨h, by omega⟩
      · refine ⟨fun t ht => ?_, by simp⟩
        rw [List.length_append]
        rcases List.mem_append.1 ht with ht | ht
        · have := h t ht; simp; omega
        · rw [List.mem_singleton.1 ht]
          show least base _ ≤ _
          unfold least
          have h1 := leastFrom_le ((ts.filter (Tm.used · k wr)).map Tm.n) (((ts.filter (Tm.used · k wr)).map Tm.n).length + 1) (base + 1)
          have h2 : ((ts.filter (Tm.used · k wr)).map Tm.n).length ≤ ts.length := by rw [List.length_map]; exact List.length_filter_le _ _
          simp only [List.length_singleton]
          omega
    obtain ⟨h1, h2⟩ := small_step l _ hs.1
    exact ⟨h1, by simp only [List.length_cons]; omega⟩
theorem small_from {la : Int → Nat} {base : Int} : ∀ (l : Seg) (k : Nat) (ts : List Tm), (∀ p ∈ l, p.2.length ≤ 2) → (∀ t ∈ ts, t.n ≤ base + 2 + ts.length) →
    (∀ t ∈ numFrom la base k l ts, t.n ≤ base + 2 + (numFrom la base k l ts).length) ∧ (numFrom la base k l ts).length ≤ ts.length + 2 * l.length
  | [], _, ts, _, h => ⟨h, by simp [numFrom]⟩
  | (rd, wr) :: l, k, ts, hp, h => by
    obtain ⟨h1, h2⟩ := small_step (la := la) (k := k) (wr := wr) wr ts h
    obtain ⟨h3, h4⟩ := small_from (la := la) l (k + 1) _ (fun p hpp => hp p (List.mem_cons_of_mem _ hpp)) h1
    have := hp _ List.mem_cons_self
    simp only at this
    refine ⟨h3, ?_⟩
    show (numFrom la base (k + 1) l _).length ≤ _
    simp only [List.length_cons]; omega
theorem nm_small {l : List In} {base : Int} (hl : l.length ≤ 60) (hb : base ≤ 4096) (y : Int) (hy : y ≤ 4096) : nm (tsOf l base) y ≤ 10000 := by
  obtain ⟨h1, h2⟩ := small_from (la := laOf l base) (base := base) (segOf l) 0 [] (fun p hp => by
    obtain ⟨x, _, rfl⟩ := List.mem_map.1 hp
    exact wr_len2 x) (fun t ht => by cases ht)
  have h3 : (segOf l).length = l.length := List.length_map _
  unfold nm num?
  cases hf : (tsOf l base).find? (fun t => t.x == y) with
  | none => show y ≤ _; omega
  | some t =>
    have h4 := h1 t (List.mem_of_find?_eq_some hf)
    show t.n ≤ _
    simp only [List.length_nil] at h2
    omega
theorem reg_le {x : In} (h : fo x = true) : x.r ≤ 4096 ∧ x.a ≤ 4096 := by
  have h1 := fo_reg h
  unfold rOk aOk at h1
  simp at h1
  omega
theorem assign_len {l : List In} {base : Int} (h : validP l base = true) : (assignP l base).length = l.length := by
  unfold assignP; rw [if_pos h, allocP_eq h]; simp
theorem assign_small {l : List In} {base : Int} (h : validP l base = true) (hl : l.length ≤ 60) : ∀ x ∈ assignP l base, x.r ≤ 1000000 ∧ x.a ≤ 1000000 := fun x hx => by
  unfold assignP at hx
  rw [if_pos h, allocP_eq h] at hx
  obtain ⟨y, hy, rfl⟩ := List.mem_map.1 hx
  have h1 := reg_le (valid_fo (vl_of h) y hy)
  have hb := (valid_base h).2
  have h2 := nm_small hl hb y.r h1.1
  have h3 := nm_small hl hb y.a h1.2
  exact ⟨(show nm (tsOf l base) y.r ≤ _ by omega), (show nm (tsOf l base) y.a ≤ _ by omega)⟩
set_option maxRecDepth 100000 in
set_option maxHeartbeats 1000000 in
theorem law_shift (A : Option Addr) (n c : Nat) (l : List In) (base by_ : Int) (w : World) (ha : InsAt w w.heap.size A n l) (hbr : -9223372036854775808 ≤ base ∧ base ≤ 9223372036854775807) (hyr : -9223372036854775808 ≤ by_ ∧ by_ ≤ 9223372036854775807) :
    Calls Try.prog 9 #[.slice A n c, .int .i64 base, .int .i64 by_] w fun e w' => e = .returned (.bool true) ∧ Below w.heap.size w w' := by
  have HA := Lib.hid ha
  have hn2 := ha.1.2
  clear ha
  by_cases hn : n ≤ 60
  · by_cases hy0 : 0 ≤ by_
    · by_cases hy1 : by_ ≤ 4096
      · have d0 : decide ((60 : Int) < (n : Int)) = false := by simp; omega
        have d1 : decide (by_ < 0) = false := by simp; omega
        have d2 : decide (4096 < by_) = false := by simp; omega
        go_enter Try.func9, Try.ntmps9
        go_wp2_with fail
        refine (assign_any A n c l base w HA.out hn).mono ?_
        cases hv : validP l base with
        | false =>
          rintro e w1 ⟨v, rfl, ho⟩
          have HB := Lib.hid ho.2
          rw [show errP l base = 1 by unfold errP; rw [hv]; rfl]
          clear hv ho
          go_wp2_with fail
          refine (awake_any _).mono ?_
          rintro e w2 ⟨rfl, hb2⟩
          have HB2 := Lib.hid (bNext HB.out hb2)
          clear hb2
          go_wp2_with fail
          go_ret
          exact ⟨rfl, HB2.out⟩
        | true =>
          obtain ⟨b0, b1⟩ := valid_base hv
          have hln := HA.out.len
          have hll : (assignP l base).length = n := by rw [assign_len hv, hln]
          have HS := Lib.hid (assign_small hv (by omega))
          have HF := Lib.hid (fun x hx => reg_le (valid_fo (vl_of hv) x hx))
          have HP := Lib.hid (fun h => shift_plain hy0 hv h)
          rintro e w1 ⟨v, rfl, ho⟩
          obtain ⟨A1, c1, rfl, hi1⟩ := ho.form (by rw [hll]; omega)
          rw [hll] at hi1 ⊢
          rw [show errP l base = 0 by unfold errP; rw [hv]; rfl]
          have HI1 := Lib.hid hi1
          have HB1 := Lib.hid ho.2
          have HA1 := Lib.hid (HA.out.next ho.2)
          have HLL := Lib.hid hll
          clear hv ho hi1 hll hln
          go_wp2_with fail
          refine (moved_any A n c l base by_ w1 HA1.out hn b0 hy0 hy1 (fun x hx => by have := HF.out x hx; omega)).mono ?_
          rintro e w2 ⟨v2, rfl, ho2⟩
          have hml : (movedP l base by_).length = n := by unfold movedP; rw [List.length_map]; exact HA.out.len
          obtain ⟨A2, c2, rfl, hi2⟩ := ho2.form (by rw [hml]; omega)
          rw [hml] at hi2 ⊢
          have HI1' := Lib.hid (HI1.out.next ho2.2)
          have HB2 := Lib.hid (bNext HB1.out ho2.2)
          clear ho2 hml
          go_wp2_with fail
          refine (assign_any A2 n c2 (movedP l base by_) (base + by_) w2 hi2 hn).mono ?_
          clear hi2
          cases hv2 : validP (movedP l base by_) (base + by_) with
          | false =>
            rintro e w3 ⟨v3, rfl, ho3⟩
            rw [show errP (movedP l base by_) (base + by_) = 1 by unfold errP; rw [hv2]; rfl]
            have ha0 : assignP (movedP l base by_) (base + by_) = [] := by unfold assignP; rw [hv2]; rfl
            rw [ha0] at ho3
            obtain ⟨A3, c3, rfl, _⟩ := own_form ho3.1
            have HB3 := Lib.hid (bNext HB2.out ho3.2)
            clear ho3 hv2 ha0
            simp only [List.length_nil]
            go_wp2_with fail
            refine (awake_any _).mono ?_
            rintro e w4 ⟨rfl, hb4⟩
            have HB4 := Lib.hid (bNext HB3.out hb4)
            clear hb4
            go_wp2_with fail
            go_ret
            exact ⟨rfl, HB4.out⟩
          | true =>
            have hsp := HP.out hv2
            rw [hsp]
            rintro e w3 ⟨v3, rfl, ho3⟩
            rw [show errP (movedP l base by_) (base + by_) = 0 by unfold errP; rw [hv2]; rfl]
            have hml3 : (movedP (assignP l base) base by_).length = n := by unfold movedP; rw [List.length_map]; exact HLL.out
            obtain ⟨A3, c3, rfl, hi3⟩ := ho3.form (by rw [hml3]; omega)
            rw [hml3] at hi3 ⊢
            have HI3 := Lib.hid hi3
            have HI1'' := Lib.hid (HI1'.out.next ho3.2)
            have HB3 := Lib.hid (bNext HB2.out ho3.2)
            clear ho3 hv2 hsp hi3
            go_wp2_with fail
            refine (moved_any A1 n c1 (assignP l base) base by_ w3 HI1''.out hn b0 hy0 hy1 HS.out).mono ?_
            rintro e w4 ⟨v4, rfl, ho4⟩
            obtain ⟨A4, c4, rfl, hi4⟩ := ho4.form (by rw [hml3]; omega)
            rw [hml3] at hi4 ⊢
            have HI3' := Lib.hid (HI3.out.next ho4.2)
            have HB4 := Lib.hid (bNext HB3.out ho4.2)
            clear ho4 hml3
            go_wp2_with fail
            refine (same_eq A3 A4 n c3 c4 (movedP (assignP l base) base by_) w4 HI3'.out hi4).mono ?_
            rintro e w5 ⟨rfl, hb5⟩
            have HB5 := Lib.hid (bNext HB4.out hb5)
            clear hb5 hi4
            go_wp2_with fail
            refine (awake_any _).mono ?_
            rintro e w6 ⟨rfl, hb6⟩
            have HB6 := Lib.hid (bNext HB5.out hb6)
            clear hb6
            go_wp2_with fail
            go_ret
            exact ⟨rfl, HB6.out⟩
      · have d0 : decide ((60 : Int) < (n : Int)) = false := by simp; omega
        have d1 : decide (by_ < 0) = false := by simp; omega
        have d2 : decide (4096 < by_) = true := by simp; omega
        go_enter Try.func9, Try.ntmps9
        go_wp2_with fail
        refine (awake_any _).mono ?_
        rintro e w2 ⟨rfl, hb2⟩
        have HB2 := Lib.hid hb2
        clear hb2
        go_wp2_with fail
        go_ret
        exact ⟨rfl, HB2.out⟩
    · have d0 : decide ((60 : Int) < (n : Int)) = false := by simp; omega
      have d1 : decide (by_ < 0) = true := by simp; omega
      go_enter Try.func9, Try.ntmps9
      go_wp2_with fail
      refine (awake_any _).mono ?_
      rintro e w2 ⟨rfl, hb2⟩
      have HB2 := Lib.hid hb2
      clear hb2
      go_wp2_with fail
      go_ret
      exact ⟨rfl, HB2.out⟩
  · have d0 : decide ((60 : Int) < (n : Int)) = true := by simp; omega
    go_enter Try.func9, Try.ntmps9
    go_wp2_with fail
    refine (awake_any _).mono ?_
    rintro e w2 ⟨rfl, hb2⟩
    have HB2 := Lib.hid hb2
    clear hb2
    go_wp2_with fail
    go_ret
    exact ⟨rfl, HB2.out⟩
end Go.Proofs.Yteffpeokialeiaa
