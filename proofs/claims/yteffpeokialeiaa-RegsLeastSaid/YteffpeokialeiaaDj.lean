/-
  The walk of RegsLeast (f7).
-/
import Derived.Test.YteffpeokialeiaaDf
import Derived.Test.YteffpeokialeiaaDg
import Derived.Test.YteffpeokialeiaaDi
import Derived.Test.YteffpeokialeiaaCg
import Derived.Outline
namespace Go.Proofs.Yteffpeokialeiaa
open Go.RowKit

theorem two_ints (w : World) (y z : Int) : IntsAt (w.alloc (.cells #[.int .i64 y, .int .i64 z] 3)) (w.alloc (.cells #[.int .i64 y, .int .i64 z] 3)).heap.size (some ⟨w.heap.size, 0, none⟩) 2 [y, z] :=
  own_ints (World.ownsRow_lit w #[.int .i64 y, .int .i64 z] 2 (Nat.le_refl _) (by unfold maxLen; omega) rfl) (by omega)
theorem given_snoc {m : List In} {k : Nat} {y : In} (h : m[k]? = some y) : givenP (m.take (k + 1)) = givenP (m.take k) ++ [y.r, y.a] := by
  unfold givenP; rw [List.take_add_one, h]; simp
theorem gP_succ (l : List In) (base : Int) (k : Nat) : gP l base (k + 1) = if gP l base k < usedP l base k then usedP l base k else gP l base k := by
  show max _ _ = _
  rw [Int.max_def]
  split <;> split <;> omega
theorem given_len (m : List In) : (givenP m).length = 2 * m.length := by
  induction m with
  | nil => rfl
  | cons a m ih => unfold givenP at ih ⊢; rw [List.flatMap_cons, List.length_append, ih]; simp; omega
set_option maxRecDepth 100000 in
set_option maxHeartbeats 1000000 in
theorem law_least (A : Option Addr) (n c : Nat) (l : List In) (base : Int) (w : World) (ha : InsAt w w.heap.size A n l) (_hbr : -9223372036854775808 ≤ base ∧ base ≤ 9223372036854775807) :
    Calls Try.prog 7 #[.slice A n c, .int .i64 base] w fun e w' => e = .returned (.bool true) ∧ Below w.heap.size w w' := by
  have HA := Lib.hid ha
  have hn2 := ha.1.2
  clear ha
  by_cases hn : n ≤ 60
  · have d0 : decide ((60 : Int) < (n : Int)) = false := by simp; omega
    go_enter Try.func7, Try.ntmps7
    go_wp2_with fail
    refine (assign_any A n c l base w HA.out hn).mono ?_
    cases hv : validP l base with
    | false =>
      rintro e w1 ⟨v, rfl, ho⟩
      have HB := Lib.hid ho.2
      rw [show errP l base = 1 by unfold errP; rw [hv]; rfl]
      have ha0 : assignP l base = [] := by unfold assignP; rw [hv]; rfl
      rw [ha0] at ho
      obtain ⟨A3, c3, rfl, _⟩ := own_form ho.1
      have HA1 := Lib.hid (HA.out.next ho.2)
      have HN : Hid (needP l base = 0) := Lib.hid (by unfold needP; rw [hv]; rfl)
      clear hv ho ha0
      simp only [List.length_nil]
      go_wp2_with fail
      refine (need_any A n c l base w1 HA1.out hn).mono ?_
      rw [HN.out]
      rintro e w1' ⟨rfl, hb1⟩
      replace HB := Lib.hid (bNext HB.out hb1)
      clear hb1
      go_wp2_with fail
      refine (awake_any _).mono ?_
      rintro e w2 ⟨rfl, hb2⟩
      have HB2 := Lib.hid (bNext HB.out hb2)
      clear hb2
      go_wp2_with fail
      go_ret
      exact ⟨rfl, HB2.out⟩
    | true =>
      have hln := HA.out.len
      have hll : (assignP l base).length = n := by rw [assign_len hv, hln]
      have HP := Lib.hid (least_plain hv HA.out.len hn)
      have HBB := Lib.hid (valid_base hv)
      rintro e w1 ⟨v, rfl, ho⟩
      obtain ⟨A1, c1, rfl, hi1⟩ := ho.form (by rw [hll]; omega)
      rw [hll] at hi1 ⊢
      rw [show errP l base = 0 by unfold errP; rw [hv]; rfl]
      have HI1 := Lib.hid hi1
      have HB1 := Lib.hid ho.2
      have hz1 := ho.2.size
      have HLL := Lib.hid hll
      clear hv ho hi1 hll hln
      have HA1 := Lib.hid (HA.out.below HB1.out |>.more hz1)
      go_wp2_with fail
      refine (need_any A n c l base w1 HA1.out hn).mono ?_
      rintro e w2 ⟨rfl, hb2⟩
      have HI2 := Lib.hid (HI1.out.next hb2)
      have HA2 := Lib.hid (HA1.out.next hb2)
      have HB2 := Lib.hid (bNext HB1.out hb2)
      clear hb2
      go_wp2_with fail
      go_loopw [8, 9, 10] (fun g v i wr => ∃ k : Nat, i = .int .i64 k ∧ k ≤ n ∧ g = .int .i64 (gP l base k) ∧ Hid (wr.ownsRow w2.heap.size 3 1 v (givenP ((assignP l base).take k)).length (iCs (givenP ((assignP l base).take k))) ∧ Below w2.heap.size w2 wr)) (fun _ _ i _ => n - (intOf i).toNat)
      case atStart => exact ⟨0, rfl, Nat.zero_le _, rfl, Lib.hid ⟨⟨rfl, .inl ⟨rfl, rfl⟩⟩, Below.refl _ _⟩⟩
      case round =>
        obtain ⟨k, rfl, hk, rfl, HR⟩ := hrel
        by_cases hlt : k < n
        · go_wp2_with fail
          refine (used_any A n c l base k wr ((HA2.out.below HR.out.2).more HR.out.2.size) hlt hn).mono ?_
          rintro e w3 ⟨rfl, hb3⟩
          have HR3 := Lib.hid (And.intro (own_next HR.out.1 hb3) (bNext HR.out.2 hb3))
          clear hb3
          obtain ⟨b', off', y, rfl, hbb', hy, hcs'⟩ := HI2.out.at hlt
          have hS := hcs'.below hbb' HR3.out.2
          have hgl : (givenP ((assignP l base).take k)).length ≤ 120 := by rw [given_len, List.length_take]; omega
          have HY := Lib.hid hy
          clear hy hcs'
          go_upto_region 13 with (fail)
          obtain ⟨W1, HW1⟩ : ∃ X, Hid (X = w3.drew) := ⟨_, Lib.hid rfl⟩
          have hz3 : b' < w3.heap.size := by have := HR3.out.2.size; omega
          have hd0 : Below w3.heap.size w3 W1 := by rw [HW1.out]; exact bDrew w3
          have HR4 := Lib.hid (And.intro (own_next HR3.out.1 hd0) (bNext HR3.out.2 hd0))
          have hS0 : (fun w' => ICells w' b' (off' + k * 6) y) W1 := hS.below hz3 hd0
          have hz1' := Nat.lt_of_lt_of_le hz3 hd0.size
          clear hS hd0
          refine wp_region_N (fun w' => ICells w' b' (off' + k * 6) y) (fun _ => true) (by kernel_rfl) ?_
          rw [← HW1.out]
          clear HW1
          refine wpAnyN_take (i := 0) (v := ?v1) rfl (by kernel_rfl) (by kernel_rfl) (by kernel_rfl) (by kernel_rfl) (fun _ _ _ h => h) (Or.inl ⟨by rfl, ?hy1⟩) (by assumption) ?_
          case hy1 => intro w hSw; obtain ⟨i0, i1, i2, i3, i4, i5⟩ := hSw; go_simp; try with_reducible rfl
          simp only [Act.put, List.getElem_toArray, List.getElem_cons_zero, List.setIfInBounds_toArray, List.set_cons_zero, List.set_cons_succ]
          refine wpAnyN_take (i := 1) (v := ?v2) rfl (by kernel_rfl) (by kernel_rfl) (by kernel_rfl) (by kernel_rfl) (fun _ _ _ h => h) (Or.inl ⟨by rfl, ?hy2⟩) (by assumption) ?_
          case hy2 => intro w hSw; obtain ⟨i0, i1, i2, i3, i4, i5⟩ := hSw; go_simp; try with_reducible rfl
          simp only [Act.put, List.getElem_toArray, List.getElem_cons_zero, List.getElem_cons_succ, List.setIfInBounds_toArray, List.set_cons_zero, List.set_cons_succ]
          refine wpAnyN_take (i := 2) (v := ?v3) rfl (by kernel_rfl) (by kernel_rfl) (by kernel_rfl) (by kernel_rfl) (fun _ _ _ h => h) (Or.inl ⟨by rfl, ?hy3⟩) (by assumption) ?_
          case hy3 => intro w hSw; obtain ⟨i0, i1, i2, i3, i4, i5⟩ := hSw; go_simp; try with_reducible rfl
          simp only [Act.put, List.getElem_toArray, List.getElem_cons_zero, List.getElem_cons_succ, List.setIfInBounds_toArray, List.set_cons_zero, List.set_cons_succ]
          refine wpAnyN_take (i := 3) (v := ?v4) rfl (by kernel_rfl) (by kernel_rfl) (by kernel_rfl) (by kernel_rfl) (fun _ _ _ h => h) (Or.inl ⟨by rfl, ?hy4⟩) (by assumption) ?_
          case hy4 => intro w hSw; obtain ⟨i0, i1, i2, i3, i4, i5⟩ := hSw; go_simp; try with_reducible rfl
          simp only [Act.put, List.getElem_toArray, List.getElem_cons_zero, List.getElem_cons_succ, List.setIfInBounds_toArray, List.set_cons_zero, List.set_cons_succ]
          refine wpAnyN_take (i := 4) (v := ?v5) rfl (by kernel_rfl) (by kernel_rfl) (by kernel_rfl) (by kernel_rfl) (fun _ _ _ h => h) (Or.inl ⟨by rfl, ?hy5⟩) (by assumption) ?_
          case hy5 => intro w hSw; obtain ⟨i0, i1, i2, i3, i4, i5⟩ := hSw; go_simp; try with_reducible rfl
          simp only [Act.put, List.getElem_toArray, List.getElem_cons_zero, List.getElem_cons_succ, List.setIfInBounds_toArray, List.set_cons_zero, List.set_cons_succ]
          refine wpAnyN_take (i := 5) (v := ?v6) rfl (by kernel_rfl) (by kernel_rfl) (by kernel_rfl) (by kernel_rfl) (fun _ _ _ h => h) (Or.inl ⟨by rfl, ?hy6⟩) (by assumption) ?_
          case hy6 => intro w hSw; obtain ⟨i0, i1, i2, i3, i4, i5⟩ := hSw; go_simp; try with_reducible rfl
          simp only [Act.put, List.getElem_toArray, List.getElem_cons_zero, List.getElem_cons_succ, List.setIfInBounds_toArray, List.set_cons_zero, List.set_cons_succ]
          refine wpAnyN_take (i := 6) (v := ?v7) rfl (by kernel_rfl) (by kernel_rfl) (by kernel_rfl) (by kernel_rfl) (fun _ _ _ h => h) (Or.inl ⟨by rfl, ?hy7⟩) (by assumption) ?_
          case hy7 => intro w hSw; obtain ⟨i0, i1, i2, i3, i4, i5⟩ := hSw; go_simp; try with_reducible rfl
          simp only [Act.put, List.getElem_toArray, List.getElem_cons_zero, List.getElem_cons_succ, List.setIfInBounds_toArray, List.set_cons_zero, List.set_cons_succ]
          refine wpAnyN_take (i := 7) (v := ?v8) rfl (by kernel_rfl) (by kernel_rfl) (by kernel_rfl) (by kernel_rfl) (fun _ _ _ h => h) (Or.inl ⟨by rfl, ?hy8⟩) (by assumption) ?_
          case hy8 => intro w hSw; obtain ⟨i0, i1, i2, i3, i4, i5⟩ := hSw; go_simp; try with_reducible rfl
          simp only [Act.put, List.getElem_toArray, List.getElem_cons_zero, List.getElem_cons_succ, List.setIfInBounds_toArray, List.set_cons_zero, List.set_cons_succ]
          refine wpAnyN_take (i := 8) (v := ?v9) rfl (by kernel_rfl) (by kernel_rfl) (by kernel_rfl) (by kernel_rfl) (fun _ _ _ h => h) (Or.inl ⟨by rfl, ?hy9⟩) (by assumption) ?_
          case hy9 => intro w hSw; obtain ⟨i0, i1, i2, i3, i4, i5⟩ := hSw; go_simp; try with_reducible rfl
          simp only [Act.put, List.getElem_toArray, List.getElem_cons_zero, List.getElem_cons_succ, List.setIfInBounds_toArray, List.set_cons_zero, List.set_cons_succ]
          refine wpAnyN_take (i := 9) (v := ?v10) rfl (by kernel_rfl) (by kernel_rfl) (by kernel_rfl) (by kernel_rfl) (fun _ _ _ h => h) (Or.inl ⟨by rfl, ?hy10⟩) (by assumption) ?_
          case hy10 => intro w hSw; obtain ⟨i0, i1, i2, i3, i4, i5⟩ := hSw; go_simp; try with_reducible rfl
          simp only [Act.put, List.getElem_toArray, List.getElem_cons_zero, List.getElem_cons_succ, List.setIfInBounds_toArray, List.set_cons_zero, List.set_cons_succ]
          refine wpAnyN_take (i := 10) (v := ?v11) rfl (by kernel_rfl) (by kernel_rfl) (by kernel_rfl) (by kernel_rfl) (fun _ _ _ h => h) (Or.inl ⟨by rfl, ?hy11⟩) (by assumption) ?_
          case hy11 => intro w hSw; obtain ⟨i0, i1, i2, i3, i4, i5⟩ := hSw; go_simp; try with_reducible rfl
          simp only [Act.put, List.getElem_toArray, List.getElem_cons_zero, List.getElem_cons_succ, List.setIfInBounds_toArray, List.set_cons_zero, List.set_cons_succ]
          refine wpAnyN_one (i := 11) (by kernel_rfl) rfl (fun K hK => ?_)
          simp only [List.getElem_toArray, List.getElem_cons_zero, List.getElem_cons_succ]
          go_simp
          have hS4 : (fun w' => ICells w' b' (off' + k * 6) y) (W1.alloc (.cells #[.int .i64 y.r, .int .i64 y.a] 3)) := hS0.below hz1' (bAlloc _ _)
          have HL := Lib.hid (two_ints W1 y.r y.a)
          have HO := Lib.hid (own_next HR4.out.1 (bAlloc W1 (.cells #[.int .i64 y.r, .int .i64 y.a] 3)))
          have HB := Lib.hid (bNext HR4.out.2 (bAlloc W1 (.cells #[.int .i64 y.r, .int .i64 y.a] 3)))
          have hzs : w2.heap.size ≤ (W1.alloc (.cells #[.int .i64 y.r, .int .i64 y.a] 3)).heap.size := HB.out.size
          refine hK _ _ (fun _ => hS4) ?_
          (try simp only [Act.put, List.setIfInBounds_toArray, List.set_cons_zero, List.set_cons_succ])
          refine wpAnyN_one (i := 12) (by kernel_rfl) rfl (fun K hK => ?_)
          simp only [List.getElem_toArray, List.getElem_cons_zero, List.getElem_cons_succ]
          rw [if_pos (by rfl)]
          refine wp_append_ints_at _ _ rfl w2.heap.size u9 _ _ rfl HO.out (some ⟨W1.heap.size, 0, none⟩) 2 2 _ [y.r, y.a] rfl (fun h => by cases h) HL.out (by omega) hzs ?_
          intro v6 w6 ho6 hg6 _
          have HB6 := Lib.hid (HB.out.grown hg6 HB.out.size (fun g e => (own_lt HO.out e).1))
          have hS5 : (fun w' => ICells w' b' (off' + k * 6) y) w6 := hS4.below (B := w2.heap.size) hbb' (Below.grown (Below.refl _ _) hg6 hzs (fun g e => (own_lt HO.out e).1))
          have HO6 := Lib.hid ho6
          clear ho6 hg6
          refine hK _ _ (fun _ => hS5) ?_
          (try simp only [Act.put, List.setIfInBounds_toArray, List.set_cons_zero, List.set_cons_succ])
          refine wpAnyN_one (i := 13) (by kernel_rfl) rfl (fun K hK => ?_)
          simp only [List.getElem_toArray, List.getElem_cons_zero, List.getElem_cons_succ]
          go_simp
          refine hK _ _ (fun _ => hS5) ?_
          (try simp only [Act.put, List.setIfInBounds_toArray, List.set_cons_zero, List.set_cons_succ])
          refine wpAnyN_done (by kernel_rfl) ?_ _
          clear hS0 hS4 hS5
          have HG : Hid (w6.ownsRow w2.heap.size 3 1 v6 (givenP ((assignP l base).take (k + 1))).length (iCs (givenP ((assignP l base).take (k + 1))))) := Lib.hid (by
            rw [given_snoc HY.out, List.length_append]
            exact HO6.out)
          go_wp2_with fail
          exact ⟨⟨k + 1, by go_num, by omega, by rw [gP_succ], Lib.hid ⟨HG.out, HB6.out⟩⟩, by simp [intOf]; omega⟩
        · obtain rfl : k = n := by omega
          have hml : (assignP l base).length ≤ k := by rw [HLL.out]; exact Nat.le_refl _
          have HG : Hid (wr.ownsRow w2.heap.size 3 1 u9 (givenP (assignP l base)).length (iCs (givenP (assignP l base)))) := Lib.hid (by
            have := HR.out.1
            rwa [List.take_of_length_le hml] at this)
          have hgl : (givenP (assignP l base)).length ≤ 120 := by rw [given_len]; omega
          obtain ⟨A9, c9, rfl, _⟩ := own_form HG.out
          have HI9 := Lib.hid (own_ints HG.out (by omega))
          have HGP : Hid (gP l base k = needP l base) := Lib.hid HP.out.1
          obtain ⟨b0, b1⟩ := HBB.out
          have hn1 := HP.out.2.2.2.1
          have hn0 := HP.out.2.2.2.2
          go_wp2_with fail
          go_loop [11] (fun i => ∃ j : Nat, i = .int .i64 ((j : Int) + 1) ∧ j ≤ 120) (fun i => 121 - (intOf i).toNat)
          case atStart => exact ⟨0, rfl, by omega⟩
          case round =>
            obtain ⟨j, rfl, hj⟩ := hrel
            by_cases hjn : (j : Int) + 1 ≤ needP l base
            · have d2 : decide ((j : Int) + 1 ≤ needP l base) = true := by simpa using hjn
              have hj2 : (j : Int) + 1 ≤ 120 := by omega
              have d3 : decide ((j : Int) + 1 ≤ 120) = true := by simpa using hj2
              have HC := Lib.hid (HP.out.2.1 ((j : Int) + 1) (by omega) hjn)
              go_wp2_with fail
              refine (hasN_any A9 _ c9 (givenP (assignP l base)) (base + ((j : Int) + 1)) wr HI9.out).mono ?_
              rw [HC.out]
              rintro e w' ⟨rfl, rfl⟩
              go_wp2_with fail
              exact ⟨⟨j + 1, by go_num, by omega⟩, by simp [intOf]; omega⟩
            · have d2 : decide ((j : Int) + 1 ≤ needP l base) = false := by simpa using hjn
              go_wp2_with fail
              go_loop [12] (fun i => ∃ p : Nat, i = .int .i64 p ∧ p ≤ (givenP (assignP l base)).length) (fun i => (givenP (assignP l base)).length - (intOf i).toNat)
              case atStart => exact ⟨0, rfl, Nat.zero_le _⟩
              case round =>
                obtain ⟨p, rfl, hp⟩ := hrel
                by_cases hpl : p < (givenP (assignP l base)).length
                · obtain ⟨b4, off4, z, rfl, hb4, hz, hcz⟩ := HI9.out.at hpl
                  have hle := HP.out.2.2.1 z (List.mem_of_getElem? hz)
                  have d4 : decide (base + needP l base < z) = false := by simp; omega
                  clear hz
                  go_wp2_with fail
                  exact ⟨⟨p + 1, by go_num, by omega⟩, by simp [intOf]; omega⟩
                · have HBE := Lib.hid (HB2.out.trans (HR.out.2.mono HB2.out.size))
                  rw [HGP.out]
                  go_wp2_with fail
                  refine (awake_any _).mono ?_
                  rintro e w5 ⟨rfl, hb5⟩
                  have HB5 := Lib.hid (bNext HBE.out hb5)
                  clear hb5
                  go_wp2_with fail
                  go_ret
                  exact ⟨rfl, HB5.out⟩
  · have d0 : decide ((60 : Int) < (n : Int)) = true := by simp; omega
    go_enter Try.func7, Try.ntmps7
    go_wp2_with fail
    refine (awake_any _).mono ?_
    rintro e w1 ⟨rfl, hb⟩
    have HB := Lib.hid hb
    clear hb
    go_wp2_with fail
    go_ret
    exact ⟨rfl, HB.out⟩
end Go.Proofs.Yteffpeokialeiaa
