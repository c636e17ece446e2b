/-
  The walk of used (f24).
-/
import Derived.Test.YteffpeokialeiaaDg
import Derived.Test.YteffpeokialeiaaCf
import Derived.Outline
namespace Go.Proofs.Yteffpeokialeiaa
open Go.RowKit

/-- the registers of an instruction -/
def occ (x : In) : List Int := rdOf x ++ wrOf x
/-- the registers of the instructions up to one, and behind it -/
def splitU (at_ : Int) : List In → Nat → List Int → List Int → List Int × List Int
  | [], _, B, A => (B, A)
  | x :: t, k, B, A => if (k : Int) ≤ at_ then splitU at_ t (k + 1) (B ++ occ x) A else splitU at_ t (k + 1) B (A ++ occ x)
/-- the temporaries in use: those above base of the first list that are in the second one, each once -/
def mineStep (base : Int) (AA : List Int) (M : List Int) (y : Int) : List Int := if decide (base < y) && (AA.contains y && !M.contains y) then M ++ [y] else M
def mineOf (base : Int) (AA B : List Int) : List Int := B.foldl (mineStep base AA) []
def usedP (l : List In) (base : Int) (at_ : Nat) : Int := match l[at_]? with
  | some x => ((mineOf base ((splitU at_ l 0 [] []).2 ++ wrOf x) (splitU at_ l 0 [] []).1).length : Int)
  | none => 0
theorem lit_ints (w : World) (z : Int) : IntsAt (w.alloc (.cells #[.int .i64 z] 3)) (w.alloc (.cells #[.int .i64 z] 3)).heap.size (some ⟨w.heap.size, 0, none⟩) 1 [z] :=
  own_ints (World.ownsRow_lit w #[.int .i64 z] 1 (Nat.le_refl _) (by unfold maxLen; omega) rfl) (by omega)
theorem split_yes {at_ : Nat} {l : List In} {k : Nat} {x : In} (h : l[k]? = some x) (hk : k ≤ at_) {B A : List Int} : splitU at_ (l.drop k) k B A = splitU at_ (l.drop (k + 1)) (k + 1) (B ++ occ x) A := by
  obtain ⟨hlt, hx⟩ := List.getElem?_eq_some_iff.1 h
  rw [List.drop_eq_getElem_cons hlt, hx]
  show (if (k : Int) ≤ at_ then _ else _) = _
  rw [if_pos (by omega)]
theorem split_no {at_ : Nat} {l : List In} {k : Nat} {x : In} (h : l[k]? = some x) (hk : ¬ k ≤ at_) {B A : List Int} : splitU at_ (l.drop k) k B A = splitU at_ (l.drop (k + 1)) (k + 1) B (A ++ occ x) := by
  obtain ⟨hlt, hx⟩ := List.getElem?_eq_some_iff.1 h
  rw [List.drop_eq_getElem_cons hlt, hx]
  show (if (k : Int) ≤ at_ then _ else _) = _
  rw [if_neg (by omega)]
set_option maxRecDepth 100000 in
set_option maxHeartbeats 1000000 in
theorem used_any (A : Option Addr) (n c : Nat) (l : List In) (base : Int) (at_ : Nat) (w : World) (ha : InsAt w w.heap.size A n l) (hat : at_ < n) (hn : n ≤ 60) :
    Calls Try.prog 24 #[.slice A n c, .int .i64 base, .int .i64 at_] w fun e w' => e = .returned (.int .i64 (usedP l base at_)) ∧ Below w.heap.size w w' := by
  have HA := Lib.hid ha
  clear ha
  go_enter Try.func24, Try.ntmps24
  go_wp2_with fail
  go_loopw [7, 8, 9] (fun vb va i wr => ∃ (k : Nat) (B A2 : List Int), i = .int .i64 k ∧ k ≤ n ∧ Hid (Two w wr vb va B A2) ∧ B.length + A2.length ≤ k * 8194 ∧ Hid (splitU at_ (l.drop k) k B A2 = splitU at_ l 0 [] [])) (fun _ _ i _ => n - (intOf i).toNat)
  case atStart => exact ⟨0, [], [], rfl, Nat.zero_le _, Lib.hid (Two.start w), by simp, Lib.hid rfl⟩
  case round =>
    obtain ⟨k, B, A2, rfl, hk, HR, hbl, HD⟩ := hrel
    by_cases hlt : k < n
    · obtain ⟨b, off, x, rfl, hbb, hx, hcs⟩ := HA.out.at hlt
      have hS : (fun w' => ICells w' b (off + k * 6) x) wr := hcs.below hbb HR.out.2.2.2
      have hz : b < wr.heap.size := by have := HR.out.2.2.2.size; omega
      have HX := Lib.hid hx
      clear hx hcs
      go_upto_region 5 with (fail)
      obtain ⟨W1, HW1⟩ : ∃ X, Hid (X = wr.drew) := ⟨_, Lib.hid rfl⟩
      have hd0 : Below wr.heap.size wr W1 := by rw [HW1.out]; exact bDrew wr
      have HR1 := Lib.hid (HR.out.later hd0)
      have hS0 : (fun w' => ICells w' b (off + k * 6) x) W1 := hS.below hz hd0
      have hz0 := Nat.lt_of_lt_of_le hz hd0.size
      have hlr := rd_len x
      have hlw := wr_len2 x
      clear hS hd0
      refine wp_region_N (fun w' => ICells w' b (off + k * 6) x) (fun _ => true) (by kernel_rfl) ?_
      rw [← HW1.out]
      clear HW1
      refine wpAnyN_take (i := 0) (v := ?v1) rfl (by kernel_rfl) (by kernel_rfl) (by kernel_rfl) (by kernel_rfl) (fun _ _ _ h => h) (Or.inl ⟨by rfl, ?hy1⟩) (by assumption) ?_
      case hy1 => intro w hSw; obtain ⟨i0, i1, i2, i3, i4, i5⟩ := hSw; go_simp; try with_reducible rfl
      simp only [Act.put, List.getElem_toArray, List.getElem_cons_zero, List.setIfInBounds_toArray, List.set_cons_zero, List.set_cons_succ]
      refine wpAnyN_take (i := 1) (v := ?v2) rfl (by kernel_rfl) (by kernel_rfl) (by kernel_rfl) (by kernel_rfl) (fun _ _ _ h => h) (Or.inl ⟨by rfl, ?hy2⟩) (by assumption) ?_
      case hy2 => intro w hSw; obtain ⟨i0, i1, i2, i3, i4, i5⟩ := hSw; go_simp; try with_reducible rfl
      simp only [Act.put, List.getElem_toArray, List.getElem_cons_zero, List.getElem_cons_succ, List.setIfInBounds_toArray, List.set_cons_zero, List.set_cons_succ]
      refine wpAnyN_take (i := 2) (v := ?v3) rfl (by kernel_rfl) (by kernel_rfl) (by kernel_rfl) (by kernel_rfl) (fun _ _ _ h => h) (Or.inl ⟨by rfl, ?hy3⟩) (by assumption) ?_
      case hy3 => intro w hSw; obtain ⟨i0, i1, i2, i3, i4, i5⟩ := hSw; go_simp; try with_reducible rfl
      simp only [Act.put, List.getElem_toArray, List.getElem_cons_zero, List.getElem_cons_succ, List.setIfInBounds_toArray, List.set_cons_zero, List.set_cons_succ]
      refine wpAnyN_take (i := 3) (v := ?v4) rfl (by kernel_rfl) (by kernel_rfl) (by kernel_rfl) (by kernel_rfl) (fun _ _ _ h => h) (Or.inl ⟨by rfl, ?hy4⟩) (by assumption) ?_
      case hy4 => intro w hSw; obtain ⟨i0, i1, i2, i3, i4, i5⟩ := hSw; go_simp; try with_reducible rfl
      simp only [Act.put, List.getElem_toArray, List.getElem_cons_zero, List.getElem_cons_succ, List.setIfInBounds_toArray, List.set_cons_zero, List.set_cons_succ]
      refine wpAnyN_take (i := 5) (v := ?v5) rfl (by kernel_rfl) (by kernel_rfl) (by kernel_rfl) (by kernel_rfl) (fun _ _ _ h => h) (Or.inl ⟨by rfl, ?hy5⟩) (by assumption) ?_
      case hy5 => intro w hSw; obtain ⟨i0, i1, i2, i3, i4, i5⟩ := hSw; go_simp; try with_reducible rfl
      simp only [Act.put, List.getElem_toArray, List.getElem_cons_zero, List.getElem_cons_succ, List.setIfInBounds_toArray, List.set_cons_zero, List.set_cons_succ]
      refine wpAnyN_take (i := 6) (v := ?v6) rfl (by kernel_rfl) (by kernel_rfl) (by kernel_rfl) (by kernel_rfl) (fun _ _ _ h => h) (Or.inl ⟨by rfl, ?hy6⟩) (by assumption) ?_
      case hy6 => intro w hSw; obtain ⟨i0, i1, i2, i3, i4, i5⟩ := hSw; go_simp; try with_reducible rfl
      simp only [Act.put, List.getElem_toArray, List.getElem_cons_zero, List.getElem_cons_succ, List.setIfInBounds_toArray, List.set_cons_zero, List.set_cons_succ]
      refine wpAnyN_take (i := 7) (v := ?v7) rfl (by kernel_rfl) (by kernel_rfl) (by kernel_rfl) (by kernel_rfl) (fun _ _ _ h => h) (Or.inl ⟨by rfl, ?hy7⟩) (by assumption) ?_
      case hy7 => intro w hSw; obtain ⟨i0, i1, i2, i3, i4, i5⟩ := hSw; go_simp; try with_reducible rfl
      simp only [Act.put, List.getElem_toArray, List.getElem_cons_zero, List.getElem_cons_succ, List.setIfInBounds_toArray, List.set_cons_zero, List.set_cons_succ]
      refine wpAnyN_take (i := 8) (v := ?v8) rfl (by kernel_rfl) (by kernel_rfl) (by kernel_rfl) (by kernel_rfl) (fun _ _ _ h => h) (Or.inl ⟨by rfl, ?hy8⟩) (by assumption) ?_
      case hy8 => intro w hSw; obtain ⟨i0, i1, i2, i3, i4, i5⟩ := hSw; go_simp; try with_reducible rfl
      simp only [Act.put, List.getElem_toArray, List.getElem_cons_zero, List.getElem_cons_succ, List.setIfInBounds_toArray, List.set_cons_zero, List.set_cons_succ]
      refine wpAnyN_one (i := 4) (by kernel_rfl) rfl (fun K hK => ?_)
      simp only [List.getElem_toArray, List.getElem_cons_zero, List.getElem_cons_succ]
      go_simp
      refine (reads_any x _).mono ?_
      rintro e w2 ⟨v2, rfl, ho⟩
      have hS2 : (fun w' => ICells w' b (off + k * 6) x) w2 := hS0.below hz0 ho.2
      have HO2 := Lib.hid ho.1
      have HR2 := Lib.hid (HR1.out.later ho.2)
      have hz2 := Nat.lt_of_lt_of_le hz0 ho.2.size
      have hq1 : W1.heap.size ≤ w2.heap.size := ho.2.size
      have HQ2 := Lib.hid ho.2
      clear ho
      refine hK _ _ (fun _ => hS2) ?_
      (try simp only [Act.put, List.setIfInBounds_toArray, List.set_cons_zero, List.set_cons_succ])
      refine wpAnyN_one (i := 9) (by kernel_rfl) rfl (fun K hK => ?_)
      simp only [List.getElem_toArray, List.getElem_cons_zero, List.getElem_cons_succ]
      go_simp
      refine (writes_any x _).mono ?_
      rintro e w3 ⟨v3, rfl, ho⟩
      obtain ⟨A3, c3, rfl, hcap3⟩ := own_form ho.1
      have HI3 := Lib.hid (own_ints ho.1 (by omega))
      have HC3 := Lib.hid hcap3.2
      have HO3 := Lib.hid (own_next HO2.out ho.2)
      have hS3 : (fun w' => ICells w' b (off + k * 6) x) w3 := hS2.below hz2 ho.2
      have HR3 := Lib.hid (HR2.out.later ho.2)
      have hz3 := Nat.lt_of_lt_of_le hz2 ho.2.size
      have hq2 : w2.heap.size ≤ w3.heap.size := ho.2.size
      have HQ3 := Lib.hid (bNext HQ2.out ho.2)
      clear ho hcap3
      refine hK _ _ (fun _ => hS3) ?_
      (try simp only [Act.put, List.setIfInBounds_toArray, List.set_cons_zero, List.set_cons_succ])
      refine wpAnyN_one (i := 10) (by kernel_rfl) rfl (fun K hK => ?_)
      simp only [List.getElem_toArray, List.getElem_cons_zero, List.getElem_cons_succ]
      rw [if_pos (by rfl)]
      refine wp_append_ints_at _ _ rfl W1.heap.size v2 (rdOf x).length (rdOf x) rfl HO3.out A3 (wrOf x).length c3 w3.heap.size (wrOf x) rfl HC3.out HI3.out (by omega) (by omega) ?_
      intro v4 w4 ho4 hg4 hv4
      have HB4 : Hid (Below W1.heap.size w3 w4) := Lib.hid (Below.grown (Below.refl _ _) hg4 (by omega) (fun g e => (own_lt HO3.out e).1))
      have hS4 : (fun w' => ICells w' b (off + k * 6) x) w4 := hS3.below hz0 HB4.out
      obtain ⟨A4, c4, rfl, hcap4⟩ := own_form ho4
      have HO4 := Lib.hid ho4
      have HC4 := Lib.hid hcap4.2
      have hz4 := hg4.size
      have HR4 := Lib.hid (HR1.out.later (HQ3.out.trans HB4.out))
      clear ho4 hg4 hv4 hcap4
      refine hK _ _ (fun _ => hS4) ?_
      (try simp only [Act.put, List.setIfInBounds_toArray, List.set_cons_zero, List.set_cons_succ])
      refine wpAnyN_one (i := 11) (by kernel_rfl) rfl (fun K hK => ?_)
      simp only [List.getElem_toArray, List.getElem_cons_zero, List.getElem_cons_succ]
      go_simp
      refine hK _ _ (fun _ => hS4) ?_
      (try simp only [Act.put, List.setIfInBounds_toArray, List.set_cons_zero, List.set_cons_succ])
      refine wpAnyN_done (by kernel_rfl) ?_ _
      clear hS0 hS2 hS3 hS4
      have hoc : (occ x).length = (rdOf x).length + (wrOf x).length := List.length_append
      have hbz := HR4.out.2.2.2.size
      by_cases hka : k ≤ at_
      · have d1 : decide ((k : Int) ≤ at_) = true := by simpa using hka
        go_upto_region 7 with (fail)
        go_wp2_with (at_builtin; refine wpList_append_ints_at rfl (.tmp 33) (.tmp 34) rfl w.heap.size u7 B.length B rfl HR4.out.1 A4 ((rdOf x).length + (wrOf x).length) c4 w4.heap.size (rdOf x ++ wrOf x) rfl HC4.out (own_ints HO4.out (by omega)) (by omega) (by omega) ?_)
        intro v5 w5 ho5 hg5 hv5
        have HR5 := Lib.hid (HR4.out.grown (zs := occ x) (by rw [hoc]; exact ho5) hg5 hv5)
        clear ho5 hg5 hv5
        go_wp2_with fail
        exact ⟨⟨k + 1, _, _, by go_num, by omega, HR5, by rw [List.length_append, hoc]; omega, Lib.hid (by rw [← HD.out, split_yes HX.out hka])⟩, by simp [intOf]; omega⟩
      · have d1 : decide ((k : Int) ≤ at_) = false := by simpa using hka
        go_upto_region 8 with (fail)
        go_wp2_with (at_builtin; refine wpList_append_ints_at rfl (.tmp 36) (.tmp 37) rfl w.heap.size u8 A2.length A2 rfl HR4.out.2.1 A4 ((rdOf x).length + (wrOf x).length) c4 w4.heap.size (rdOf x ++ wrOf x) rfl HC4.out (own_ints HO4.out (by omega)) (by omega) (by omega) ?_)
        intro v5 w5 ho5 hg5 hv5
        have HR5 := Lib.hid ((HR4.out.swap.grown (zs := occ x) (by rw [hoc]; exact ho5) hg5 hv5).swap)
        clear ho5 hg5 hv5
        go_wp2_with fail
        exact ⟨⟨k + 1, _, _, by go_num, by omega, HR5, by rw [List.length_append, hoc]; omega, Lib.hid (by rw [← HD.out, split_no HX.out hka])⟩, by simp [intOf]; omega⟩
    · obtain rfl : k = n := by omega
      have HE : Hid ((B, A2) = splitU at_ l 0 [] []) := Lib.hid (by rw [← HD.out, List.drop_of_length_le (by have := HA.out.len; omega)]; rfl)
      obtain ⟨b, off, x, rfl, hbb, hx, hcs⟩ := HA.out.at hat
      obtain ⟨q0, q1, q2, q3, q4, q5⟩ := hcs.below hbb HR.out.2.2.2
      have HX := Lib.hid hx
      have hlw := wr_len2 x
      clear hx hcs
      go_wp2_with fail
      refine (writes_any x _).mono ?_
      rintro e w2 ⟨v2, rfl, ho⟩
      obtain ⟨A3, c3, rfl, hcap3⟩ := own_form ho.1
      have HI3 := Lib.hid (own_ints ho.1 (by omega))
      have HC3 := Lib.hid hcap3.2
      have HR2 := Lib.hid (HR.out.later ho.2)
      have hz2 := HR2.out.2.2.2.size
      clear ho hcap3 q0 q1 q2 q3 q4 q5
      go_wp2_with (at_builtin; refine wpList_append_ints_at rfl (.tmp 39) (.tmp 44) rfl w.heap.size u8 A2.length A2 rfl HR2.out.2.1 A3 (wrOf x).length c3 w2.heap.size (wrOf x) rfl HC3.out HI3.out (by omega) (by omega) ?_)
      intro v5 w5 ho5 hg5 hv5
      have HR5 := Lib.hid ((HR2.out.swap.grown (zs := wrOf x) ho5 hg5 hv5).swap)
      clear ho5 hg5 hv5
      obtain ⟨AA, hAA⟩ : ∃ AA, AA = A2 ++ wrOf x := ⟨_, rfl⟩
      rw [← hAA] at HR5
      have HAA := Lib.hid hAA
      have hal : AA.length ≤ 500000 := by rw [hAA, List.length_append]; omega
      have hbl2 : B.length ≤ 500000 := by omega
      clear hAA
      obtain ⟨A7, c7, rfl, _⟩ := own_form HR5.out.1
      obtain ⟨A8, c8, rfl, _⟩ := own_form HR5.out.2.1
      have HI7 := Lib.hid (own_ints HR5.out.1 (by omega))
      have HI8 := Lib.hid (own_ints HR5.out.2.1 (by omega))
      go_wp2_with fail
      go_loopw [11, 12] (fun vm i wr => ∃ (j : Nat) (M : List Int), i = .int .i64 j ∧ j ≤ B.length ∧ Hid (wr.ownsRow w5.heap.size 3 1 vm M.length (iCs M) ∧ Below w5.heap.size w5 wr) ∧ M.length ≤ j ∧ Hid (M = mineOf base AA (B.take j))) (fun _ i _ => B.length - (intOf i).toNat)
      case atStart => exact ⟨0, [], rfl, Nat.zero_le _, Lib.hid ⟨⟨rfl, .inl ⟨rfl, rfl⟩⟩, Below.refl _ _⟩, Nat.le_refl _, Lib.hid rfl⟩
      case round =>
        obtain ⟨j, M, rfl, hj, HM, hml, HMD⟩ := hrel
        by_cases hjl : j < B.length
        · obtain ⟨b4, off4, z, rfl, hb4, hz, hcz0⟩ := HI7.out.at hjl
          have hcz := (HM.out.2.cell (p := ⟨b4, off4 + j, none⟩) hb4).trans hcz0
          have hst := fold_snoc (f := mineStep base AA) hz []
          have HST : Hid (mineOf base AA (B.take (j + 1)) = mineStep base AA M z) := Lib.hid (by unfold mineOf; rw [hst, HMD.out]; rfl)
          clear hz hcz0 hst
          have hI8 := (HI8.out.below HM.out.2).more HM.out.2.size
          obtain ⟨Am, cm, rfl, _⟩ := own_form HM.out.1
          have hIm := own_ints HM.out.1 (by omega)
          have HI8' := Lib.hid hI8
          have HIm := Lib.hid hIm
          clear hI8 hIm
          by_cases hbz : base < z
          · have d2 : decide (base < z) = true := by simpa using hbz
            go_wp2_with fail
            refine (hasN_any A8 AA.length c8 AA z wr HI8'.out).mono ?_
            cases hc : AA.contains z with
            | false =>
              have HS := Lib.hid (show mineStep base AA M z = M by unfold mineStep; rw [hc]; simp)
              clear hc
              rintro e w' ⟨rfl, rfl⟩
              go_wp2_with fail
              exact ⟨⟨j + 1, M, by go_num, by omega, HM, by omega, Lib.hid (by rw [HST.out, HS.out])⟩, by simp [intOf]; omega⟩
            | true =>
              have HC := Lib.hid hc
              clear hc
              rintro e w' ⟨rfl, rfl⟩
              go_wp2_with fail
              refine (hasN_any Am M.length cm M z wr HIm.out).mono ?_
              cases hm : M.contains z with
              | true =>
                have HS := Lib.hid (show mineStep base AA M z = M by unfold mineStep; rw [hm]; simp)
                clear hm
                rintro e w' ⟨rfl, rfl⟩
                go_wp2_with fail
                exact ⟨⟨j + 1, M, by go_num, by omega, HM, by omega, Lib.hid (by rw [HST.out, HS.out])⟩, by simp [intOf]; omega⟩
              | false =>
                have HS := Lib.hid (show mineStep base AA M z = M ++ [z] by unfold mineStep; rw [hm, HC.out, d2]; rfl)
                clear hm
                rintro e w' ⟨rfl, rfl⟩
                have HL := Lib.hid (lit_ints wr z)
                have HO := Lib.hid (own_next HM.out.1 (bAlloc wr (.cells #[.int .i64 z] 3)))
                have HB := Lib.hid (bNext HM.out.2 (bAlloc wr (.cells #[.int .i64 z] 3)))
                have hzs : w5.heap.size ≤ (wr.alloc (.cells #[.int .i64 z] 3)).heap.size := HB.out.size
                go_wp2_with (at_builtin; refine wpList_append_ints_at rfl (.tmp 75) (.tmp 80) rfl w5.heap.size (.slice Am M.length cm) M.length M rfl HO.out (some ⟨wr.heap.size, 0, none⟩) 1 1 _ [z] rfl (fun h => by cases h) HL.out (by omega) hzs ?_)
                intro v6 w6 ho6 hg6 _
                have HB6 := Lib.hid (HB.out.grown hg6 HB.out.size (fun g e => (own_lt HO.out e).1))
                have HO6 : Hid (w6.ownsRow w5.heap.size 3 1 v6 (M ++ [z]).length (iCs (M ++ [z]))) := Lib.hid (by rw [List.length_append]; exact ho6)
                clear ho6 hg6
                go_wp2_with fail
                exact ⟨⟨j + 1, M ++ [z], by go_num, by omega, Lib.hid ⟨HO6.out, HB6.out⟩, by rw [List.length_append, List.length_singleton]; omega, Lib.hid (by rw [HST.out, HS.out])⟩, by simp [intOf]; omega⟩
          · have d2 : decide (base < z) = false := by simpa using hbz
            have HS := Lib.hid (show mineStep base AA M z = M by unfold mineStep; rw [d2]; rfl)
            go_wp2_with fail
            exact ⟨⟨j + 1, M, by go_num, by omega, HM, by omega, Lib.hid (by rw [HST.out, HS.out])⟩, by simp [intOf]; omega⟩
        · have HF : Hid ((M.length : Int) = usedP l base at_) := Lib.hid (by
            unfold usedP
            rw [HX.out]
            show _ = ((mineOf base ((splitU at_ l 0 [] []).2 ++ wrOf x) (splitU at_ l 0 [] []).1).length : Int)
            rw [← HE.out, ← HAA.out, HMD.out, List.take_of_length_le (by omega)])
          obtain ⟨Am, cm, rfl, _⟩ := own_form HM.out.1
          have HBE := Lib.hid (HR5.out.2.2.2.trans (HM.out.2.mono HR5.out.2.2.2.size))
          go_wp2_with fail
          go_ret
          exact ⟨ret_int HF.out, HBE.out⟩
end Go.Proofs.Yteffpeokialeiaa
