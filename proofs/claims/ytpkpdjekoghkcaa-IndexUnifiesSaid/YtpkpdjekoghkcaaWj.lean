/-
  The walk of the reference's Valid.
-/
import Derived.Test.YtpkpdjekoghkcaaWi
namespace Go.Proofs.Ytpkpdjekoghkcaa
open Go.RowKit

def foldK (c : Int) (rows : List (K × List Int)) : K := rows.foldl (fun k r => if k.kind == 0 && hasL r.2 c then r.1 else k) zeroK
def refKey (x : Ix) (c : Nat) : K := if hasL x.rest c then zeroK else foldK c x.rows
def kt (x : Ix) (j : Nat) : List K := (List.range x.all.length).map fun c => if c < j then refKey x c else zeroK
def rowOk (n : Nat) (r : K × List Int) : Bool := decide (r.2.length ≤ n) && okK r.1
def refValidIx (x : Ix) : Bool :=
  if 500 < x.all.length || x.all.length < x.rest.length || x.all.length < x.rows.length then false
  else if x.rows.all (rowOk x.all.length) then sameIx x (ixOf (kt x x.all.length)) else false
theorem kt_len (x : Ix) (j : Nat) : (kt x j).length = x.all.length := by simp [kt]
theorem kt_zero (x : Ix) : kt x 0 = List.replicate x.all.length zeroK := by
  apply List.ext_getElem
  · simp [kt]
  · intro i h1 h2; simp [kt]
theorem kt_set (x : Ix) (j : Nat) (k : K) (_ : j < x.all.length) (hk : k = refKey x j) : (kt x j).set j k = kt x (j + 1) := by
  subst hk
  apply List.ext_getElem
  · simp [kt]
  · intro i h1 h2
    simp [kt] at h1 ⊢
    by_cases e : j = i
    · subst e; simp
    · rw [List.getElem_set_ne e]
      simp
      by_cases hlt : i < j
      · rw [if_pos hlt, if_pos (by omega)]
      · rw [if_neg hlt, if_neg (by omega)]
theorem kt_same (x : Ix) (j : Nat) (_ : j < x.all.length) : (kt x j).set j zeroK = kt x j := by
  apply List.ext_getElem
  · simp
  · intro i h1 h2
    by_cases e : j = i
    · subst e; simp [kt]
    · rw [List.getElem_set_ne e]
theorem foldK_next {c : Int} {rows : List (K × List Int)} {q : Nat} {r : K × List Int} (hr : rows[q]? = some r) :
    foldK c (rows.take (q + 1)) = if (foldK c (rows.take q)).kind == 0 && hasL r.2 c then r.1 else foldK c (rows.take q) := by
  rw [List.take_add_one, hr]; unfold foldK; rw [Option.toList, List.foldl_append]; rfl
theorem foldl_stay (c : Int) : ∀ (l : List (K × List Int)) (k : K), (k.kind == 0) = false → l.foldl (fun k r => if k.kind == 0 && hasL r.2 c then r.1 else k) k = k
  | [], _, _ => rfl
  | r :: t, k, h => by rw [List.foldl_cons]; simp only [h, Bool.false_and]; exact foldl_stay c t k h
theorem foldK_stay {c : Int} {rows : List (K × List Int)} {q : Nat} (h : ((foldK c (rows.take q)).kind == 0) = false) : foldK c (rows.take q) = foldK c rows := by
  have e : rows = rows.take q ++ rows.drop q := (List.take_append_drop q rows).symm
  have : foldK c rows = (rows.drop q).foldl (fun k r => if k.kind == 0 && hasL r.2 c then r.1 else k) (foldK c (rows.take q)) := by
    conv => lhs; rw [e]
    unfold foldK; rw [List.foldl_append]
  rw [this, foldl_stay c _ _ h]
theorem foldK_all {c : Int} {rows : List (K × List Int)} {q : Nat} (h : rows.length ≤ q) : foldK c (rows.take q) = foldK c rows := by rw [List.take_of_length_le h]
theorem rowsOk_next {n j : Nat} {rows : List (K × List Int)} {r : K × List Int} (h : (rows.take j).all (rowOk n) = true) (hr : rows[j]? = some r) (hok : rowOk n r = true) : (rows.take (j + 1)).all (rowOk n) = true := by
  rw [List.take_add_one, hr]; simp at h ⊢; exact ⟨h, hok⟩
theorem rowsOk_all {n j : Nat} {rows : List (K × List Int)} (h : (rows.take j).all (rowOk n) = true) (hj : rows.length ≤ j) : rows.all (rowOk n) = true := by rwa [List.take_of_length_le hj] at h
theorem refValid_big {x : Ix} (h : 500 < x.all.length ∨ x.all.length < x.rest.length ∨ x.all.length < x.rows.length) : refValidIx x = false := by
  unfold refValidIx
  rw [if_pos (by simpa [or_assoc] using h)]
theorem refValid_row {x : Ix} {j : Nat} {r : K × List Int} (hr : x.rows[j]? = some r) (h : rowOk x.all.length r = false) : refValidIx x = false := by
  unfold refValidIx
  have : x.rows.all (rowOk x.all.length) = false := List.all_eq_false.2 ⟨r, List.mem_of_getElem? hr, by simp [h]⟩
  rw [this]
  split <;> rfl
theorem refValid_same {x : Ix} (h : ¬ (500 < x.all.length ∨ x.all.length < x.rest.length ∨ x.all.length < x.rows.length)) (ho : x.rows.all (rowOk x.all.length) = true) : refValidIx x = sameIx x (ixOf (kt x x.all.length)) := by
  unfold refValidIx
  rw [if_neg (by simpa [or_assoc] using h), if_pos ho]

set_option maxRecDepth 100000 in
set_option maxHeartbeats 2000000 in
theorem refValid_any (u : Value) (x : Ix) (w : World) (hx : IxAt w w.heap.size u x) :
    Calls Try.prog 16 #[u] w fun e w' => e = .returned (.bool (refValidIx x)) ∧ Below w.heap.size w w' := by
  obtain ⟨A0, c0, A1, c1, A2, c2, rfl, ha0, ha1, ha2⟩ := hx
  have n0 := ha0.1.2
  have n1 := ha1.1.2
  have n2 := ha2.1.2
  obtain ⟨i0, hi, hz0, hz1, hz2⟩ := info_parts info35
  by_cases hg : 500 < x.all.length ∨ x.all.length < x.rest.length ∨ x.all.length < x.rows.length
  · go_enter Try.func16, Try.ntmps16
    go_wp2_with fail
    all_goals go_ret
    all_goals exact ⟨ret_bool (refValid_big hg).symm, bAlloc _ _⟩
  · have g1 : x.all.length ≤ 500 := by omega
    have g2 : x.rows.length ≤ x.all.length := by omega
    have g3 : x.rest.length ≤ x.all.length := by omega
    have g4 : x.all.length ≤ 9223372036854775807 := by omega
    have hd1 : decide ((500 : Int) < (x.all.length : Int)) = false := by simp; omega
    have hd2 : decide (x.all.length < x.rows.length) = false := by simp; omega
    have hd3 : decide (x.all.length < x.rest.length) = false := by simp; omega
    obtain ⟨W, HW⟩ : ∃ W, Hid (W = w.alloc (.cells #[.slice A0 x.all.length c0, .slice A1 x.rows.length c1, .slice A2 x.rest.length c2] 26)) := ⟨_, rfl⟩
    have hWz : W.heap.size = w.heap.size + 1 := by rw [HW.out]; simp
    have hWb : Below w.heap.size w W := by rw [HW.out]; exact bAlloc _ _
    have hbox : Blk W w.heap.size 26 #[.slice A0 x.all.length c0, .slice A1 x.rows.length c1, .slice A2 x.rest.length c2] := by rw [HW.out]; exact Blk.new _ _ _
    have HZ := Lib.hid hWz
    clear hWz
    go_enter Try.func16, Try.ntmps16
    go_wp2_with fail
    rw [← HW.out]
    go_loopw [4] (fun i wr => ∃ j, j ≤ x.rows.length ∧ i = .int .i64 ((j : Nat) : Int) ∧ Below W.heap.size W wr ∧
        (x.rows.take j).all (rowOk x.all.length) = true) (fun i _ => x.rows.length - (intOf i).toNat)
    case atStart => exact ⟨0, by omega, rfl, Below.refl _ _, rfl⟩
    case round =>
      obtain ⟨j, hj, rfl, hb, hf⟩ := hrel
      have hbw : Below w.heap.size w wr := bNext hWb hb
      have hz : w.heap.size + 1 ≤ wr.heap.size := by have := hb.size; have := HZ.out; omega
      have hbx := hbox.below hb hbox.lt
      have d1 : wr.cell? ⟨w.heap.size, 1, none⟩ = some (.slice A1 x.rows.length c1) := by rw [hbx.cell]; rfl
      by_cases hlt : j < x.rows.length
      · obtain ⟨b, off, r, rfl, hB, hr, hr4, A, c, hr5', hrl⟩ := ha1.at hlt
        obtain ⟨h1, h2, h3, h4⟩ := (hr4.below hB hbw).four
        have hr5 := (hbw.cell (p := ⟨b, off + j * 5 + 4, none⟩) hB).trans hr5'
        clear hr5'
        have zb : b < wr.heap.size := by omega
        have nr := hrl.1.2
        have HR := Lib.hid hr
        have HB := Lib.hid hb
        have HF := Lib.hid hf
        clear hr hr4 hb hf hrl hbx
        by_cases hlen : r.2.length ≤ x.all.length
        · go_wp2_with fail
          refine (validKey_any r.1 _).mono ?_
          rintro e w2 ⟨rfl, hb2⟩
          have HB3 := Lib.hid (bNext HB.out hb2)
          clear h1 h2 h3 h4 hr5 d1 hb2 hbw
          cases hok : okK r.1
          · go_wp2_with fail
            go_ret
            exact ⟨ret_bool (refValid_row HR.out (by simp [rowOk, hok])).symm, bNext hWb HB3.out⟩
          · go_wp2_with fail
            exact ⟨⟨j + 1, by omega, by go_num, HB3.out, rowsOk_next HF.out HR.out (by simp [rowOk, hok, hlen])⟩, by simp [intOf]; omega⟩
        · go_wp2_with fail
          go_ret
          exact ⟨ret_bool (refValid_row HR.out (by simp [rowOk, hlen])).symm, hbw⟩
      · have HO := Lib.hid (rowsOk_all hf (by omega))
        have HB := Lib.hid hb
        clear hf hb hbw hbx
        go_wp2_with (refine wpList_make_full _ rfl (.tmp 53) (.tmp 53) 22 rfl wr.heap.size 35 i0 _ 4 Try.underlying22 hi hz0 hz1 _ _ _ _ x.all.length rfl rfl rfl rfl ?m1 ?m2 ?m3 ?_)
        case m1 => rw [hz2]; omega
        case m2 => unfold maxLen; omega
        case m3 => simp
        intro w1 hown1 hg1
        have hb1 : Below wr.heap.size wr w1 := (Below.refl _ _).grown hg1 (Nat.le_refl _) (fun k hk => by cases hk)
        have HB1 := Lib.hid (bNext HB.out hb1)
        obtain ⟨N, HN⟩ : ∃ N, Hid (N = wr.heap.size) := ⟨_, rfl⟩
        have hk1 : w1.ownsRow N 35 4 (.slice (some ⟨N, 0, none⟩) x.all.length x.all.length) x.all.length (keyCs (kt x 0)) := by
          rw [kt_zero, ← keyCs_made, HN.out]; simpa using hown1
        have hzN : w.heap.size < N := by have := HN.out; omega
        rw [← HN.out]
        have HK1 := Lib.hid hk1
        clear hown1 hg1 hb1 hk1 d1
        go_wp2_with fail
        go_loopw [6] (fun i wi => ∃ j, j ≤ x.all.length ∧ i = .int .i64 ((j : Nat) : Int) ∧ Below W.heap.size W wi ∧
          wi.ownsRow N 35 4 (.slice (some ⟨N, 0, none⟩) x.all.length x.all.length) x.all.length (keyCs (kt x j))) (fun i _ => x.all.length - (intOf i).toNat)
        case atStart => exact ⟨0, by omega, rfl, HB1.out, HK1.out⟩
        case round =>
          rename_i wq _ _ _ _ _ _ wr
          obtain ⟨j, hj, rfl, hb, hk⟩ := hrel
          have hbw : Below w.heap.size w wr := bNext hWb hb
          have hbx := hbox.below hb hbox.lt
          have HX4 := Lib.hid hbx
          have HB4 := Lib.hid hb
          have HK4 := Lib.hid hk
          have ha2' := (ha2.below hbw).more hbw.size
          clear hb hk hbw hbx
          by_cases hlt2 : j < x.all.length
          · have d2 : wr.cell? ⟨w.heap.size, 2, none⟩ = some (.slice A2 x.rest.length c2) := by rw [HX4.out.cell]; rfl
            go_wp2_with fail
            refine (has_any A2 x.rest.length c2 x.rest (j : Int) _ ha2').mono ?_
            rintro e w2 ⟨rfl, rfl⟩
            clear d2 ha2'
            cases hrs : hasL x.rest (j : Int)
            · go_wp2_with fail
              go_loopw [7] (fun i wi => ∃ q, q ≤ x.rows.length ∧ i = .int .i64 ((q : Nat) : Int) ∧ Below W.heap.size W wi ∧
                wi.ownsRow N 35 4 (.slice (some ⟨N, 0, none⟩) x.all.length x.all.length) x.all.length (keyCs ((kt x j).set j (foldK (j : Int) (x.rows.take q))))) (fun i _ => x.rows.length - (intOf i).toNat)
              case atStart => exact ⟨0, by omega, rfl, HB4.out, by rw [List.take_zero]; show World.ownsRow _ _ _ _ _ _ (keyCs ((kt x j).set j zeroK)); rw [kt_same x j hlt2]; exact HK4.out⟩
              case round =>
                obtain ⟨q, hq, rfl, hb, hk⟩ := hrel
                clear HX4 HB4 HK4
                have hbw : Below w.heap.size w wr := bNext hWb hb
                have hbx := hbox.below hb hbox.lt
                have hz : w.heap.size + 1 ≤ wr.heap.size := by have := hb.size; have := HZ.out; omega
                have d1 : wr.cell? ⟨w.heap.size, 1, none⟩ = some (.slice A1 x.rows.length c1) := by rw [hbx.cell]; rfl
                have zN : N < wr.heap.size := (hk.lt N rfl).2
                by_cases hqt : q < x.rows.length
                · obtain ⟨b, off, r, rfl, hB, hr, hr4, A, c, hr5', hrl⟩ := ha1.at hqt
                  have zb : b < wr.heap.size := by omega
                  have nr := hrl.1.2
                  obtain ⟨y0, y1, y2, y3⟩ := keyCs_at (l := (kt x j).set j (foldK (j : Int) (x.rows.take q))) (r := j) (x := foldK (j : Int) (x.rows.take q)) (by rw [List.getElem?_set_self (by rw [kt_len]; exact hlt2)])
                  have c0' := (hk.cellAt (j * 4) (by omega)).trans y0
                  have c1' := (hk.cellAt (j * 4 + 1) (by omega)).trans y1
                  have c2' := (hk.cellAt (j * 4 + 2) (by omega)).trans y2
                  have c3' := (hk.cellAt (j * 4 + 3) (by omega)).trans y3
                  have HB5 := Lib.hid hb
                  have HK5 := Lib.hid hk
                  have HR := Lib.hid hr
                  clear hb hk y0 y1 y2 y3
                  obtain ⟨k, HKK⟩ : ∃ k, Hid (k = foldK (j : Int) (x.rows.take q)) := ⟨_, rfl⟩
                  rw [← HKK.out] at c0' c1' c2' c3'
                  go_wp2_with fail
                  refine (isVar_any k _).mono ?_
                  rintro e w2 ⟨rfl, hb2⟩
                  have hb6 := bNext HB5.out hb2
                  have hbw2 := bNext hWb hb6
                  have hk6 := own_below HK5.out hb2
                  have d1' : w2.cell? ⟨w.heap.size, 1, none⟩ = some (.slice (some ⟨b, off, none⟩) x.rows.length c1) := by rw [(hbox.below hb6 hbox.lt).cell]; rfl
                  have zb2 : b < w2.heap.size := by have := hb2.size; omega
                  have hrl' := (hrl.below hbw2).more hbw2.size
                  have hr5 := (hbw2.cell (p := ⟨b, off + q * 5 + 4, none⟩) hB).trans hr5'
                  obtain ⟨h1, h2, h3, h4⟩ := (hr4.below hB hbw2).four
                  have HB6 := Lib.hid hb6
                  have HK6 := Lib.hid hk6
                  clear d1 c0' c1' c2' c3' hb6 hk6 hb2 hr5' hr4 hrl hbw hbw2 hbx
                  cases hv : (k.kind == 0)
                  · go_wp2_with fail
                    exact ⟨⟨j + 1, by omega, by go_num, HB6.out, by
                      rw [← kt_set x j (foldK (j : Int) (x.rows.take q)) hlt2 (by unfold refKey; rw [hrs]; exact foldK_stay (by rw [← HKK.out]; exact hv))]; exact HK6.out⟩, by simp [intOf]; omega⟩
                  · go_wp2_with fail
                    refine (has_any A r.2.length c r.2 (j : Int) _ hrl').mono ?_
                    rintro e w3 ⟨rfl, rfl⟩
                    have hfn := foldK_next (c := (j : Int)) HR.out
                    cases hhs : hasL r.2 (j : Int)
                    · have HFN : Hid (foldK (j : Int) (x.rows.take (q + 1)) = foldK (j : Int) (x.rows.take q)) := Lib.hid (by rw [hfn, hhs, Bool.and_false]; rfl)
                      clear hfn h1 h2 h3 h4 hr5 hrl'
                      go_wp2_with fail
                      exact ⟨⟨q + 1, by omega, by go_num, HB6.out, by rw [HFN.out]; exact HK6.out⟩, by simp [intOf]; omega⟩
                    · have HFN : Hid (foldK (j : Int) (x.rows.take (q + 1)) = r.1) := Lib.hid (by rw [hfn, hhs, ← HKK.out, hv]; rfl)
                      obtain ⟨y0, y1, y2, y3⟩ := keyCs_at (l := (kt x j).set j (foldK (j : Int) (x.rows.take q))) (r := j) (x := foldK (j : Int) (x.rows.take q)) (by rw [List.getElem?_set_self (by rw [kt_len]; exact hlt2)])
                      have c0' := (HK6.out.cellAt (j * 4) (by omega)).trans y0
                      have c1' := (HK6.out.cellAt (j * 4 + 1) (by omega)).trans y1
                      have c2' := (HK6.out.cellAt (j * 4 + 2) (by omega)).trans y2
                      have c3' := (HK6.out.cellAt (j * 4 + 3) (by omega)).trans y3
                      have f0' := HK6.out.frozenAt (j * 4)
                      have f1' := HK6.out.frozenAt (j * 4 + 1)
                      have f2' := HK6.out.frozenAt (j * 4 + 2)
                      have f3' := HK6.out.frozenAt (j * 4 + 3)
                      clear hfn hr5 hrl' y0 y1 y2 y3
                      go_wp2_with fail
                      have HB7 : Below W.heap.size W ((((w2.setCell ⟨N, j * 4, none⟩ (.int .i64 r.1.kind)).setCell ⟨N, j * 4 + 1, none⟩ (.int .i64 r.1.n)).setCell ⟨N, j * 4 + 2, none⟩ (.string r.1.name)).setCell ⟨N, j * 4 + 3, none⟩ (.int .i64 r.1.ar)) := by
                        have hZN : W.heap.size ≤ N := by have := HZ.out; omega
                        exact (((HB6.out.setCell hZN _).setCell hZN _).setCell hZN _).setCell hZN _
                      exact ⟨⟨q + 1, by omega, by go_num, HB7, by have := own_store HK6.out r.1 hlt2; rw [List.set_set] at this; rw [HFN.out]; exact this⟩, by simp [intOf]; omega⟩
                · have HB6 := Lib.hid hb
                  have HK6 := Lib.hid hk
                  clear hb hk hbw hbx
                  go_wp2_with fail
                  exact ⟨⟨j + 1, by omega, by go_num, HB6.out, by
                      rw [← kt_set x j (foldK (j : Int) (x.rows.take q)) hlt2 (by unfold refKey; rw [hrs]; exact foldK_all (by omega))]; exact HK6.out⟩, by simp [intOf]; omega⟩
            · go_wp2_with fail
              exact ⟨⟨j + 1, by omega, by go_num, HB4.out, by rw [← kt_set x j zeroK hlt2 (by unfold refKey; rw [if_pos hrs]), kt_same x j hlt2]; exact HK4.out⟩, by simp [intOf]; omega⟩
          · have b0 : wr.cell? ⟨w.heap.size, 0, none⟩ = some (.slice A0 x.all.length c0) := by rw [HX4.out.cell]; rfl
            have b1 : wr.cell? ⟨w.heap.size, 1, none⟩ = some (.slice A1 x.rows.length c1) := by rw [HX4.out.cell]; rfl
            have b2 : wr.cell? ⟨w.heap.size, 2, none⟩ = some (.slice A2 x.rest.length c2) := by rw [HX4.out.cell]; rfl
            have hx : IxAt w w.heap.size (.agg #[.slice A0 x.all.length c0, .slice A1 x.rows.length c1, .slice A2 x.rest.length c2]) x := ⟨A0, c0, A1, c1, A2, c2, rfl, ha0, ha1, ha2⟩
            have hbw2 := bNext hWb HB4.out
            have HX5 := Lib.hid ((hx.below hbw2).more hbw2.size)
            have HKS : Hid (KeysAt wr wr.heap.size (some ⟨N, 0, none⟩) x.all.length (kt x j)) := by
              obtain ⟨A, c, e, h⟩ := own_keys HK4.out (by omega)
              simp only [Value.slice.injEq] at e
              obtain ⟨rfl, -, rfl⟩ := e
              exact Lib.hid h
            have HBW := Lib.hid hbw2
            have zz : w.heap.size < wr.heap.size := HX4.out.lt
            have hjn : j = x.all.length := by omega
            clear hbw2 hx ha2'
            go_wp2_with fail
            refine wp_region_N (fun w' => w'.cell? ⟨w.heap.size, 0, none⟩ = some (.slice A0 x.all.length c0) ∧ w'.cell? ⟨w.heap.size, 1, none⟩ = some (.slice A1 x.rows.length c1) ∧ w'.cell? ⟨w.heap.size, 2, none⟩ = some (.slice A2 x.rest.length c2)) (fun i => true) (by kernel_rfl) ?_
            have hS0 : (fun w' => w'.cell? ⟨w.heap.size, 0, none⟩ = some (.slice A0 x.all.length c0) ∧ w'.cell? ⟨w.heap.size, 1, none⟩ = some (.slice A1 x.rows.length c1) ∧ w'.cell? ⟨w.heap.size, 2, none⟩ = some (.slice A2 x.rest.length c2)) wr.drew := ⟨b0, b1, b2⟩
            refine wpAnyN_take (i := 0) (v := ?v1) rfl (by kernel_rfl) (by kernel_rfl) (by kernel_rfl) (by kernel_rfl) (fun _ _ _ h => h) (Or.inl ⟨by rfl, ?hy1⟩) (by assumption) ?_
            case hy1 => intro w hSw; (try dsimp only at hSw); go_simp; try with_reducible rfl
            simp only [Act.put, List.getElem_toArray, List.getElem_cons_zero, List.setIfInBounds_toArray, List.set_cons_zero, List.set_cons_succ]
            refine wpAnyN_take (i := 1) (v := ?v2) rfl (by kernel_rfl) (by kernel_rfl) (by kernel_rfl) (by kernel_rfl) (fun _ _ _ h => h) (Or.inl ⟨by rfl, ?hy2⟩) (by assumption) ?_
            case hy2 => intro w hSw; (try dsimp only at hSw); go_simp; try with_reducible rfl
            simp only [Act.put, List.getElem_toArray, List.getElem_cons_zero, List.getElem_cons_succ, List.setIfInBounds_toArray, List.set_cons_zero, List.set_cons_succ]
            refine wpAnyN_one (i := 2) (by kernel_rfl) rfl (fun K hK => ?_)
            simp only [List.getElem_toArray, List.getElem_cons_zero, List.getElem_cons_succ]
            go_simp
            refine (of_any _ x.all.length _ (kt x j) _ (by omega) (by exact HKS.out)).mono ?_
            rintro e w4 ⟨⟨v, rfl, hv⟩, hb4⟩
            replace hb4 : Below wr.heap.size wr w4 := (bDrewN (Below.refl wr.heap.size wr) 1).trans hb4
            have hS4 : (fun w' => w'.cell? ⟨w.heap.size, 0, none⟩ = some (.slice A0 x.all.length c0) ∧ w'.cell? ⟨w.heap.size, 1, none⟩ = some (.slice A1 x.rows.length c1) ∧ w'.cell? ⟨w.heap.size, 2, none⟩ = some (.slice A2 x.rest.length c2)) w4 := ⟨(hb4.cell zz).trans b0, (hb4.cell zz).trans b1, (hb4.cell zz).trans b2⟩
            refine hK _ _ (fun _ => hS4) ?_
            refine wpAnyN_one (i := 3) (by kernel_rfl) rfl (fun K hK => ?_)
            simp only [List.getElem_toArray, List.getElem_cons_zero, List.getElem_cons_succ]
            go_simp
            refine (same13_any _ _ x _ _ (by exact ((HX5.out.below hb4).more hb4.size)) hv).mono ?_
            rintro e w5 ⟨rfl, hb5⟩
            have hS5 : (fun w' => w'.cell? ⟨w.heap.size, 0, none⟩ = some (.slice A0 x.all.length c0) ∧ w'.cell? ⟨w.heap.size, 1, none⟩ = some (.slice A1 x.rows.length c1) ∧ w'.cell? ⟨w.heap.size, 2, none⟩ = some (.slice A2 x.rest.length c2)) w5 := ⟨(hb5.cell (Nat.lt_of_lt_of_le zz hb4.size)).trans hS4.1, (hb5.cell (Nat.lt_of_lt_of_le zz hb4.size)).trans hS4.2.1, (hb5.cell (Nat.lt_of_lt_of_le zz hb4.size)).trans hS4.2.2⟩
            refine hK _ _ (fun _ => hS5) ?_
            refine wpAnyN_one (i := 4) (by kernel_rfl) rfl (fun K hK => ?_)
            simp only [List.getElem_toArray, List.getElem_cons_zero, List.getElem_cons_succ]
            go_simp
            refine hK _ _ (fun _ => hS5) ?_
            refine wpAnyN_done (by kernel_rfl) ?_ _
            go_wp2_with fail
            go_ret
            refine ⟨ret_bool ?_, bNext HBW.out (hb4.trans (hb5.mono hb4.size))⟩
            subst hjn; rw [refValid_same hg HO.out]; unfold ixOf; rw [kt_len]
end Go.Proofs.Ytpkpdjekoghkcaa
