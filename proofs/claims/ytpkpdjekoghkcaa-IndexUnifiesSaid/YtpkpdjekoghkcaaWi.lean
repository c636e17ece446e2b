import Derived.Test.YtpkpdjekoghkcaaKf
import Derived.Test.YtpkpdjekoghkcaaWf
import Derived.Test.YtpkpdjekoghkcaaRegN
namespace Go.Proofs.Ytpkpdjekoghkcaa
open Go.RowKit
theorem info35 : (Try.prog.info? 35).map (fun i => (i.zero, i.size, i.bytes)) = some (some (.agg #[.int .i64 0, .int .i64 0, .string { data := #[] }, .int .i64 0]), 4, 40) := by kernel_rfl
theorem validIx_big {x : Ix} (h : 500 < x.all.length ∨ x.all.length < x.rows.length ∨ x.all.length < x.rest.length) : validIx x = false := by
  unfold validIx
  rw [if_pos (by simpa [or_assoc] using h)]
theorem validIx_rows {x : Ix} (h : ¬ (500 < x.all.length ∨ x.all.length < x.rows.length ∨ x.all.length < x.rest.length)) (hf : fillR x.all.length x.rows (List.replicate x.all.length zeroK) = none) : validIx x = false := by
  unfold validIx
  rw [if_neg (by simpa [or_assoc] using h), hf]
  rfl
theorem validIx_rest {x : Ix} {ks : List K} (h : ¬ (500 < x.all.length ∨ x.all.length < x.rows.length ∨ x.all.length < x.rest.length)) (hf : fillR x.all.length x.rows (List.replicate x.all.length zeroK) = some ks) (hg : fillL x.all.length zeroK x.rest ks = none) : validIx x = false := by
  unfold validIx
  rw [if_neg (by simpa [or_assoc] using h), hf, Option.bind_some, hg]
theorem validIx_same {x : Ix} {ks ks' : List K} (h : ¬ (500 < x.all.length ∨ x.all.length < x.rows.length ∨ x.all.length < x.rest.length)) (hf : fillR x.all.length x.rows (List.replicate x.all.length zeroK) = some ks) (hg : fillL x.all.length zeroK x.rest ks = some ks') : validIx x = sameIx x (ixOf ks') := by
  unfold validIx
  rw [if_neg (by simpa [or_assoc] using h), hf, Option.bind_some, hg]

theorem fillR_all {n j : Nat} {rows : List (K × List Int)} {ks ks' : List K} (h : fillR n (rows.take j) ks = some ks') (hj : rows.length ≤ j) : fillR n rows ks = some ks' := by
  rwa [List.take_of_length_le hj] at h
set_option maxRecDepth 100000 in
set_option maxHeartbeats 2000000 in
theorem Valid_any (u : Value) (x : Ix) (w : World) (hx : IxAt w w.heap.size u x) :
    Calls Try.prog 15 #[u] w fun e w' => e = .returned (.bool (validIx x)) ∧ Below w.heap.size w w' := by
  obtain ⟨A0, c0, A1, c1, A2, c2, rfl, ha0, ha1, ha2⟩ := hx
  have n0 := ha0.1.2
  have n1 := ha1.1.2
  have n2 := ha2.1.2
  obtain ⟨i0, hi, hz0, hz1, hz2⟩ := info_parts info35
  by_cases hg : 500 < x.all.length ∨ x.all.length < x.rows.length ∨ x.all.length < x.rest.length
  · go_enter Try.func15, Try.ntmps15
    go_wp2_with fail
    all_goals go_ret
    all_goals exact ⟨ret_bool (validIx_big hg).symm, bAlloc _ _⟩
  · have g1 : x.all.length ≤ 500 := by omega
    have g2 : x.rows.length ≤ x.all.length := by omega
    have g3 : x.rest.length ≤ x.all.length := by omega
    have g4 : x.all.length ≤ 9223372036854775807 := by omega
    have hd1 : decide ((500 : Int) < (x.all.length : Int)) = false := by simp; omega
    have hd2 : decide (x.all.length < x.rows.length) = false := by simp; omega
    have hd3 : decide (x.all.length < x.rest.length) = false := by simp; omega
    obtain ⟨W, HW⟩ : ∃ W, Hid (W = w.alloc (.cells #[.slice A0 x.all.length c0, .slice A1 x.rows.length c1, .slice A2 x.rest.length c2] 26)) := ⟨_, rfl⟩
    have hWz : W.heap.size = w.heap.size + 1 := by rw [HW.out]; simp
    have hWb : Below w.heap.size w W := by rw [HW.out]; exact bAlloc _ _
    have hbox : Blk W w.heap.size 26 #[.slice A0 x.all.length c0, .slice A1 x.rows.length c1, .slice A2 x.rest.length c2] := by rw [HW.out]; exact Blk.new _ _ _
    have HZ := Lib.hid hWz
    clear hWz
    go_enter Try.func15, Try.ntmps15
    go_wp2_with (refine wpList_make_full _ rfl (.tmp 30) (.tmp 30) 22 rfl (w.heap.size + 1) 35 i0 _ 4 Try.underlying22 hi hz0 hz1 _ _ _ _ x.all.length rfl rfl rfl rfl ?m1 ?m2 ?m3 ?_)
    case m1 => rw [hz2]; omega
    case m2 => unfold maxLen; omega
    case m3 => simp
    intro w1 hown1 hg1
    rw [← HW.out] at hg1
    have hb1 : Below W.heap.size W w1 := (Below.refl _ _).grown hg1 (Nat.le_refl _) (fun k hk => by cases hk)
    have hk1 : w1.ownsRow (w.heap.size + 1) 35 4 (.slice (some ⟨w.heap.size + 1, 0, none⟩) x.all.length x.all.length) x.all.length (keyCs (List.replicate x.all.length zeroK)) := by
      rw [← keyCs_made]; simpa using hown1
    have d1 : w1.cell? ⟨w.heap.size, 1, none⟩ = some (.slice A1 x.rows.length c1) := by rw [(hbox.below hb1 hbox.lt).cell]; rfl
    have HB1 := Lib.hid hb1
    have HK1 := Lib.hid hk1
    clear hown1 hg1 hb1 hk1
    go_wp2_with fail
    go_loopw [35] (fun i wr => ∃ j ks, j ≤ x.rows.length ∧ i = .int .i64 ((j : Nat) : Int) ∧ Below W.heap.size W wr ∧
        wr.ownsRow (w.heap.size + 1) 35 4 (.slice (some ⟨w.heap.size + 1, 0, none⟩) x.all.length x.all.length) x.all.length (keyCs ks) ∧
        fillR x.all.length (x.rows.take j) (List.replicate x.all.length zeroK) = some ks) (fun i _ => x.rows.length - (intOf i).toNat)
    case atStart => exact ⟨0, _, by omega, rfl, HB1.out, HK1.out, rfl⟩
    case round =>
      obtain ⟨j, ks, hj, rfl, hb, hk, hf⟩ := hrel
      clear d1
      have hbw : Below w.heap.size w wr := bNext hWb hb
      have hz : w.heap.size + 1 ≤ wr.heap.size := by have := hb.size; have := HZ.out; omega
      by_cases hlt : j < x.rows.length
      · obtain ⟨b, off, r, rfl, hB, hr, hr4, A, c, hr5', hrl⟩ := ha1.at hlt
        obtain ⟨h1, h2, h3, h4⟩ := (hr4.below hB hbw).four
        have hr5 := (hbw.cell (p := ⟨b, off + j * 5 + 4, none⟩) hB).trans hr5'
        clear hr5'
        have zb : b < wr.heap.size := by omega
        have nr := hrl.1.2
        have HR := Lib.hid hr
        have HB := Lib.hid hb
        have HK := Lib.hid hk
        have HF := Lib.hid hf
        have HRL := Lib.hid hrl
        clear hr hr4 hb hk hf hrl hbw
        go_wp2_with fail
        refine (valid_any r.1 _).mono ?_
        rintro e w2 ⟨rfl, hb2⟩
        have rb := (Blk.new wr 62 #[.int .i64 r.1.kind, .int .i64 r.1.n, .string r.1.name, .int .i64 r.1.ar, .slice A r.2.length c]).below hb2 (by simp)
        have hb3 : Below W.heap.size W w2 := bNext HB.out (bStart hb2)
        have hk3 := own_below HK.out (bStart hb2)
        have r4 : w2.cell? ⟨wr.heap.size, 4, none⟩ = some (.slice A r.2.length c) := by rw [rb.cell]; rfl
        have HB3 := Lib.hid hb3
        have HK3 := Lib.hid hk3
        have RB := Lib.hid rb
        clear h1 h2 h3 h4 hb2 hb3 hk3 rb
        cases hok : okK r.1
        · go_wp2_with fail
          go_ret
          exact ⟨ret_bool (validIx_rows hg (fillR_dead HF.out HR.out (by simp [stepR, hok]))).symm, bNext hWb HB3.out⟩
        · by_cases hlen : r.2.length ≤ x.all.length
          · have hd4 : decide (x.all.length < r.2.length) = false := by simp; omega
            go_wp2_with fail
            obtain ⟨wo, rfl⟩ : ∃ wo : World, wo = wr := ⟨_, rfl⟩
            go_loopw [8, 53] (fun _ i wi => ∃ q ks', q ≤ r.2.length ∧ i = .int .i64 ((q : Nat) : Int) ∧ Below W.heap.size W wi ∧
              wi.ownsRow (w.heap.size + 1) 35 4 (.slice (some ⟨w.heap.size + 1, 0, none⟩) x.all.length x.all.length) x.all.length (keyCs ks') ∧
              Blk wi wo.heap.size 62 #[.int .i64 r.1.kind, .int .i64 r.1.n, .string r.1.name, .int .i64 r.1.ar, .slice A r.2.length c] ∧
              fillL x.all.length r.1 (r.2.take q) ks = some ks') (fun _ i _ => r.2.length - (intOf i).toNat)
            case atStart => exact ⟨0, _, by omega, rfl, HB3.out, HK3.out, RB.out, rfl⟩
            case round =>
              obtain ⟨q, ks', hq, rfl, hb, hk, hbx, hl⟩ := hrel
              clear r4
              have hbw : Below w.heap.size w wr := bNext hWb hb
              have hz2 : w.heap.size + 1 < wr.heap.size := (hk.lt (w.heap.size + 1) rfl).2
              have hzo : wo.heap.size < wr.heap.size := hbx.lt
              have hll : ks'.length = x.all.length := by have := hk.1; rw [keyCs_len] at this; omega
              by_cases hqt : q < r.2.length
              · obtain ⟨b', off', i, rfl, hB', hi', hc'⟩ := (HRL.out.below hbw).at hqt
                have zb' : b' < wr.heap.size := by omega
                have s4 : wr.cell? ⟨wo.heap.size, 4, none⟩ = some (.slice (some ⟨b', off', none⟩) r.2.length c) := by rw [hbx.cell]; rfl
                have HB4 := Lib.hid hb
                have HK4 := Lib.hid hk
                have HX4 := Lib.hid hbx
                have HL4 := Lib.hid hl
                have HI4 := Lib.hid hi'
                by_cases hin : 0 ≤ i ∧ i < x.all.length
                · obtain ⟨i0', i1'⟩ := hin
                  obtain ⟨m, rfl⟩ := Int.eq_ofNat_of_zero_le i0'
                  have hm : m < x.all.length := by omega
                  have s0 : wr.cell? ⟨wo.heap.size, 0, none⟩ = some (.int .i64 r.1.kind) := by rw [hbx.cell]; rfl
                  have s1 : wr.cell? ⟨wo.heap.size, 1, none⟩ = some (.int .i64 r.1.n) := by rw [hbx.cell]; rfl
                  have s2 : wr.cell? ⟨wo.heap.size, 2, none⟩ = some (.string r.1.name) := by rw [hbx.cell]; rfl
                  have s3 : wr.cell? ⟨wo.heap.size, 3, none⟩ = some (.int .i64 r.1.ar) := by rw [hbx.cell]; rfl
                  obtain ⟨y0, y1, y2, y3⟩ := keyCs_at (List.getElem?_eq_getElem (by omega : m < ks'.length))
                  have c0' := (hk.cellAt (m * 4) (by omega)).trans y0
                  have c1' := (hk.cellAt (m * 4 + 1) (by omega)).trans y1
                  have c2' := (hk.cellAt (m * 4 + 2) (by omega)).trans y2
                  have c3' := (hk.cellAt (m * 4 + 3) (by omega)).trans y3
                  have f0' := hk.frozenAt (m * 4)
                  have f1' := hk.frozenAt (m * 4 + 1)
                  have f2' := hk.frozenAt (m * 4 + 2)
                  have f3' := hk.frozenAt (m * 4 + 3)
                  clear hb hk hbx hl hi' y0 y1 y2 y3 hbw
                  go_wp2_with fail
                  have HB5 : Below W.heap.size W ((((wr.setCell ⟨w.heap.size + 1, m * 4, none⟩ (.int .i64 r.1.kind)).setCell ⟨w.heap.size + 1, m * 4 + 1, none⟩ (.int .i64 r.1.n)).setCell ⟨w.heap.size + 1, m * 4 + 2, none⟩ (.string r.1.name)).setCell ⟨w.heap.size + 1, m * 4 + 3, none⟩ (.int .i64 r.1.ar)) := (((HB4.out.setCell (Nat.le_of_eq HZ.out) _).setCell (Nat.le_of_eq HZ.out) _).setCell (Nat.le_of_eq HZ.out) _).setCell (Nat.le_of_eq HZ.out) _
                  have hne : wo.heap.size ≠ w.heap.size + 1 := by
                    rintro e
                    obtain ⟨cs, hcs⟩ := own_type HK4.out (g := w.heap.size + 1) rfl
                    rw [← e] at hcs
                    exact absurd (blk_type HX4.out hcs) (by decide)
                  exact ⟨⟨q + 1, _, by omega, by go_num, HB5, own_store HK4.out r.1 hm, (((HX4.out.far (p := ⟨w.heap.size + 1, m * 4, none⟩) hne _).far (p := ⟨w.heap.size + 1, m * 4 + 1, none⟩) hne _).far (p := ⟨w.heap.size + 1, m * 4 + 2, none⟩) hne _).far (p := ⟨w.heap.size + 1, m * 4 + 3, none⟩) hne _, by have := fillL_next HL4.out HI4.out i0' i1'; simpa using this⟩, by simp [intOf]; omega⟩
                · clear hb hk hbx hl hi'
                  by_cases hneg : i < 0
                  · go_wp2_with fail
                    go_ret
                    exact ⟨ret_bool (validIx_rows hg (fillR_dead HF.out HR.out (by simp [stepR, hok, hlen, fillL_dead HL4.out HI4.out (.inl hneg)]))).symm, hbw⟩
                  · go_wp2_with fail
                    go_ret
                    exact ⟨ret_bool (validIx_rows hg (fillR_dead HF.out HR.out (by simp [stepR, hok, hlen, fillL_dead HL4.out HI4.out (.inr (by omega))]))).symm, hbw⟩
              · have HF4 := Lib.hid (fillR_next (ks2 := ks') HF.out HR.out (by simp [stepR, hok, hlen, fillL_all hl (by omega)]))
                have HB4 := Lib.hid hb
                have HK4 := Lib.hid hk
                clear hb hk hbx hl hbw
                go_wp2_with fail
                exact ⟨⟨j + 1, _, by omega, by go_num, HB4.out, HK4.out, HF4.out⟩, by simp [intOf]; omega⟩
          · go_wp2_with fail
            go_ret
            exact ⟨ret_bool (validIx_rows hg (fillR_dead HF.out HR.out (by simp [stepR, hlen]))).symm, bNext hWb HB3.out⟩
      · have HF := Lib.hid (fillR_all hf (by omega))
        have d2 : wr.cell? ⟨w.heap.size, 2, none⟩ = some (.slice A2 x.rest.length c2) := by rw [(hbox.below hb hbox.lt).cell]; rfl
        have HB := Lib.hid hb
        have HK := Lib.hid hk
        clear hf hb hk
        go_wp2_with fail
        obtain ⟨wo, rfl⟩ : ∃ wo : World, wo = wr := ⟨_, rfl⟩
        go_loopw [10, 74] (fun _ i wi => ∃ q ks', q ≤ x.rest.length ∧ i = .int .i64 ((q : Nat) : Int) ∧ Below W.heap.size W wi ∧
          wi.ownsRow (w.heap.size + 1) 35 4 (.slice (some ⟨w.heap.size + 1, 0, none⟩) x.all.length x.all.length) x.all.length (keyCs ks') ∧
          fillL x.all.length zeroK (x.rest.take q) ks = some ks') (fun _ i _ => x.rest.length - (intOf i).toNat)
        case atStart => exact ⟨0, _, by omega, rfl, HB.out, HK.out, rfl⟩
        case round =>
          obtain ⟨q, ks', hq, rfl, hb, hk, hl⟩ := hrel
          clear d2
          have hbw2 : Below w.heap.size w wr := bNext hWb hb
          have hll : ks'.length = x.all.length := by have := hk.1; rw [keyCs_len] at this; omega
          by_cases hqt : q < x.rest.length
          · obtain ⟨b', off', i, rfl, hB', hi', hc'⟩ := (ha2.below hbw2).at hqt
            have zb' : b' < wr.heap.size := by have := hbw2.size; omega
            have HB4 := Lib.hid hb
            have HK4 := Lib.hid hk
            have HL4 := Lib.hid hl
            have HI4 := Lib.hid hi'
            by_cases hin : 0 ≤ i ∧ i < x.all.length
            · obtain ⟨i0', i1'⟩ := hin
              obtain ⟨m, rfl⟩ := Int.eq_ofNat_of_zero_le i0'
              have hm : m < x.all.length := by omega
              obtain ⟨y0, y1, y2, y3⟩ := keyCs_at (List.getElem?_eq_getElem (by omega : m < ks'.length))
              have c0' := (hk.cellAt (m * 4) (by omega)).trans y0
              have c1' := (hk.cellAt (m * 4 + 1) (by omega)).trans y1
              have c2' := (hk.cellAt (m * 4 + 2) (by omega)).trans y2
              have c3' := (hk.cellAt (m * 4 + 3) (by omega)).trans y3
              have f0' := hk.frozenAt (m * 4)
              have f1' := hk.frozenAt (m * 4 + 1)
              have f2' := hk.frozenAt (m * 4 + 2)
              have f3' := hk.frozenAt (m * 4 + 3)
              clear hb hk hl hi' y0 y1 y2 y3 hbw2
              go_wp2_with fail
              have HB5 : Below W.heap.size W ((((wr.setCell ⟨w.heap.size + 1, m * 4, none⟩ (.int .i64 0)).setCell ⟨w.heap.size + 1, m * 4 + 1, none⟩ (.int .i64 0)).setCell ⟨w.heap.size + 1, m * 4 + 2, none⟩ (.string .empty)).setCell ⟨w.heap.size + 1, m * 4 + 3, none⟩ (.int .i64 0)) := (((HB4.out.setCell (Nat.le_of_eq HZ.out) _).setCell (Nat.le_of_eq HZ.out) _).setCell (Nat.le_of_eq HZ.out) _).setCell (Nat.le_of_eq HZ.out) _
              exact ⟨⟨q + 1, _, by omega, by go_num, HB5, own_store HK4.out zeroK hm, by have := fillL_next HL4.out HI4.out i0' i1'; simpa using this⟩, by simp [intOf]; omega⟩
            · clear hb hk hl hi'
              by_cases hneg : i < 0
              · go_wp2_with fail
                go_ret
                exact ⟨ret_bool (validIx_rest hg HF.out (fillL_dead HL4.out HI4.out (.inl hneg))).symm, hbw2⟩
              · go_wp2_with fail
                go_ret
                exact ⟨ret_bool (validIx_rest hg HF.out (fillL_dead HL4.out HI4.out (.inr (by omega)))).symm, hbw2⟩
          · have HL4 := Lib.hid (fillL_all hl (by omega))
            have hbx := hbox.below hb hbox.lt
            have b0 : wr.cell? ⟨w.heap.size, 0, none⟩ = some (.slice A0 x.all.length c0) := by rw [hbx.cell]; rfl
            have b1 : wr.cell? ⟨w.heap.size, 1, none⟩ = some (.slice A1 x.rows.length c1) := by rw [hbx.cell]; rfl
            have b2 : wr.cell? ⟨w.heap.size, 2, none⟩ = some (.slice A2 x.rest.length c2) := by rw [hbx.cell]; rfl
            have hx : IxAt w w.heap.size (.agg #[.slice A0 x.all.length c0, .slice A1 x.rows.length c1, .slice A2 x.rest.length c2]) x := ⟨A0, c0, A1, c1, A2, c2, rfl, ha0, ha1, ha2⟩
            have HX4 := Lib.hid ((hx.below hbw2).more hbw2.size)
            have HKS : Hid (KeysAt wr wr.heap.size (some ⟨w.heap.size + 1, 0, none⟩) x.all.length ks') := by
              obtain ⟨A, c, e, h⟩ := own_keys hk (by omega)
              simp only [Value.slice.injEq] at e
              obtain ⟨rfl, -, rfl⟩ := e
              exact Lib.hid h
            have HBW := Lib.hid hbw2
            have zz : w.heap.size < wr.heap.size := hbx.lt
            clear hb hk hl hbw2 hbx hx
            go_wp2_with fail
            refine wp_region_N (fun w' => w'.cell? ⟨w.heap.size, 0, none⟩ = some (.slice A0 x.all.length c0) ∧ w'.cell? ⟨w.heap.size, 1, none⟩ = some (.slice A1 x.rows.length c1) ∧ w'.cell? ⟨w.heap.size, 2, none⟩ = some (.slice A2 x.rest.length c2)) (fun i => true) (by kernel_rfl) ?_
            have hS0 : (fun w' => w'.cell? ⟨w.heap.size, 0, none⟩ = some (.slice A0 x.all.length c0) ∧ w'.cell? ⟨w.heap.size, 1, none⟩ = some (.slice A1 x.rows.length c1) ∧ w'.cell? ⟨w.heap.size, 2, none⟩ = some (.slice A2 x.rest.length c2)) wr.drew := ⟨b0, b1, b2⟩
            refine wpAnyN_take (i := 0) (v := ?v1) rfl (by kernel_rfl) (by kernel_rfl) (by kernel_rfl) (by kernel_rfl) (fun _ _ _ h => h) (Or.inl ⟨by rfl, ?hy1⟩) (by assumption) ?_
            case hy1 => intro w hSw; (try dsimp only at hSw); go_simp; try with_reducible rfl
            simp only [Act.put, List.getElem_toArray, List.getElem_cons_zero, List.setIfInBounds_toArray, List.set_cons_zero, List.set_cons_succ]
            refine wpAnyN_take (i := 1) (v := ?v2) rfl (by kernel_rfl) (by kernel_rfl) (by kernel_rfl) (by kernel_rfl) (fun _ _ _ h => h) (Or.inl ⟨by rfl, ?hy2⟩) (by assumption) ?_
            case hy2 => intro w hSw; (try dsimp only at hSw); go_simp; try with_reducible rfl
            simp only [Act.put, List.getElem_toArray, List.getElem_cons_zero, List.getElem_cons_succ, List.setIfInBounds_toArray, List.set_cons_zero, List.set_cons_succ]
            refine wpAnyN_one (i := 2) (by kernel_rfl) rfl (fun K hK => ?_)
            simp only [List.getElem_toArray, List.getElem_cons_zero, List.getElem_cons_succ]
            go_simp
            have hn : ks'.length = x.all.length := hll
            refine (build_any _ x.all.length _ ks' _ (by omega) (by exact HKS.out)).mono ?_
            rintro e w4 ⟨⟨v, rfl, hv⟩, hb4⟩
            replace hb4 : Below wr.heap.size wr w4 := (bDrewN (Below.refl wr.heap.size wr) 1).trans hb4
            have hS4 : (fun w' => w'.cell? ⟨w.heap.size, 0, none⟩ = some (.slice A0 x.all.length c0) ∧ w'.cell? ⟨w.heap.size, 1, none⟩ = some (.slice A1 x.rows.length c1) ∧ w'.cell? ⟨w.heap.size, 2, none⟩ = some (.slice A2 x.rest.length c2)) w4 := ⟨(hb4.cell zz).trans b0, (hb4.cell zz).trans b1, (hb4.cell zz).trans b2⟩
            refine hK _ _ (fun _ => hS4) ?_
            refine wpAnyN_one (i := 3) (by kernel_rfl) rfl (fun K hK => ?_)
            simp only [List.getElem_toArray, List.getElem_cons_zero, List.getElem_cons_succ]
            go_simp
            refine (same37_any _ _ x _ _ (by exact ((HX4.out.below hb4).more hb4.size)) hv).mono ?_
            rintro e w5 ⟨rfl, hb5⟩
            have hS5 : (fun w' => w'.cell? ⟨w.heap.size, 0, none⟩ = some (.slice A0 x.all.length c0) ∧ w'.cell? ⟨w.heap.size, 1, none⟩ = some (.slice A1 x.rows.length c1) ∧ w'.cell? ⟨w.heap.size, 2, none⟩ = some (.slice A2 x.rest.length c2)) w5 := ⟨(hb5.cell (Nat.lt_of_lt_of_le zz hb4.size)).trans hS4.1, (hb5.cell (Nat.lt_of_lt_of_le zz hb4.size)).trans hS4.2.1, (hb5.cell (Nat.lt_of_lt_of_le zz hb4.size)).trans hS4.2.2⟩
            refine hK _ _ (fun _ => hS5) ?_
            refine wpAnyN_one (i := 4) (by kernel_rfl) rfl (fun K hK => ?_)
            simp only [List.getElem_toArray, List.getElem_cons_zero, List.getElem_cons_succ]
            go_simp
            refine hK _ _ (fun _ => hS5) ?_
            refine wpAnyN_done (by kernel_rfl) ?_ _
            go_wp2_with fail
            go_ret
            refine ⟨ret_bool ?_, bNext HBW.out (hb4.trans (hb5.mono hb4.size))⟩
            rw [validIx_same hg HF.out HL4.out]; unfold ixOf; rw [hn]
end Go.Proofs.Ytpkpdjekoghkcaa
