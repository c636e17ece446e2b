/-
  The walk of RegsRest.
-/
import Derived.Test.YteffpeokialeiaaCb
import Derived.Test.YteffpeokialeiaaCf
import Derived.Outline
namespace Go.Proofs.Yteffpeokialeiaa
open Go.RowKit

theorem nm_high {l : List In} {base y : Int} (h : base < y) : base < nm (tsOf l base) y := by
  have hn : ∀ t ∈ tsOf l base, base < t.n := numFrom_gt (segOf l) 0 [] (fun t ht => by cases ht)
  unfold nm num?
  cases hf : (tsOf l base).find? (fun t => t.x == y) with
  | none => exact h
  | some t => exact hn t (List.mem_of_find?_eq_some hf)
theorem nm_low {l : List In} {base y : Int} (h : y ≤ base) : nm (tsOf l base) y = y := by
  have ha : ∀ t ∈ tsOf l base, base < t.x := by
    obtain ⟨ex, h1, h2⟩ := numFrom_ext (laOf l base) base (segOf l) 0 []
    unfold tsOf; rw [h1]
    intro t ht
    exact (h2 t (by simpa using ht)).2.1
  unfold nm
  rw [num_low ha h]; rfl
theorem box2 (w : World) (o : Obj) (y : In) : BoxI ((w.alloc o).alloc (.cells #[.int .i64 y.op, .int .i64 y.r, .int .i64 y.a, .int .i64 y.n, .string y.nm, .int .i64 y.ar] 23)) (w.heap.size + 1) y := by
  have := BoxI.new (w.alloc o) y
  rw [show (w.alloc o).heap.size = w.heap.size + 1 by simp] at this
  exact this
theorem two_below {w w1 : World} (h : Below w.heap.size w w1) (o o' : Obj) : Below w.heap.size w ((w1.alloc o).alloc o') := (h.alloc h.size o).alloc (by have := h.size; simp; omega) o'
set_option maxRecDepth 100000 in
set_option maxHeartbeats 1000000 in
theorem law_rest (A : Option Addr) (n c : Nat) (l : List In) (base : Int) (w : World) (ha : InsAt w w.heap.size A n l) (_hbr : -9223372036854775808 ≤ base ∧ base ≤ 9223372036854775807) :
    Calls Try.prog 6 #[.slice A n c, .int .i64 base] w fun e w' => e = .returned (.bool true) ∧ Below w.heap.size w w' := by
  have HA := Lib.hid ha
  have hn2 := ha.1.2
  clear ha
  by_cases hn : n ≤ 60
  · have d0 : decide ((60 : Int) < (n : Int)) = false := by simp; omega
    go_enter Try.func6, Try.ntmps6
    go_wp2_with fail
    refine (assign_any A n c l base w HA.out hn).mono ?_
    cases hv : validP l base with
    | false =>
      rintro e w1 ⟨v, rfl, ho⟩
      have HB := Lib.hid ho.2
      rw [show errP l base = 1 by unfold errP; rw [hv]; rfl]
      have ha0 : assignP l base = [] := by unfold assignP; rw [hv]; rfl
      rw [ha0] at ho
      obtain ⟨A3, c3, rfl, _⟩ := own_form ho.1
      clear hv ho ha0
      simp only [List.length_nil]
      go_wp2_with fail
      refine (awake_any _).mono ?_
      rintro e w2 ⟨rfl, hb2⟩
      have HB2 := Lib.hid (bNext HB.out hb2)
      clear hb2
      go_wp2_with fail
      go_ret
      exact ⟨rfl, HB2.out⟩
    | true =>
      have hln := HA.out.len
      have hll : (assignP l base).length = n := by rw [assign_len hv, hln]
      have HV := Lib.hid hv
      rintro e w1 ⟨v, rfl, ho⟩
      obtain ⟨A1, c1, rfl, hi1⟩ := ho.form (by rw [hll]; omega)
      rw [hll] at hi1 ⊢
      rw [show errP l base = 0 by unfold errP; rw [hv]; rfl]
      have HI1 := Lib.hid hi1
      have HB1 := Lib.hid ho.2
      have hz1 := ho.2.size
      have HLL := Lib.hid hll
      clear hv ho hi1 hll hln
      go_wp2_with fail
      go_loopw [7] (fun i wr => ∃ k : Nat, i = .int .i64 k ∧ k ≤ n ∧ Hid (Below w1.heap.size w1 wr)) (fun i _ => n - (intOf i).toNat)
      case atStart => exact ⟨0, rfl, Nat.zero_le _, Lib.hid (Below.refl _ _)⟩
      case round =>
        obtain ⟨k, rfl, hk, HR⟩ := hrel
        by_cases hlt : k < n
        · obtain ⟨b, off, x, rfl, hbb, hx, hcs⟩ := HA.out.at hlt
          obtain ⟨b', off', y, rfl, hbb', hy, hcs'⟩ := HI1.out.at hlt
          obtain ⟨q0, q1, q2, q3, q4, q5⟩ := hcs.below hbb (HB1.out.trans (HR.out.mono hz1))
          obtain ⟨r0, r1, r2, r3, r4, r5⟩ := hcs'.below hbb' HR.out
          have hbz : b < wr.heap.size := by have := HR.out.size; omega
          have hbz' : b' < wr.heap.size := by have := HR.out.size; omega
          have hxy : y = renT (tsOf l base) x := by
            have h1 : assignP l base = l.map (renT (tsOf l base)) := by unfold assignP; rw [if_pos HV.out, allocP_eq HV.out]
            rw [h1, List.getElem?_map, hx] at hy
            injection hy with hy; exact hy.symm
          have HXY := Lib.hid hxy
          clear hx hy hcs hcs' hxy
          go_upto_region 11 with (fail)
          go_cut [8, 9] from 39 to 46 (fun s8 s9 wx => ∃ p q, s8 = .pointer (some ⟨p, 0, none⟩) ∧ s9 = .pointer (some ⟨q, 0, none⟩) ∧ Hid (p ≠ q ∧ w1.heap.size ≤ p ∧ w1.heap.size ≤ q ∧ BoxI wx p x ∧ BoxI wx q y ∧ Below w1.heap.size w1 wx))
          case first =>
            have hz2 := HR.out.size
            go_region
            · go_wp2_with fail
              go_meet
              exact ⟨_, _, rfl, rfl, Lib.hid ⟨by omega, by omega, by omega, (BoxI.new wr x).alloc _, box2 wr _ y, bDrewN (two_below HR.out _ _) 1⟩⟩
            · go_wp2_with fail
              go_meet
              exact ⟨_, _, rfl, rfl, Lib.hid ⟨by omega, by omega, by omega, box2 wr _ x, (BoxI.new wr y).alloc _, bDrewN (two_below HR.out _ _) 1⟩⟩
          case rest =>
            obtain ⟨p, q, rfl, rfl, HC⟩ := hcut
            have hxr : y.r = nm (tsOf l base) x.r := by rw [HXY.out]; rfl
            have hxa : y.a = nm (tsOf l base) x.a := by rw [HXY.out]; rfl
            have hrest : y.op = x.op ∧ y.n = x.n ∧ y.nm = x.nm ∧ y.ar = x.ar := by rw [HXY.out]; exact ⟨rfl, rfl, rfl, rfl⟩
            obtain ⟨yop, yr, ya, yn, ynm, yar⟩ := y
            simp only at hxr hxa hrest
            obtain ⟨rfl, rfl, rfl, rfl⟩ := hrest
            obtain ⟨hpq, hp1, hp2, hbp, hbq, hbl⟩ := HC.out
            obtain ⟨i0, i1, i2, i3, i4, i5⟩ := BoxI.cells hbp
            obtain ⟨j0, j1, j2, j3, j4, j5⟩ := BoxI.cells hbq
            obtain ⟨f0, f1, f2, f3, f4, f5⟩ := BoxI.open_ hbq
            clear q0 q1 q2 q3 q4 q5 r0 r1 r2 r3 r4 r5
            have hR : (base < x.r ∧ base < yr) ∨ (¬ base < x.r ∧ yr = x.r) := by
              by_cases h : base < x.r
              · exact .inl ⟨h, by rw [hxr]; exact nm_high h⟩
              · exact .inr ⟨h, by rw [hxr]; exact nm_low (by omega)⟩
            have hA : (base < x.a ∧ base < ya) ∨ (¬ base < x.a ∧ ya = x.a) := by
              by_cases h : base < x.a
              · exact .inl ⟨h, by rw [hxa]; exact nm_high h⟩
              · exact .inr ⟨h, by rw [hxa]; exact nm_low (by omega)⟩
            have hpq1 : ¬ p = q := hpq
            have hpq2 : ¬ q = p := fun e => hpq e.symm
            have HBL := Lib.hid hbl
            have HZP := Lib.hid hp2
            clear hxr hxa HXY HC hbp hbq hbl hpq hp1 hp2
            rcases hR with ⟨a1, a2⟩ | ⟨a1, rfl⟩
            · have e1 : decide (base < x.r) = true := by simpa using a1
              have e2 : decide (base < yr) = true := by simpa using a2
              have e3 : decide (x.r ≤ base) = false := by simp; omega
              rcases hA with ⟨b1, b2⟩ | ⟨b1, rfl⟩
              · have g1 : decide (base < x.a) = true := by simpa using b1
                have g2 : decide (base < ya) = true := by simpa using b2
                have g3 : decide (x.a ≤ base) = false := by simp; omega
                clear a1 a2 b1 b2
                go_wp2_with fail
                go_region
                go_wp2_with fail
                exact ⟨⟨k + 1, by go_num, by omega, Lib.hid (bDrewN ((HBL.out.setCell HZP.out _).setCell HZP.out _) 1)⟩, by simp [intOf]; omega⟩
              · have g1 : decide (base < x.a) = false := by simpa using b1
                clear a1 a2
                go_wp2_with fail
                go_region
                go_wp2_with fail
                exact ⟨⟨k + 1, by go_num, by omega, Lib.hid (bDrewN ((HBL.out.setCell HZP.out _).setCell HZP.out _) 1)⟩, by simp [intOf]; omega⟩
            · have e1 : decide (base < x.r) = false := by simpa using a1
              rcases hA with ⟨b1, b2⟩ | ⟨b1, rfl⟩
              · have g1 : decide (base < x.a) = true := by simpa using b1
                have g2 : decide (base < ya) = true := by simpa using b2
                have g3 : decide (x.a ≤ base) = false := by simp; omega
                clear b1 b2
                go_wp2_with fail
                go_region
                go_wp2_with fail
                exact ⟨⟨k + 1, by go_num, by omega, Lib.hid (bDrewN ((HBL.out.setCell HZP.out _).setCell HZP.out _) 1)⟩, by simp [intOf]; omega⟩
              · have g1 : decide (base < x.a) = false := by simpa using b1
                go_wp2_with fail
                go_region
                go_wp2_with fail
                exact ⟨⟨k + 1, by go_num, by omega, Lib.hid (bDrewN ((HBL.out.setCell HZP.out _).setCell HZP.out _) 1)⟩, by simp [intOf]; omega⟩
        · go_wp2_with fail
          refine (awake_any _).mono ?_
          rintro e w2 ⟨rfl, hb2⟩
          have HB2 := Lib.hid (HB1.out.trans ((bNext HR.out hb2).mono hz1))
          clear hb2
          go_wp2_with fail
          go_ret
          exact ⟨rfl, HB2.out⟩
  · have d0 : decide ((60 : Int) < (n : Int)) = true := by simp; omega
    go_enter Try.func6, Try.ntmps6
    go_wp2_with fail
    refine (awake_any _).mono ?_
    rintro e w2 ⟨rfl, hb2⟩
    have HB2 := Lib.hid hb2
    clear hb2
    go_wp2_with fail
    go_ret
    exact ⟨rfl, HB2.out⟩
end Go.Proofs.Yteffpeokialeiaa
