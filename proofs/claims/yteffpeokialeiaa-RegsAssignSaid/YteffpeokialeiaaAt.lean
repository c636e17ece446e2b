/-
  Walks: regs.valid.
-/
import Derived.Test.YteffpeokialeiaaAq
import Derived.Test.YteffpeokialeiaaAr
import Derived.Test.YteffpeokialeiaaAs
import Derived.Deep.DeepCutAuto
import Derived.Outline
namespace Go.Proofs.Yteffpeokialeiaa
open Go.RowKit

theorem ICells.box {w w' : World} {b o : Nat} {x : In} (h : ICells w b o x) (hc : ∀ j, w'.cell? ⟨b, j, none⟩ = w.cell? ⟨b, j, none⟩) : ICells w' b o x :=
  ⟨(hc _).trans h.1, (hc _).trans h.2.1, (hc _).trans h.2.2.1, (hc _).trans h.2.2.2.1, (hc _).trans h.2.2.2.2.1, (hc _).trans h.2.2.2.2.2⟩
/-- where the walk of valid stands -/
def VaAt (w0 wr : World) (g : Nat) (s : List Int) : Prop := MapI wr g (seenF s) ∧ w0.heap.size ≤ g ∧ Below w0.heap.size w0 wr
theorem VaAt.later {w0 wr w2 : World} {g : Nat} {s : List Int} (h : VaAt w0 wr g s) (hb : Below wr.heap.size wr w2) : VaAt w0 w2 g s := ⟨h.1.next hb, h.2.1, bNext h.2.2 hb⟩
theorem VaAt.alloc {w0 wr : World} {g : Nat} {s : List Int} (h : VaAt w0 wr g s) (o : Obj) : VaAt w0 (wr.alloc o) g s := h.later (bAlloc _ _)
theorem VaAt.start (w : World) : VaAt w (w.alloc (.map #[] 0)) w.heap.size [] := ⟨MapI.new w, Nat.le_refl _, bAlloc _ _⟩

set_option maxRecDepth 100000 in
set_option maxHeartbeats 1000000 in
theorem valid_any (A : Option Addr) (n c : Nat) (l : List In) (base : Int) (w : World) (ha : InsAt w w.heap.size A n l) (hn : n ≤ 60) :
    Calls Try.prog 28 #[.slice A n c, .int .i64 base] w fun e w' => e = .returned (.bool (validP l base)) ∧ Below w.heap.size w w' := by
  have HA := Lib.hid ha
  clear ha
  have hmm := @run_makeMap Try.prog
  by_cases hb : 0 ≤ base ∧ base ≤ 4096
  · obtain ⟨hb0, hb1⟩ := hb
    have HV : Hid (validP l base = vl base l []) := Lib.hid (by unfold validP; simp [hb0, hb1])
    have d0 : decide (base < 0) = false := by simp; omega
    have d1 : decide (4096 < base) = false := by simp; omega
    have d2 : decide ((131072 : Int) < (n : Int)) = false := by simp; omega
    go_enter Try.func28, Try.ntmps28
    go_wp2_with fail
    go_loopw [26] (fun i wr => ∃ k : Nat, i = .int .i64 k ∧ k ≤ n ∧ Hid (VaAt w wr w.heap.size (seenOf (l.take k))) ∧ Hid (vl base l [] = vl base (l.drop k) (seenOf (l.take k)))) (fun i _ => n - (intOf i).toNat)
    case atStart => exact ⟨0, rfl, Nat.zero_le _, Lib.hid (VaAt.start w), Lib.hid (by simp [seenOf])⟩
    case round =>
      obtain ⟨k, rfl, hk, HR, HD⟩ := hrel
      by_cases hlt : k < n
      · obtain ⟨b, off, x, rfl, hbb, hx, hcs⟩ := HA.out.at hlt
        have hx6 := hcs.below hbb HR.out.2.2
        obtain ⟨q0, q1, q2, q3, q4, q5⟩ := hx6
        have hsn := seen_snoc hx
        have hdr := vl_drop base l (seenOf (l.take k)) k x hx
        have HX := Lib.hid (And.intro hx (And.intro hsn hdr))
        have hbz : b < wr.heap.size := by have := HR.out.2.2.size; omega
        clear hx hsn hdr hcs
        generalize seenOf (l.take k) = sn at HR HD HX
        go_upto_region 7 with (fail)
        have HB0 := Lib.hid (BoxI.new wr x)
        have HR0 := Lib.hid (HR.out.alloc (.cells #[.int .i64 x.op, .int .i64 x.r, .int .i64 x.a, .int .i64 x.n, .string x.nm, .int .i64 x.ar] 23))
        generalize hg1 : wr.alloc (.cells #[.int .i64 x.op, .int .i64 x.r, .int .i64 x.a, .int .i64 x.n, .string x.nm, .int .i64 x.ar] 23) = w1 at HB0 HR0 ⊢
        clear q0 q1 q2 q3 q4 q5 hg1
        go_cut [48] from 29 to 48 (fun s48 wx => s48 = .bool (badB x base) ∧ Hid (VaAt w wx w.heap.size sn) ∧ Hid (BoxI wx wr.heap.size x))
        case first =>
          obtain ⟨q0, q1, q2, q3, q4, q5⟩ := BoxI.cells HB0.out
          go_wp2_with fail
          refine (rformed_any x _).mono ?_
          rintro e w2 ⟨rfl, hb2⟩
          have HR2 := Lib.hid (HR0.out.later hb2)
          have HB2 := Lib.hid (HB0.out.next hb2)
          clear hb2 q0 q1 q2 q3 q4 q5
          obtain ⟨q0, q1, q2, q3, q4, q5⟩ := BoxI.cells HB2.out
          go_wp2_with fail
          all_goals go_meet
          all_goals refine ⟨congrArg Value.bool ?_, HR2, HB2⟩
          all_goals first | (simp [badB, *]; done) | (simp [badB, *]; omega)
        case rest =>
          obtain ⟨rfl, HR2, HB2⟩ := hcut
          cases hbad : badB x base with
          | true =>
            have HE : Hid (validP l base = false) := Lib.hid (by rw [HV.out, HD.out, HX.out.2.2, hbad]; rfl)
            clear hbad
            go_wp2_with fail
            go_ret
            exact ⟨ret_bool HE.out.symm, HR2.out.2.2⟩
          | false =>
            have HBD := Lib.hid hbad
            clear hbad
            obtain ⟨q0, q1, q2, q3, q4, q5⟩ := BoxI.cells HB2.out
            go_wp2_with fail
            refine (reads_any x _).mono ?_
            rintro e w3 ⟨v, rfl, ho⟩
            obtain ⟨A3, c3, rfl, _⟩ := own_form ho.1
            have HI3 := Lib.hid (own_ints ho.1 (by have := rd_len x; omega))
            have HR3 := Lib.hid (HR2.out.later ho.2)
            have HB3 := Lib.hid (HB2.out.next ho.2)
            have hlen := rd_len x
            clear ho q0 q1 q2 q3 q4 q5
            go_wp2_with fail
            go_loop [52] (fun i => ∃ j : Nat, i = .int .i64 j ∧ j ≤ (rdOf x).length ∧ Hid (∀ (j' : Nat) z, j' < j → (rdOf x)[j']? = some z → (decide (base < z) && !sn.contains z) = false)) (fun i => (rdOf x).length - (intOf i).toNat)
            case atStart => exact ⟨0, rfl, Nat.zero_le _, Lib.hid fun j z h => absurd h (by omega)⟩
            case round =>
              obtain ⟨j, rfl, hj, HP⟩ := hrel
              by_cases hjl : j < (rdOf x).length
              · obtain ⟨b3, off3, z, rfl, hb3, hz, hcz⟩ := HI3.out.at hjl
                have HZ := Lib.hid hz
                have hlk := HR3.out.1.lookB z
                rw [seenF_get] at hlk
                clear hz
                have hnext : (decide (base < z) && !sn.contains z) = false → ∀ (j' : Nat) y, j' < j + 1 → (rdOf x)[j']? = some y → (decide (base < y) && !sn.contains y) = false := fun hf j' y hj' hy => by
                  rcases Nat.lt_or_ge j' j with h | h
                  · exact HP.out j' y h hy
                  · rw [show j' = j by omega, HZ.out] at hy
                    injection hy with hy
                    rw [← hy]; exact hf
                have HN := Lib.hid hnext
                clear hnext
                by_cases hbz : base < z
                · cases hcon : sn.contains z with
                  | true =>
                    have HC := Lib.hid hcon
                    rw [hcon] at hlk
                    clear hcon
                    go_wp2_with fail
                    exact ⟨⟨j + 1, by go_num, by omega, Lib.hid (HN.out (by rw [HC.out]; simp))⟩, by simp [intOf]; omega⟩
                  | false =>
                    have HE : Hid (validP l base = false) := Lib.hid (by
                      rw [HV.out, HD.out, HX.out.2.2, HBD.out]
                      have : readB x base sn = false := by
                        unfold readB
                        rw [List.all_eq_false]
                        exact ⟨z, List.mem_of_getElem? HZ.out, by rw [hcon]; simp [hbz]⟩
                      rw [this]; rfl)
                    rw [hcon] at hlk
                    clear hcon
                    go_wp2_with fail
                    go_ret
                    exact ⟨ret_bool HE.out.symm, HR3.out.2.2⟩
                · have hd3 : decide (base < z) = false := by simpa using hbz
                  have HC := Lib.hid hd3
                  clear hbz
                  go_wp2_with fail
                  exact ⟨⟨j + 1, by go_num, by omega, Lib.hid (HN.out (by rw [HC.out]; rfl))⟩, by simp [intOf]; omega⟩
              · have HRB : Hid (readB x base sn = true) := Lib.hid (by
                  unfold readB
                  rw [List.all_eq_true]
                  intro z hz
                  obtain ⟨j', hj'⟩ := List.mem_iff_getElem?.1 hz
                  rw [HP.out j' z (by have := (List.getElem?_eq_some_iff.1 hj').1; omega) hj']; rfl)
                obtain ⟨q0, q1, q2, q3, q4, q5⟩ := BoxI.cells HB3.out
                go_wp2_with fail
                refine (writes_any x _).mono ?_
                rintro e w4 ⟨v, rfl, ho⟩
                obtain ⟨A4, c4, rfl, _⟩ := own_form ho.1
                have HO4 := Lib.hid ho.1
                have HR4 := Lib.hid (HR3.out.later ho.2)
                have hlen4 := wr_len x
                have hg3 := HR3.out.1.lt
                clear ho q0 q1 q2 q3 q4 q5
                go_wp2_with fail
                go_loopw [69] (fun i wj => ∃ j : Nat, i = .int .i64 j ∧ j ≤ (wrOf x).length ∧ Hid (VaAt w wj w.heap.size (sn ++ (wrOf x).take j)) ∧ Hid (wj.ownsRow w3.heap.size 3 1 (.slice A4 (wrOf x).length c4) (wrOf x).length (iCs (wrOf x)))) (fun i _ => (wrOf x).length - (intOf i).toNat)
                case atStart => exact ⟨0, rfl, Nat.zero_le _, by simpa using HR4, HO4⟩
                case round =>
                  obtain ⟨j, rfl, hj, HJ, HO⟩ := hrel
                  by_cases hjl : j < (wrOf x).length
                  · obtain ⟨b4, off4, z, rfl, hb4, hz, hcz⟩ := (own_ints HO.out (by omega)).at hjl
                    have HZ := Lib.hid hz
                    obtain ⟨w5, hrun, hM, hg5, hz5⟩ := HJ.out.1.update under57 z (.bool true)
                    have HJ5 : Hid (VaAt w w5 w.heap.size (sn ++ (wrOf x).take (j + 1))) := Lib.hid ⟨hM.congr fun y => by
                      rw [seenF_snoc, List.append_assoc, List.take_add_one, HZ.out]; rfl, Nat.le_refl _, HJ.out.2.2.grown hg5 (by have := HJ.out.2.2.size; omega) (fun g e => by injection e with e; omega)⟩
                    have HO5 := Lib.hid (own_stay HO.out fun g e => hg5.block g (own_lt HO.out e).2 (by have := (own_lt HO.out e).1; intro e2; injection e2 with e2; omega))
                    clear hz hM hg5 hz5
                    go_wp2_with fail
                    exact ⟨⟨j + 1, by go_num, by omega, HJ5, HO5⟩, by simp [intOf]; omega⟩
                  · have HJ2 : Hid (VaAt w wr w.heap.size (sn ++ wrOf x)) := by
                      have := HJ.out
                      rw [List.take_of_length_le (by omega)] at this
                      exact Lib.hid this
                    go_wp2_with fail
                    exact ⟨⟨k + 1, by go_num, by omega, by rw [HX.out.2.1]; exact HJ2, Lib.hid (by rw [HD.out, HX.out.2.2, HBD.out, HRB.out, HX.out.2.1]; rfl)⟩, by simp [intOf]; omega⟩
      · have HE : Hid (validP l base = true) := Lib.hid (by rw [HV.out, HD.out, List.drop_of_length_le (by have := HA.out.len; omega)]; rfl)
        go_wp2_with fail
        go_ret
        exact ⟨ret_bool HE.out.symm, HR.out.2.2⟩
  · have HE : Hid (validP l base = false) := Lib.hid (by
      unfold validP
      rcases (by omega : base < 0 ∨ 4096 < base) with h | h
      · rw [show decide (0 ≤ base) = false by simpa using h]; rfl
      · rw [show decide (base ≤ 4096) = false by simpa using h, Bool.and_false]; rfl)
    rcases (by omega : base < 0 ∨ 0 ≤ base ∧ 4096 < base) with h | ⟨h, h'⟩
    all_goals
      clear hb
      go_enter Try.func28, Try.ntmps28
      go_wp2_with fail
      go_ret
      exact ⟨ret_bool HE.out.symm, Below.refl _ _⟩
end Go.Proofs.Yteffpeokialeiaa
