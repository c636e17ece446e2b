/-
  Walks: the reference counts and replaces a variable.
-/
import Derived.Test.YtcagaaacfcpoeaaCs
import Derived.Deep.RegionHeld3
import Derived.Deep.AppendLies
namespace Go.Proofs.Ytcagaaacfcpoeaa
open Go.RowKit

theorem occ_le (v : Int) : ∀ t, occT v t ≤ cnt t := Tm.ind fun k n s a ih => by
  have hgo : ∀ (a : List Tm), (∀ x ∈ a, occT v x ≤ cnt x) → occT.go v a ≤ cnt.go a := fun a => by
    induction a with
    | nil => intro _; exact Nat.le_refl _
    | cons x r ihr =>
      intro h
      simp only [occT.go, cnt.go]
      have h1 := h x (by simp)
      have h2 := ihr (fun y hy => h y (by simp [hy]))
      omega
  rw [occT_mk, cnt_mk]
  have := hgo a ih
  split <;> omega
theorem occ_go_append (v : Int) (a b : List Tm) : occT.go v (a ++ b) = occT.go v a + occT.go v b := by
  induction a with
  | nil => simp [occT.go]
  | cons x r ih => simp [occT.go, ih]; omega
theorem occ_next {v : Int} {l : List Tm} {i : Nat} {x : Tm} (h : l[i]? = some x) : occT.go v (l.take (i + 1)) = occT.go v (l.take i) + occT v x := by
  rw [List.take_add_one, h]
  simp [occ_go_append, occT.go]
theorem occ_eq (v : Int) (t : Tm) : occT v t = (if t.kind = 0 ∧ t.n = v then 1 else 0) + occT.go v t.args := by
  cases t; rfl
theorem occ_take (v : Int) (l : List Tm) (k : Nat) : occT.go v (l.take k) ≤ occT.go v l := by
  have := occ_go_append v (l.take k) (l.drop k)
  rw [List.take_append_drop] at this
  omega
set_option maxHeartbeats 1000000 in
theorem occ27_any (v : Int) (N : Nat) : ∀ (t : Tm), cnt t < N → cnt t ≤ 4000 → ∀ (A : Option Addr) (c : Nat) (w : World), ArgsAt w (Old w.heap.size) A t.args →
    Calls Try.prog 27 #[t.v A c, .int .i64 v] w fun e w' => e = .returned (.int .i64 (occT v t : Int)) ∧ Below w.heap.size w w' := by
  induction N with
  | zero => intro t h; omega
  | succ N ih =>
    intro t hN h4 A c w ha
    have hlen := args_le t
    have HA := Lib.hid ha
    have HOC := Lib.hid (occ_eq v t)
    have HLE := Lib.hid (occ_le v t)
    clear ha
    have HCUT : ∀ (k : Nat), k ≤ t.args.length → 2 + occT.go v (t.args.take k) ≤ 4002 := fun k _ => by
      have h1 := occ_take v t.args k
      have h2 := HOC.out
      have h3 := HLE.out
      omega
    have HCU := Lib.hid HCUT
    clear HCUT
    go_enter Try.func27, Try.ntmps27
    by_cases k0 : t.kind = 0
    · have q0 : (t.kind == 0) = true := by simpa using k0
      by_cases k1 : t.n = v
      · have HZ := Lib.hid (show (if t.kind = 0 ∧ t.n = v then 1 else 0) = 1 from if_pos ⟨k0, k1⟩)
        have q1 : (t.n == v) = true := by simpa using k1
        clear k0 k1
        go_wp2_with fail
        go_loopw [5, 6] (fun m i wr => ∃ k : Nat, k ≤ t.args.length ∧ i = .int .i64 k ∧ m = .int .i64 (((1 + occT.go v (t.args.take k) : Nat)) : Int) ∧ Below (w.heap.size + 1) (w.alloc (t.o A c)) wr) (fun _ i _ => t.args.length - (intOf i).toNat)
        case atStart => exact ⟨0, by omega, rfl, by simp [occT.go], Below.refl _ _⟩
        case round =>
          obtain ⟨k, hk, rfl, rfl, hb⟩ := hrel
          obtain ⟨p0, p1, p2, p3⟩ := tmBox hb
          have hbw := bBox hb
          obtain ⟨m, hm⟩ : ∃ m, 1 + occT.go v (t.args.take k) = m := ⟨_, rfl⟩
          rw [hm]
          have hm1 : m ≤ 4001 := by have := HCU.out k hk; omega
          have HM := Lib.hid hm
          have HB := Lib.hid hb
          have HW := Lib.hid hbw
          have hz := hbw.size
          clear hm hb hbw
          by_cases hlt : k < t.args.length
          · obtain ⟨b, off, x, A', c', rfl, hB, hx, hx4, hA'⟩ := HA.out.at hlt
            obtain ⟨q0, q1, q2, q3⟩ := hx4.below hB HW.out
            have HX := Lib.hid hx
            have HC := Lib.hid hA'
            have hBz : b < w.heap.size := hB
            clear hx hx4 hA' hB
            go_wp2_with fail
            refine (ih x (by have := Tm.lt_of_at HX.out; omega) (by have := Tm.lt_of_at HX.out; omega) A' c' _ ((HC.out.later HW.out).more hz)).mono ?_
            rintro e w2 ⟨rfl, hb2⟩
            have hn2 := occ_next (v := v) HX.out
            have hm2 := HM.out
            have hc2 := HCU.out (k + 1) (by omega)
            obtain ⟨d, hd⟩ : ∃ d, occT v x = d := ⟨_, rfl⟩
            rw [hd] at hn2 ⊢
            have hd1 : m + d ≤ 4001 := by omega
            have HE := Lib.hid (show 1 + occT.go v (t.args.take (k + 1)) = m + d by rw [hn2]; omega)
            have HB2 := Lib.hid (HB.out.trans (hb2.mono (by have := HB.out.size; simp at this; omega)))
            clear hn2 hm2 hd hb2 hc2
            go_wp2_with fail
            exact ⟨⟨k + 1, by omega, by go_num, by rw [HE.out]; simp, HB2.out⟩, by simp [intOf]; omega⟩
          · go_wp2_with fail
            go_ret
            refine ⟨ret_int ?_, HW.out⟩
            have h3 := HM.out
            rw [List.take_of_length_le (by omega)] at h3
            rw [HOC.out, HZ.out, h3]
      · have HZ := Lib.hid (show (if t.kind = 0 ∧ t.n = v then 1 else 0) = 0 from if_neg (fun h => k1 h.2))
        have q1 : (t.n == v) = false := by simpa using k1
        clear k0 k1
        go_wp2_with fail
        go_loopw [5, 6] (fun m i wr => ∃ k : Nat, k ≤ t.args.length ∧ i = .int .i64 k ∧ m = .int .i64 (((0 + occT.go v (t.args.take k) : Nat)) : Int) ∧ Below (w.heap.size + 1) (w.alloc (t.o A c)) wr) (fun _ i _ => t.args.length - (intOf i).toNat)
        case atStart => exact ⟨0, by omega, rfl, by simp [occT.go], Below.refl _ _⟩
        case round =>
          obtain ⟨k, hk, rfl, rfl, hb⟩ := hrel
          obtain ⟨p0, p1, p2, p3⟩ := tmBox hb
          have hbw := bBox hb
          obtain ⟨m, hm⟩ : ∃ m, 0 + occT.go v (t.args.take k) = m := ⟨_, rfl⟩
          rw [hm]
          have hm1 : m ≤ 4001 := by have := HCU.out k hk; omega
          have HM := Lib.hid hm
          have HB := Lib.hid hb
          have HW := Lib.hid hbw
          have hz := hbw.size
          clear hm hb hbw
          by_cases hlt : k < t.args.length
          · obtain ⟨b, off, x, A', c', rfl, hB, hx, hx4, hA'⟩ := HA.out.at hlt
            obtain ⟨q0, q1, q2, q3⟩ := hx4.below hB HW.out
            have HX := Lib.hid hx
            have HC := Lib.hid hA'
            have hBz : b < w.heap.size := hB
            clear hx hx4 hA' hB
            go_wp2_with fail
            refine (ih x (by have := Tm.lt_of_at HX.out; omega) (by have := Tm.lt_of_at HX.out; omega) A' c' _ ((HC.out.later HW.out).more hz)).mono ?_
            rintro e w2 ⟨rfl, hb2⟩
            have hn2 := occ_next (v := v) HX.out
            have hm2 := HM.out
            have hc2 := HCU.out (k + 1) (by omega)
            obtain ⟨d, hd⟩ : ∃ d, occT v x = d := ⟨_, rfl⟩
            rw [hd] at hn2 ⊢
            have hd1 : m + d ≤ 4001 := by omega
            have HE := Lib.hid (show 0 + occT.go v (t.args.take (k + 1)) = m + d by rw [hn2]; omega)
            have HB2 := Lib.hid (HB.out.trans (hb2.mono (by have := HB.out.size; simp at this; omega)))
            clear hn2 hm2 hd hb2 hc2
            go_wp2_with fail
            exact ⟨⟨k + 1, by omega, by go_num, by rw [HE.out]; simp, HB2.out⟩, by simp [intOf]; omega⟩
          · go_wp2_with fail
            go_ret
            refine ⟨ret_int ?_, HW.out⟩
            have h3 := HM.out
            rw [List.take_of_length_le (by omega)] at h3
            rw [HOC.out, HZ.out, h3]
    · have HZ := Lib.hid (show (if t.kind = 0 ∧ t.n = v then 1 else 0) = 0 from if_neg (fun h => k0 h.1))
      have q0 : (t.kind == 0) = false := by simpa using k0
      clear k0
      go_wp2_with fail
      go_loopw [5, 6] (fun m i wr => ∃ k : Nat, k ≤ t.args.length ∧ i = .int .i64 k ∧ m = .int .i64 (((0 + occT.go v (t.args.take k) : Nat)) : Int) ∧ Below (w.heap.size + 1) (w.alloc (t.o A c)) wr) (fun _ i _ => t.args.length - (intOf i).toNat)
      case atStart => exact ⟨0, by omega, rfl, by simp [occT.go], Below.refl _ _⟩
      case round =>
        obtain ⟨k, hk, rfl, rfl, hb⟩ := hrel
        obtain ⟨p0, p1, p2, p3⟩ := tmBox hb
        have hbw := bBox hb
        obtain ⟨m, hm⟩ : ∃ m, 0 + occT.go v (t.args.take k) = m := ⟨_, rfl⟩
        rw [hm]
        have hm1 : m ≤ 4001 := by have := HCU.out k hk; omega
        have HM := Lib.hid hm
        have HB := Lib.hid hb
        have HW := Lib.hid hbw
        have hz := hbw.size
        clear hm hb hbw
        by_cases hlt : k < t.args.length
        · obtain ⟨b, off, x, A', c', rfl, hB, hx, hx4, hA'⟩ := HA.out.at hlt
          obtain ⟨q0, q1, q2, q3⟩ := hx4.below hB HW.out
          have HX := Lib.hid hx
          have HC := Lib.hid hA'
          have hBz : b < w.heap.size := hB
          clear hx hx4 hA' hB
          go_wp2_with fail
          refine (ih x (by have := Tm.lt_of_at HX.out; omega) (by have := Tm.lt_of_at HX.out; omega) A' c' _ ((HC.out.later HW.out).more hz)).mono ?_
          rintro e w2 ⟨rfl, hb2⟩
          have hn2 := occ_next (v := v) HX.out
          have hm2 := HM.out
          have hc2 := HCU.out (k + 1) (by omega)
          obtain ⟨d, hd⟩ : ∃ d, occT v x = d := ⟨_, rfl⟩
          rw [hd] at hn2 ⊢
          have hd1 : m + d ≤ 4001 := by omega
          have HE := Lib.hid (show 0 + occT.go v (t.args.take (k + 1)) = m + d by rw [hn2]; omega)
          have HB2 := Lib.hid (HB.out.trans (hb2.mono (by have := HB.out.size; simp at this; omega)))
          clear hn2 hm2 hd hb2 hc2
          go_wp2_with fail
          exact ⟨⟨k + 1, by omega, by go_num, by rw [HE.out]; simp, HB2.out⟩, by simp [intOf]; omega⟩
        · go_wp2_with fail
          go_ret
          refine ⟨ret_int ?_, HW.out⟩
          have h3 := HM.out
          rw [List.take_of_length_le (by omega)] at h3
          rw [HOC.out, HZ.out, h3]
end Go.Proofs.Ytcagaaacfcpoeaa
