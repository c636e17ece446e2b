/-
  Walks: the reference counts the nodes of a term and says whether it is valid.
-/
import Derived.Test.YtcagaaacfcpoeaaGreatTa
namespace Go.Proofs.YtcagaaacfcpoeaaGreat
open Go.RowKit

@[reducible] def Tm.o (t : Tm) (A : Option Addr) (c : Nat) : Obj := .cells #[.int .i64 t.kind, .int .i64 t.n, .string t.name, .slice A t.args.length c] 24
theorem tmBox {t : Tm} {A : Option Addr} {c : Nat} {w w1 : World} (hb : Below (w.heap.size + 1) (w.alloc (t.o A c)) w1) :
    w1.cell? ⟨w.heap.size, 0, none⟩ = some (.int .i64 t.kind) ∧ w1.cell? ⟨w.heap.size, 1, none⟩ = some (.int .i64 t.n) ∧ w1.cell? ⟨w.heap.size, 2, none⟩ = some (.string t.name) ∧ w1.cell? ⟨w.heap.size, 3, none⟩ = some (.slice A t.args.length c) := by
  have h := fun o => hb.cell (p := ⟨w.heap.size, o, none⟩) (by simp)
  have h0 := h 0
  have h1 := h 1
  have h2 := h 2
  have h3 := h 3
  simp [go_sem] at h0 h1 h2 h3
  exact ⟨h0, h1, h2, h3⟩
theorem bBox {w w1 : World} {o : Obj} (h : Below (w.heap.size + 1) (w.alloc o) w1) : Below w.heap.size w w1 := bStart (by simpa using h)

set_option maxHeartbeats 400000 in
theorem count_any (N : Nat) : ∀ (t : Tm), cnt t < N → ∀ (A : Option Addr) (c : Nat) (most : Int) (w : World), 1 ≤ most → most ≤ 4000 → ArgsAt w (Old w.heap.size) A t.args →
    Calls Tryz.prog 89 #[t.v A c, .int .i64 most] w fun e w' => e = .returned (.int .i64 (min (cnt t : Int) most)) ∧ Below w.heap.size w w' := by
  induction N with
  | zero => intro t h; omega
  | succ N ih =>
    intro t hN A c most w h1 h2 ha
    have hlen := ha.len
    have HA := Lib.hid ha
    clear ha
    go_enter Tryz.func89, Tryz.ntmps89
    go_wp2
    go_loopw [5, 6] (fun m i wr => ∃ k : Nat, k ≤ t.args.length ∧ i = .int .i64 k ∧ m = .int .i64 (min (1 + (cntTo t.args k : Int)) most) ∧ Below (w.heap.size + 1) (w.alloc (t.o A c)) wr) (fun _ i _ => t.args.length - (intOf i).toNat)
    case atStart => exact ⟨0, by omega, rfl, by rw [cntTo_zero, show min (1 + ((0 : Nat) : Int)) most = 1 by omega], Below.refl _ _⟩
    case round =>
      obtain ⟨k, hk, rfl, rfl, hb⟩ := hrel
      obtain ⟨p0, p1, p2, p3⟩ := tmBox hb
      have hbw := bBox hb
      obtain ⟨m, hm⟩ : ∃ m, min (1 + (cntTo t.args k : Int)) most = m := ⟨_, rfl⟩
      rw [hm]
      have hm1 : 1 ≤ m ∧ m ≤ most := by omega
      have HM := Lib.hid hm
      have HB := Lib.hid hb
      have HW := Lib.hid hbw
      have hz := hbw.size
      clear hm hb hbw
      by_cases hlt : k < t.args.length
      · by_cases hmm : m < most
        · obtain ⟨b, off, x, A', c', rfl, hB, hx, hx4, hA'⟩ := HA.out.at hlt
          obtain ⟨q0, q1, q2, q3⟩ := hx4.below hB HW.out
          have HX := Lib.hid hx
          have HC := Lib.hid hA'
          have hBz : b < w.heap.size := hB
          clear hx hx4 hA' hB
          go_wp2_with fail
          refine (ih x (by have := Tm.lt_of_at HX.out; omega) A' c' (most - m) _ (by omega) (by omega) ((HC.out.later HW.out).more hz)).mono ?_
          rintro e w2 ⟨rfl, hb2⟩
          have hn2 := cntTo_next HX.out
          have hm2 := HM.out
          obtain ⟨d, hd⟩ : ∃ d, min (cnt x : Int) (most - m) = d := ⟨_, rfl⟩
          rw [hd]
          have hd1 : 0 ≤ d ∧ d ≤ 4000 := by omega
          have HE := Lib.hid (show min (1 + (cntTo t.args (k + 1) : Int)) most = m + d by rw [hn2]; omega)
          have HB2 := Lib.hid (HB.out.trans (hb2.mono (by have := HB.out.size; simp at this; omega)))
          clear hn2 hm2 hd hb2
          go_wp2_with fail
          exact ⟨⟨k + 1, by omega, by go_num, by rw [HE.out], HB2.out⟩, by simp [intOf]; omega⟩
        · go_wp2_with fail
          go_ret
          refine ⟨ret_int ?_, HW.out⟩
          have h3 := HM.out
          have h4 := cntTo_le t.args k
          rw [cnt_eq]
          omega
      · go_wp2_with fail
        go_ret
        refine ⟨ret_int ?_, HW.out⟩
        have h3 := HM.out
        rw [cntTo_all (by omega)] at h3
        rw [cnt_eq]
        omega

theorem size_any (t : Tm) (A : Option Addr) (c : Nat) (w : World) (ha : ArgsAt w (Old w.heap.size) A t.args) :
    Calls Tryz.prog 42 #[t.v A c] w fun e w' => e = .returned (.int .i64 (min (cnt t : Int) 2001)) ∧ Below w.heap.size w w' := by
  have HA := Lib.hid ha
  clear ha
  go_enter Tryz.func42, Tryz.ntmps42
  go_wp2_with fail
  refine (count_any _ t (Nat.lt_succ_self _) A c 2001 _ (by omega) (by omega) ((HA.out.later (bAlloc _ _)).more (by simp))).mono ?_
  rintro e w2 ⟨rfl, hb2⟩
  have HB := Lib.hid (bStart hb2)
  clear hb2
  go_wp2_with fail
  go_ret
  exact ⟨rfl, HB.out⟩

set_option maxHeartbeats 400000 in
theorem node_any (t : Tm) (A : Option Addr) (c : Nat) (w : World) :
    Calls Tryz.prog 90 #[t.v A c] w fun e w' => e = .returned (.bool (nodeB t.kind t.n t.name t.args.length)) ∧ Below w.heap.size w w' := by
  go_enter Tryz.func90, Tryz.ntmps90
  go_wp2
  all_goals go_ret
  all_goals refine ⟨ret_bool ?_, (Below.refl _ _).alloc (Nat.le_refl _) _⟩
  all_goals first | (simp [nodeB, *]; done) | (simp [nodeB, *]; omega)

set_option maxHeartbeats 400000 in
theorem nodes_any (N : Nat) : ∀ (t : Tm), cnt t < N → ∀ (A : Option Addr) (c : Nat) (w : World), ArgsAt w (Old w.heap.size) A t.args →
    Calls Tryz.prog 43 #[t.v A c] w fun e w' => e = .returned (.bool (okT t)) ∧ Below w.heap.size w w' := by
  induction N with
  | zero => intro t h; omega
  | succ N ih =>
    intro t hN A c w ha
    have hlen := ha.len
    have HA := Lib.hid ha
    have HT := Lib.hid (okT_eq t)
    clear ha
    go_enter Tryz.func43, Tryz.ntmps43
    go_wp2_with fail
    refine (node_any t A c _).mono ?_
    rintro e w1 ⟨rfl, hb1⟩
    cases hnode : nodeB t.kind t.n t.name t.args.length
    · have HB := Lib.hid (bStart hb1)
      have HN := Lib.hid hnode
      clear hb1 hnode
      go_wp2_with fail
      go_ret
      exact ⟨ret_bool (by rw [HT.out, HN.out]; rfl), HB.out⟩
    · have HB1 := Lib.hid hb1
      have HN := Lib.hid hnode
      clear hb1 hnode
      go_wp2_with fail
      go_loopw [3] (fun i wr => ∃ k : Nat, k ≤ t.args.length ∧ i = .int .i64 k ∧ Hid (okTo t.args k = true) ∧ Below (w.heap.size + 1) (w.alloc (t.o A c)) wr) (fun i _ => t.args.length - (intOf i).toNat)
      case atStart => exact ⟨0, by omega, rfl, okTo_zero _, by simpa using HB1.out⟩
      case round =>
        obtain ⟨k, hk, rfl, HO, hb⟩ := hrel
        obtain ⟨p0, p1, p2, p3⟩ := tmBox hb
        have hbw := bBox hb
        have HB := Lib.hid hb
        have HW := Lib.hid hbw
        have hz := hbw.size
        clear hb hbw
        by_cases hlt : k < t.args.length
        · obtain ⟨b, off, x, A', c', rfl, hB, hx, hx4, hA'⟩ := HA.out.at hlt
          obtain ⟨q0, q1, q2, q3⟩ := hx4.below hB HW.out
          have HX := Lib.hid hx
          have HC := Lib.hid hA'
          have hBz : b < w.heap.size := hB
          clear hx hx4 hA' hB
          go_wp2_with fail
          refine (ih x (by have := Tm.lt_of_at HX.out; omega) A' c' _ ((HC.out.later HW.out).more hz)).mono ?_
          rintro e w2 ⟨rfl, hb2⟩
          have hn2 := okTo_next HX.out
          rw [HO.out, Bool.true_and] at hn2
          have HB2 := Lib.hid (HB.out.trans (hb2.mono (by have := HB.out.size; simp at this; omega)))
          clear hb2
          cases hox : okT x
          · have HE := Lib.hid (okTo_false (hn2.trans hox))
            clear hn2 hox
            go_wp2_with fail
            go_ret
            exact ⟨ret_bool (by rw [HT.out, HE.out, Bool.and_false]), bBox HB2.out⟩
          · have HE := Lib.hid (hn2.trans hox)
            clear hn2 hox
            go_wp2_with fail
            exact ⟨⟨k + 1, by omega, by go_num, HE.out, HB2.out⟩, by simp [intOf]; omega⟩
        · go_wp2_with fail
          go_ret
          exact ⟨ret_bool (by rw [HT.out, HN.out, ← okTo_all (l := t.args) (i := k) (by omega), HO.out]; rfl), HW.out⟩

theorem valid03_any (t : Tm) (A : Option Addr) (c : Nat) (w : World) (ha : ArgsAt w (Old w.heap.size) A t.args) :
    Calls Tryz.prog 16 #[t.v A c] w fun e w' => e = .returned (.bool (validT t)) ∧ Below w.heap.size w w' := by
  have HA := Lib.hid ha
  clear ha
  go_enter Tryz.func16, Tryz.ntmps16
  go_wp2_with fail
  refine (size_any t A c _ ((HA.out.later (bAlloc _ _)).more (by simp))).mono ?_
  rintro e w1 ⟨rfl, hb1⟩
  obtain ⟨m, hm⟩ : ∃ m, min (cnt t : Int) 2001 = m := ⟨_, rfl⟩
  rw [hm]
  have hbx : Below (w.heap.size + 1) (w.alloc (t.o A c)) w1 := by simpa using hb1
  obtain ⟨p0, p1, p2, p3⟩ := tmBox hbx
  have hbw := bBox hbx
  have hz := hbw.size
  have HW := Lib.hid hbw
  have HB := Lib.hid hbx
  clear hb1 hbx hbw
  by_cases hle : m ≤ 2000
  · have HM := Lib.hid (show decide (cnt t ≤ 2000) = true by simp; omega)
    clear hm
    go_wp2_with fail
    refine (nodes_any _ t (Nat.lt_succ_self _) A c _ ((HA.out.later HW.out).more hz)).mono ?_
    rintro e w2 ⟨rfl, hb2⟩
    have HB2 := Lib.hid (HB.out.trans (hb2.mono (by have := HB.out.size; simp at this; omega)))
    clear hb2
    go_wp2_with fail
    go_ret
    exact ⟨ret_bool (by rw [validT, HM.out, Bool.true_and]), bBox HB2.out⟩
  · have HM := Lib.hid (show decide (cnt t ≤ 2000) = false by simp; omega)
    clear hm
    go_wp2_with fail
    go_ret
    exact ⟨ret_bool (by rw [validT, HM.out]; rfl), HW.out⟩
end Go.Proofs.YtcagaaacfcpoeaaGreat
