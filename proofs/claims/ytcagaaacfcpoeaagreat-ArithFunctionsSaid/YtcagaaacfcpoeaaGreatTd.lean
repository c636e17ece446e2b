/-
  Walks: the program's Size, Valid and Key at terms, and the reference's Key.
-/
import Derived.Test.YtcagaaacfcpoeaaGreatTc
import Derived.Deep.Cut
import Derived.Deep.CutBlock
namespace Go.Proofs.YtcagaaacfcpoeaaGreat
open Go.RowKit

set_option maxHeartbeats 400000 in
theorem sizeP_any (t : Tm) (A : Option Addr) (c : Nat) (w : World) (ha : ArgsAt w (Old w.heap.size) A t.args) :
    Calls Tryz.prog 57 #[t.v A c] w fun e w' => e = .returned (.int .i64 (min (cnt t : Int) 2001)) ∧ Below w.heap.size w w' := by
  have hs : ∀ (g : Fn) (ts cs : Array Value) (w : World) (a : Addr) (m : Mode), (store a (.func g ts cs) m).run Tryz.prog w = stored Tryz.prog w a (.func g ts cs) m := fun g ts cs w a m => run_store Tryz.prog w a _ m rfl
  have HA := Lib.hid ha
  clear ha
  go_enter Tryz.func57, Tryz.ntmps57
  go_wp2_with fail
  have hb0 : Below w.heap.size w (((w.alloc (t.o A c)).alloc (.cells #[.int .i64 2001] 3)).alloc (.cells #[fn60 (w.heap.size + 1) (w.heap.size + 2)] 67)) := ((bAlloc _ _).alloc (by simp) _).alloc (by simp; omega) _
  refine (walk60_any _ t (Nat.lt_succ_self _) A c (w.heap.size + 1) (w.heap.size + 2) 2001 _ (by omega) (by omega) (by omega) ?_ (by simp) ?_ ?_).mono ?_
  · have h := (Blk.new (w.alloc (t.o A c)) 3 #[.int .i64 2001]).alloc (.cells #[fn60 (w.heap.size + 1) (w.heap.size + 2)] 67)
    rwa [World.size_alloc] at h
  · have h := (Blk.new ((w.alloc (t.o A c)).alloc (.cells #[.int .i64 2001] 3)) 67 #[fn60 (w.heap.size + 1) (w.heap.size + 2)]).cell 0
    rwa [World.size_alloc, World.size_alloc] at h
  · exact HA.out.keep (fun b hb => hb0.block b hb) (fun b hb => ⟨by have : b < w.heap.size := hb; simp; omega, by have : b < w.heap.size := hb; omega⟩)
  rintro e w2 ⟨rfl, hg, hbl⟩
  have h0 := hbl.cell 0
  simp at h0
  obtain ⟨m, hm⟩ : ∃ m, max (2001 - (cnt t : Int)) 0 = m := ⟨_, rfl⟩
  rw [hm] at h0
  have hm1 : 0 ≤ m ∧ m ≤ 2001 := by omega
  have HM := Lib.hid (show min (cnt t : Int) 2001 = 2001 - m by omega)
  have HB := Lib.hid (hb0.grown hg hb0.size (fun k hk => by injection hk; omega))
  clear hg hbl hm hb0
  go_wp2_with fail
  go_ret
  exact ⟨ret_int (by rw [HM.out]), HB.out⟩

set_option maxHeartbeats 1000000 in
set_option maxRecDepth 100000 in
theorem fits_any (N : Nat) : ∀ (t : Tm), cnt t < N → ∀ (A : Option Addr) (c : Nat) (w : World), ArgsAt w (Old w.heap.size) A t.args →
    Calls Tryz.prog 58 #[t.v A c] w fun e w' => e = .returned (.bool (okT t)) ∧ Below w.heap.size w w' := by
  induction N with
  | zero => intro t h; omega
  | succ N ih =>
    intro t hN A c w ha
    have hlen := ha.len
    have HA := Lib.hid ha
    have HT := Lib.hid (okT_eq t)
    clear ha
    go_enter Tryz.func58, Tryz.ntmps58
    go_upto_block 0 with fail
    go_cut [3] from 7 to 78 (fun s3 wx => s3 = .bool (nodeB t.kind t.n t.name t.args.length) ∧ wx = w.alloc (t.o A c))
    case first =>
      go_wp2_with fail
      all_goals go_meet
      all_goals refine ⟨?_, by simp [Tm.o, *]⟩
      all_goals congr 1
      all_goals first | (simp [nodeB, *]; done) | (simp [nodeB, *]; omega)
    case rest =>
      obtain ⟨rfl, rfl⟩ := hcut
      obtain ⟨q0, hq0⟩ : ∃ q, nodeB t.kind t.n t.name t.args.length = q := ⟨_, rfl⟩
      rw [hq0]
      have HQ0 := Lib.hid hq0
      clear hq0
      go_wp2_with fail
      go_loopw [3, 4] (fun o i wr => ∃ k : Nat, k ≤ t.args.length ∧ i = .int .i64 k ∧ o = .bool (nodeB t.kind t.n t.name t.args.length && okTo t.args k) ∧ Below (w.heap.size + 1) (w.alloc (t.o A c)) wr) (fun _ i _ => t.args.length - (intOf i).toNat)
      case atStart => exact ⟨0, by omega, rfl, by rw [okTo_zero, Bool.and_true, HQ0.out], Below.refl _ _⟩
      case round =>
        obtain ⟨k, hk, rfl, rfl, hb⟩ := hrel
        obtain ⟨q, hq⟩ : ∃ q, (nodeB t.kind t.n t.name t.args.length && okTo t.args k) = q := ⟨_, rfl⟩
        rw [hq]
        have HQ := Lib.hid hq
        obtain ⟨p0, p1, p2, p3⟩ := tmBox hb
        have hbw := bBox hb
        have HB := Lib.hid hb
        have HW := Lib.hid hbw
        have hz := hbw.size
        clear hb hbw hq
        by_cases hlt : k < t.args.length
        · cases q
          · go_wp2_with fail
            go_ret
            refine ⟨ret_bool ?_, HW.out⟩
            rw [HT.out]
            have h := HQ.out
            rcases Bool.and_eq_false_iff.1 h with h | h
            · rw [h]; rfl
            · rw [okTo_false h, Bool.and_false]
          · obtain ⟨b, off, x, A', c', rfl, hB, hx, hx4, hA'⟩ := HA.out.at hlt
            obtain ⟨q0, q1, q2, q3⟩ := hx4.below hB HW.out
            have HX := Lib.hid hx
            have HC := Lib.hid hA'
            have hBz : b < w.heap.size := hB
            clear hx hx4 hA' hB
            go_wp2_with fail
            refine (ih x (by have := Tm.lt_of_at HX.out; omega) A' c' _ ((HC.out.later HW.out).more hz)).mono ?_
            rintro e w2 ⟨rfl, hb2⟩
            have HN2 := Lib.hid (show (nodeB t.kind t.n t.name t.args.length && okTo t.args (k + 1)) = okT x by rw [okTo_next HX.out, ← Bool.and_assoc, HQ.out, Bool.true_and])
            have HB2 := Lib.hid (HB.out.trans (hb2.mono (by have := HB.out.size; simp at this; omega)))
            clear hb2
            go_wp2_with fail
            exact ⟨⟨k + 1, by omega, by go_num, by rw [HN2.out], HB2.out⟩, by simp [intOf]; omega⟩
        · cases q
          all_goals
            go_wp2_with fail
            go_ret
            refine ⟨ret_bool ?_, HW.out⟩
            rw [HT.out, ← okTo_all (l := t.args) (i := k) (by omega), HQ.out]

theorem validP_any (t : Tm) (A : Option Addr) (c : Nat) (w : World) (ha : ArgsAt w (Old w.heap.size) A t.args) :
    Calls Tryz.prog 21 #[t.v A c] w fun e w' => e = .returned (.bool (validT t)) ∧ Below w.heap.size w w' := by
  have HA := Lib.hid ha
  clear ha
  go_enter Tryz.func21, Tryz.ntmps21
  go_wp2_with fail
  refine (sizeP_any t A c _ ((HA.out.later (bAlloc _ _)).more (by simp))).mono ?_
  rintro e w1 ⟨rfl, hb1⟩
  obtain ⟨m, hm⟩ : ∃ m, min (cnt t : Int) 2001 = m := ⟨_, rfl⟩
  rw [hm]
  have hbx : Below (w.heap.size + 1) (w.alloc (t.o A c)) w1 := by simpa using hb1
  obtain ⟨p0, p1, p2, p3⟩ := tmBox hbx
  have hbw := bBox hbx
  have hz := hbw.size
  have HW := Lib.hid hbw
  have HB := Lib.hid hbx
  clear hb1 hbx hbw
  by_cases hle : m ≤ 2000
  · have HM := Lib.hid (show decide (cnt t ≤ 2000) = true by simp; omega)
    clear hm
    go_wp2_with fail
    refine (fits_any _ t (Nat.lt_succ_self _) A c _ ((HA.out.later HW.out).more hz)).mono ?_
    rintro e w2 ⟨rfl, hb2⟩
    have HB2 := Lib.hid (HB.out.trans (hb2.mono (by have := HB.out.size; simp at this; omega)))
    clear hb2
    go_wp2_with fail
    go_ret
    exact ⟨ret_bool (by rw [validT, HM.out, Bool.true_and]), bBox HB2.out⟩
  · have HM := Lib.hid (show decide (cnt t ≤ 2000) = false by simp; omega)
    clear hm
    go_wp2_with fail
    go_ret
    exact ⟨ret_bool (by rw [validT, HM.out]; rfl), HW.out⟩

end Go.Proofs.YtcagaaacfcpoeaaGreat
