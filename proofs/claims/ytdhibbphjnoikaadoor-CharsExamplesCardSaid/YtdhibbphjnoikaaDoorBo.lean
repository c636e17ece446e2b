/-
  The walk of the law CharsTables.
-/
import Derived.Test.YtdhibbphjnoikaaDoorBn
import Derived.Test.YtdhibbphjnoikaaDoorBi
import Derived.Outline
namespace Go.Proofs.YtdhibbphjnoikaaDoor
open Go.RowKit
theorem PairsAt.up {W w : World} {A : Option Addr} {n : Nat} {l : Tab} (h : PairsAt W W.heap.size A n l) (hb : Below W.heap.size W w) : PairsAt w w.heap.size A n l := (h.below hb).more hb.size
def setR (l : Tab) (a b : Int) : Tab := if setC l a b = true then setT l a b else []
def setE (l : Tab) (a b : Int) : Int := if setC l a b = true then 0 else 1
theorem SlAt.none (w : World) : SlAt w (.slice .none 0 0) [] := ⟨_, _, rfl, PairsAt.nil _ _ _, fun _ => rfl, Nat.le_refl _⟩
theorem set_all (A : Option Addr) (n c : Nat) (l : Tab) (a b : Int) (w : World) (hn : n * 16 + 16 ≤ 140737488355328) (h : PairsAt w w.heap.size A n l) (hnil : A = none → c = 0) (hnc : n ≤ c) :
    Calls Tryd.prog 14 #[.slice A n c, .int .i64 a, .int .i64 b] w fun e w' => (∃ v, e = .returned (.tuple #[v, .int .i64 (setE l a b)]) ∧ SlAt w' v (setR l a b)) ∧ Below w.heap.size w w' := by
  cases hs : setC l a b
  · refine (set_bad A n c l a b w h hs).mono ?_
    rintro e w' ⟨rfl, hb⟩
    unfold setE setR
    rw [hs]
    exact ⟨⟨_, rfl, SlAt.none _⟩, hb⟩
  · have h2 := hs
    unfold setC at h2
    simp only [Bool.and_eq_true] at h2
    refine (set_ok A n c l a b w hn h hnil hnc h2.1.1 h2.1.2 h2.2).mono ?_
    rintro e w' ⟨⟨v, rfl, hv⟩, hb⟩
    unfold setE setR
    rw [hs]
    exact ⟨⟨_, rfl, hv⟩, hb⟩
theorem rset_all (A : Option Addr) (n c : Nat) (l : Tab) (a b : Int) (w : World) (h : PairsAt w w.heap.size A n l) :
    Calls Tryd.prog 15 #[.slice A n c, .int .i64 a, .int .i64 b] w fun e w' => (∃ v, e = .returned (.tuple #[v, .int .i64 (setE l a b)]) ∧ SlAt w' v (setR l a b)) ∧ Below w.heap.size w w' := by
  cases hs : setC l a b
  · refine (rset_bad A n c l a b w h hs).mono ?_
    rintro e w' ⟨rfl, hb⟩
    unfold setE setR
    rw [hs]
    exact ⟨⟨_, rfl, SlAt.none _⟩, hb⟩
  · have h2 := hs
    unfold setC at h2
    simp only [Bool.and_eq_true] at h2
    refine (rset_ok A n c l a b w h h2.1.1 h2.1.2 h2.2).mono ?_
    rintro e w' ⟨⟨v, rfl, hv⟩, hb⟩
    unfold setE setR
    rw [hs]
    exact ⟨⟨_, rfl, hv⟩, hb⟩
set_option maxHeartbeats 2000000 in
theorem law_tables (A : Option Addr) (n cap : Nat) (l : Tab) (c a b : Int) (w : World) (h : PairsAt w w.heap.size A n l) (hnil : A = none → cap = 0) :
    Calls Tryd.prog 3 #[.slice A n cap, .int .i64 c, .int .i64 a, .int .i64 b] w fun e w' => e = .returned (.bool true) ∧ Below w.heap.size w w' := by
  have HA := Lib.hid h
  have HN := Lib.hid hnil
  clear h hnil
  by_cases hbig : 1000 < n
  · go_enter Tryd.func3, Tryd.ntmps3
    go_wp2_with fail
    refine (awake_any _).mono ?_
    rintro e w1 ⟨rfl, HB⟩
    go_wp2_with fail
    go_ret
    exact ⟨rfl, HB⟩
  go_enter Tryd.func3, Tryd.ntmps3
  go_wp2_with fail
  refine (rclone_any A n cap l _ (by omega) HA.out HN.out).mono ?_
  rintro e w1 ⟨⟨v, rfl, HV⟩, HB1⟩
  obtain ⟨A2, c2, rfl, HP, hnil2, hlc⟩ := HV
  rw [HA.out.len] at HP hlc ⊢
  replace HP := Lib.hid HP
  have HN2 := Lib.hid hnil2
  replace HB1 := Lib.hid HB1
  clear hnil2
  go_wp2_with fail
  refine (valid_any A2 n c2 l _ HP.out).mono ?_
  rintro e w2 ⟨rfl, HB2⟩
  replace HP := Lib.hid (HP.out.up HB2)
  replace HB2 := Lib.hid (bNext HB1.out HB2)
  clear HB1
  go_wp2_with fail
  refine (convert_any A2 n c2 l c _ HP.out).mono ?_
  rintro e w3 ⟨rfl, HB3⟩
  replace HP := Lib.hid (HP.out.up HB3)
  replace HB3 := Lib.hid (bNext HB2.out HB3)
  clear HB2
  go_wp2_with fail
  refine (set_all A2 n c2 l a b _ (by omega) HP.out HN2.out hlc).mono ?_
  rintro e w4 ⟨⟨v, rfl, HV⟩, HB4⟩
  obtain ⟨A4, c4, rfl, HP4, -, -⟩ := HV
  replace HP := Lib.hid (HP.out.up HB4)
  replace HB4 := Lib.hid (bNext HB3.out HB4)
  clear HB3
  replace HP4 := Lib.hid HP4
  go_wp2_with fail
  refine (rset_all A n cap l a b _ (HA.out.up HB4.out)).mono ?_
  rintro e w5 ⟨⟨v, rfl, HV⟩, HB5⟩
  obtain ⟨A5, c5, rfl, HP5, -, -⟩ := HV
  replace HP := Lib.hid (HP.out.up HB5)
  replace HP4 := Lib.hid (HP4.out.up HB5)
  replace HB5 := Lib.hid (bNext HB4.out HB5)
  replace HP5 := Lib.hid HP5
  clear HB4
  go_wp2_with fail
  refine (rvalid_any A n cap l _ (HA.out.up HB5.out)).mono ?_
  rintro e w6 ⟨rfl, HB6⟩
  replace HP := Lib.hid (HP.out.up HB6)
  replace HP4 := Lib.hid (HP4.out.up HB6)
  replace HP5 := Lib.hid (HP5.out.up HB6)
  replace HB6 := Lib.hid (bNext HB5.out HB6)
  clear HB5
  go_wp2_with fail
  refine (rconvert_any A n cap l c _ (HA.out.up HB6.out)).mono ?_
  rintro e w7 ⟨rfl, HB7⟩
  replace HP := Lib.hid (HP.out.up HB7)
  replace HP4 := Lib.hid (HP4.out.up HB7)
  replace HP5 := Lib.hid (HP5.out.up HB7)
  replace HB7 := Lib.hid (bNext HB6.out HB7)
  clear HB6
  go_wp2_with fail
  refine (same_any A4 A5 _ _ c4 c5 _ _ _ HP4.out HP5.out).mono ?_
  rintro e w8 ⟨rfl, HB8⟩
  rw [show decide (setR l a b = setR l a b) = true from decide_eq_true rfl]
  replace HP := Lib.hid (HP.out.up HB8)
  replace HB8 := Lib.hid (bNext HB7.out HB8)
  clear HB7 HP4 HP5
  go_wp2_with fail
  refine (same_any A2 A _ _ c2 cap _ _ _ HP.out (HA.out.up HB8.out)).mono ?_
  rintro e w9 ⟨rfl, HB9⟩
  rw [show decide (l = l) = true from decide_eq_true rfl]
  replace HB9 := Lib.hid (bNext HB8.out HB9)
  clear HB8 HP
  go_wp2_with fail
  refine (awake_any _).mono ?_
  rintro e w10 ⟨rfl, HB⟩
  replace HB := Lib.hid (bNext HB9.out HB)
  go_wp2_with fail
  go_ret
  exact ⟨rfl, HB.out⟩
end Go.Proofs.YtdhibbphjnoikaaDoor
