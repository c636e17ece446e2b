/-
  Walks: Assign, Need, Same, example, awake.
-/
import Derived.Test.YteffpeokialeiaaBg
import Derived.Outline
namespace Go.Proofs.Yteffpeokialeiaa
open Go.RowKit

def assignP (l : List In) (base : Int) : List In := if validP l base then (allocP l base).1 else []
def needP (l : List In) (base : Int) : Int := if validP l base then (allocP l base).2.most else 0
def errP (l : List In) (base : Int) : Int := if validP l base then 0 else 1
/-- a row of instructions of the call's own -/
def OwnA (w w' : World) (v : Value) (l : List In) : Prop := w'.ownsRow w.heap.size 23 6 v l.length (aCs l) ∧ Below w.heap.size w w'
def RetAs (w : World) (l : List In) (err : Int) (e : Ending) (w' : World) : Prop := ∃ v, e = .returned (.tuple #[v, .int .i64 err]) ∧ OwnA w w' v l
theorem OwnA.later {w w1 w2 : World} {v : Value} {l : List In} (hb : Below w.heap.size w w1) (h : OwnA w1 w2 v l) : OwnA w w2 v l := ⟨own_base h.1 hb.size, bNext hb h.2⟩
theorem valid_base {l : List In} {base : Int} (h : validP l base = true) : 0 ≤ base ∧ base ≤ 4096 := by
  unfold validP at h
  simp only [Bool.and_eq_true, decide_eq_true_eq] at h
  exact h.1
set_option maxHeartbeats 400000 in
theorem assign_any (A : Option Addr) (n c : Nat) (l : List In) (base : Int) (w : World) (ha : InsAt w w.heap.size A n l) (hn : n ≤ 60) :
    Calls Try.prog 16 #[.slice A n c, .int .i64 base] w (RetAs w (assignP l base) (errP l base)) := by
  have HA := Lib.hid ha
  clear ha
  go_enter Try.func16, Try.ntmps16
  go_wp2_with fail
  refine (valid_any A n c l base w HA.out hn).mono ?_
  rintro e w1 ⟨rfl, hb⟩
  have HB := Lib.hid hb
  have HA1 := Lib.hid (HA.out.next hb)
  clear hb
  cases hv : validP l base with
  | false =>
    have HV := Lib.hid hv
    clear hv
    go_wp2_with fail
    go_ret2
    refine ⟨.slice none 0 0, by unfold errP; rw [HV.out]; rfl, ?_⟩
    unfold assignP; rw [HV.out]
    exact ⟨⟨rfl, .inl ⟨rfl, rfl⟩⟩, HB.out⟩
  | true =>
    have HV := Lib.hid hv
    have hbb := valid_base hv
    obtain ⟨b0, b1⟩ := hbb
    clear hv
    go_wp2_with fail
    refine (allocate_any A n c l base w1 HA1.out hn b0 b1).mono ?_
    rintro e w2 ⟨v, rfl, ho, hb2⟩
    have HO := Lib.hid (OwnA.later HB.out ⟨ho, hb2⟩)
    clear ho hb2
    go_wp2_with fail
    go_ret2
    refine ⟨v, by unfold errP; rw [HV.out]; rfl, ?_⟩
    unfold assignP; rw [HV.out]
    exact HO.out
set_option maxHeartbeats 400000 in
theorem need_any (A : Option Addr) (n c : Nat) (l : List In) (base : Int) (w : World) (ha : InsAt w w.heap.size A n l) (hn : n ≤ 60) :
    Calls Try.prog 19 #[.slice A n c, .int .i64 base] w fun e w' => e = .returned (.int .i64 (needP l base)) ∧ Below w.heap.size w w' := by
  have HA := Lib.hid ha
  clear ha
  go_enter Try.func19, Try.ntmps19
  go_wp2_with fail
  refine (valid_any A n c l base w HA.out hn).mono ?_
  rintro e w1 ⟨rfl, hb⟩
  have HB := Lib.hid hb
  have HA1 := Lib.hid (HA.out.next hb)
  clear hb
  cases hv : validP l base with
  | false =>
    have HV := Lib.hid hv
    clear hv
    go_wp2_with fail
    go_ret
    exact ⟨by unfold needP; rw [HV.out]; rfl, HB.out⟩
  | true =>
    have HV := Lib.hid hv
    have hbb := valid_base hv
    obtain ⟨b0, b1⟩ := hbb
    clear hv
    go_wp2_with fail
    refine (allocate_any A n c l base w1 HA1.out hn b0 b1).mono ?_
    rintro e w2 ⟨v, rfl, ho, hb2⟩
    have HO := Lib.hid (bNext HB.out hb2)
    clear ho hb2
    go_wp2_with fail
    go_ret
    exact ⟨by unfold needP; rw [HV.out]; rfl, HO.out⟩
set_option maxRecDepth 100000 in
set_option maxHeartbeats 400000 in
theorem same_eq (A B : Option Addr) (n c d : Nat) (l : List In) (w : World) (ha : InsAt w w.heap.size A n l) (hb : InsAt w w.heap.size B n l) :
    Calls Try.prog 18 #[.slice A n c, .slice B n d] w fun e w' => e = .returned (.bool true) ∧ Below w.heap.size w w' := by
  have hn := ha.1.2
  have HA := Lib.hid ha
  have HB := Lib.hid hb
  clear ha hb
  go_enter Try.func18, Try.ntmps18
  go_wp2_with fail
  go_loopw [5] (fun i wr => ∃ k : Nat, i = .int .i64 k ∧ k ≤ n ∧ Hid (Below w.heap.size w wr)) (fun i _ => n - (intOf i).toNat)
  case atStart => exact ⟨0, rfl, Nat.zero_le _, Lib.hid (Below.refl _ _)⟩
  case round =>
    obtain ⟨k, rfl, hk, HR⟩ := hrel
    by_cases hlt : k < n
    · obtain ⟨b, off, x, rfl, hbb, hx, hcs⟩ := HA.out.at hlt
      obtain ⟨b', off', y, rfl, hbb', hy, hcs'⟩ := HB.out.at hlt
      have hxy : x = y := by rw [hx] at hy; injection hy
      subst hxy
      obtain ⟨q0, q1, q2, q3, q4, q5⟩ := hcs.below hbb HR.out
      obtain ⟨r0, r1, r2, r3, r4, r5⟩ := hcs'.below hbb' HR.out
      clear hx hy hcs hcs'
      go_wp2_with fail
      go_quiet (fail)
      rename_i nq
      go_wp2_with fail
      exact ⟨⟨k + 1, by go_num, by omega, Lib.hid (bDrewN HR.out nq)⟩, by simp [intOf]; omega⟩
    · go_wp2_with fail
      go_ret
      exact ⟨rfl, HR.out⟩
/-- the example's segment -/
def exL (a b c : Int) : List In := [⟨5, 0, 1, 0, ⟨#[102]⟩, 2⟩, ⟨6, a, 0, 0, ⟨#[]⟩, 0⟩, ⟨6, b, 0, 0, ⟨#[]⟩, 0⟩, ⟨3, 0, a, 3, ⟨#[]⟩, 0⟩, ⟨1, c, b, 0, ⟨#[]⟩, 0⟩, ⟨12, c, 1, 0, ⟨#[]⟩, 0⟩]
set_option maxRecDepth 100000 in
set_option maxHeartbeats 400000 in
theorem example_any (a b c : Int) (w : World) : Calls Try.prog 27 #[.int .i64 a, .int .i64 b, .int .i64 c] w fun e w' => e = .returned (.slice (some ⟨w.heap.size, 0, none⟩) 6 6) ∧ (InsAt w' w'.heap.size (some ⟨w.heap.size, 0, none⟩) 6 (exL a b c) ∧ Below w.heap.size w w') := by
  go_enter Try.func27, Try.ntmps27
  go_wp2_with fail
  go_ret
  refine ⟨rfl, own_ins (w := w.alloc _) (base := w.heap.size) (World.ownsRow_lit w _ 6 (Nat.le_refl _) (by unfold maxLen; omega) rfl) (by omega), bAlloc _ _⟩
theorem ex_assign : assignP (exL 5 9 7) 1 = exL 2 3 2 := by kernel_rfl
theorem ex_err : errP (exL 5 9 7) 1 = 0 := by kernel_rfl
theorem ex_need : needP (exL 5 9 7) 1 = 2 := by kernel_rfl
theorem OwnA.form {w w' : World} {v : Value} {l : List In} (h : OwnA w w' v l) (hn : l.length ≤ 1000000) : ∃ A c, v = .slice A l.length c ∧ InsAt w' w'.heap.size A l.length l := by
  obtain ⟨A, c, rfl, _⟩ := own_form h.1
  exact ⟨A, c, rfl, own_ins h.1 hn⟩
set_option maxRecDepth 100000 in
set_option maxHeartbeats 400000 in
theorem awake_any (w : World) : Calls Try.prog 15 #[] w fun e w' => e = .returned (.bool true) ∧ Below w.heap.size w w' := by
  have HE := Lib.hid (And.intro ex_assign (And.intro ex_err ex_need))
  go_enter Try.func15, Try.ntmps15
  go_wp2_with fail
  refine (example_any 5 9 7 w).mono ?_
  rintro e w1 ⟨rfl, hi1, hb1⟩
  have HB1 := Lib.hid hb1
  go_wp2_with fail
  refine (assign_any _ 6 6 (exL 5 9 7) 1 w1 hi1 (by omega)).mono ?_
  rw [HE.out.1, HE.out.2.1]
  rintro e w2 ⟨v, rfl, ho⟩
  obtain ⟨A2, c2, rfl, hi2⟩ := ho.form (by show 6 ≤ _; omega)
  have HI2 := Lib.hid hi2
  have HB2 := Lib.hid (bNext HB1.out ho.2)
  clear hi1 hb1 ho hi2
  rw [show (exL 2 3 2).length = 6 from rfl] at HI2 ⊢
  go_wp2_with fail
  refine (example_any 2 3 2 w2).mono ?_
  rintro e w3 ⟨rfl, hi3, hb3⟩
  have HI3 := Lib.hid hi3
  have HI2' := Lib.hid (HI2.out.next hb3)
  have HB3 := Lib.hid (bNext HB2.out hb3)
  clear hi3 hb3
  go_wp2_with fail
  refine (same_eq _ _ 6 c2 6 (exL 2 3 2) w3 HI2'.out HI3.out).mono ?_
  rintro e w4 ⟨rfl, hb4⟩
  have HB4 := Lib.hid (bNext HB3.out hb4)
  clear hb4
  go_wp2_with fail
  refine (example_any 5 9 7 w4).mono ?_
  rintro e w5 ⟨rfl, hi5, hb5⟩
  have HB5 := Lib.hid (bNext HB4.out hb5)
  clear hb5
  go_wp2_with fail
  refine (need_any _ 6 6 (exL 5 9 7) 1 w5 hi5 (by omega)).mono ?_
  rw [HE.out.2.2]
  rintro e w6 ⟨rfl, hb6⟩
  have HB6 := Lib.hid (bNext HB5.out hb6)
  clear hb6 hi5
  go_wp2_with fail
  go_ret
  exact ⟨rfl, HB6.out⟩
end Go.Proofs.Yteffpeokialeiaa
