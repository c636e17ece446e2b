/-
  The walk of RegsExamples.
-/
import Derived.Test.YteffpeokialeiaaCf
import Derived.Outline
namespace Go.Proofs.Yteffpeokialeiaa
open Go.RowKit

theorem put_any (op r a : Int) (w : World) : Calls Try.prog 10 #[.int .i64 op, .int .i64 r, .int .i64 a] w fun e w' => e = .returned (⟨op, r, a, 0, ⟨#[]⟩, 0⟩ : In).v ∧ Below w.heap.size w w' := by
  go_enter Try.func10, Try.ntmps10
  go_wp2_with fail
  refine bodyPost_ret (v := (⟨op, r, a, 0, ⟨#[]⟩, 0⟩ : In).v) (by simp [results, Try.results10, go_sem]) rfl ⟨rfl, bAlloc _ _⟩
theorem f_any (r : Int) (w : World) : Calls Try.prog 11 #[.int .i64 r] w fun e w' => e = .returned (⟨15, r, 0, 0, ⟨#[102]⟩, 1⟩ : In).v ∧ Below w.heap.size w w' := by
  go_enter Try.func11, Try.ntmps11
  go_wp2_with fail
  refine bodyPost_ret (v := (⟨15, r, 0, 0, ⟨#[102]⟩, 1⟩ : In).v) (by simp [results, Try.results11, go_sem]) rfl ⟨rfl, bAlloc _ _⟩
theorem n_any (a n : Int) (w : World) : Calls Try.prog 13 #[.int .i64 a, .int .i64 n] w fun e w' => e = .returned (⟨13, 0, a, n, ⟨#[]⟩, 0⟩ : In).v ∧ Below w.heap.size w w' := by
  go_enter Try.func13, Try.ntmps13
  go_wp2_with fail
  refine bodyPost_ret (v := (⟨13, 0, a, n, ⟨#[]⟩, 0⟩ : In).v) (by simp [results, Try.results13, go_sem]) rfl ⟨rfl, bAlloc _ _⟩
set_option maxHeartbeats 400000 in
theorem gives_any (A B : Option Addr) (n c d : Nat) (l m : List In) (base need : Int) (w : World) (ha : InsAt w w.heap.size A n l) (hb : InsAt w w.heap.size B n m) (hn : n ≤ 60)
    (h1 : assignP l base = m) (h2 : errP l base = 0) (h3 : needP l base = need) :
    Calls Try.prog 12 #[.slice A n c, .int .i64 base, .int .i64 need, .slice B n d] w fun e w' => e = .returned (.bool true) ∧ Below w.heap.size w w' := by
  have HA := Lib.hid ha
  have HB := Lib.hid hb
  have HE := Lib.hid (And.intro h1 (And.intro h2 h3))
  have hm := hb.len
  clear ha hb h1 h2 h3
  go_enter Try.func12, Try.ntmps12
  go_wp2_with fail
  refine (assign_any A n c l base w HA.out hn).mono ?_
  rw [HE.out.1, HE.out.2.1]
  rintro e w1 ⟨v, rfl, ho⟩
  obtain ⟨A1, c1, rfl, hi1⟩ := ho.form (by omega)
  rw [hm] at hi1 ⊢
  have HI1 := Lib.hid hi1
  have HA1 := Lib.hid (HA.out.next ho.2)
  have HB1 := Lib.hid (HB.out.next ho.2)
  have HW := Lib.hid ho.2
  clear ho hi1 hm
  go_wp2_with fail
  refine (same_eq A1 B n c1 d m w1 HI1.out HB1.out).mono ?_
  rintro e w2 ⟨rfl, hb2⟩
  have HA2 := Lib.hid (HA1.out.next hb2)
  have HW2 := Lib.hid (bNext HW.out hb2)
  clear hb2
  go_wp2_with fail
  refine (need_any A n c l base w2 HA2.out hn).mono ?_
  rw [HE.out.2.2]
  rintro e w3 ⟨rfl, hb3⟩
  have HW3 := Lib.hid (bNext HW2.out hb3)
  clear hb3
  go_wp2_with fail
  go_ret
  exact ⟨rfl, HW3.out⟩
set_option maxHeartbeats 400000 in
theorem refuses_any (A : Option Addr) (n c : Nat) (l : List In) (base : Int) (w : World) (ha : InsAt w w.heap.size A n l) (hn : n ≤ 60) (hv : validP l base = false) :
    Calls Try.prog 14 #[.int .i64 base, .slice A n c] w fun e w' => e = .returned (.bool true) ∧ Below w.heap.size w w' := by
  have HA := Lib.hid ha
  have HE : Hid (assignP l base = [] ∧ errP l base = 1 ∧ needP l base = 0) := Lib.hid (by unfold assignP errP needP; rw [hv]; exact ⟨rfl, rfl, rfl⟩)
  clear ha hv
  go_enter Try.func14, Try.ntmps14
  go_wp2_with fail
  refine (assign_any A n c l base w HA.out hn).mono ?_
  rw [HE.out.1, HE.out.2.1]
  rintro e w1 ⟨v, rfl, ho⟩
  obtain ⟨A3, c3, rfl, _⟩ := own_form ho.1
  have HA1 := Lib.hid (HA.out.next ho.2)
  have HW := Lib.hid ho.2
  clear ho
  simp only [List.length_nil]
  go_wp2_with fail
  refine (need_any A n c l base w1 HA1.out hn).mono ?_
  rw [HE.out.2.2]
  rintro e w2 ⟨rfl, hb2⟩
  have HW2 := Lib.hid (bNext HW.out hb2)
  clear hb2
  go_wp2_with fail
  go_ret
  exact ⟨rfl, HW2.out⟩
theorem lit_ins (w : World) (l : List In) (n : Nat) (hn : l.length = n) (h60 : n ≤ 60) : InsAt (w.alloc (.cells (aCs l).toArray 23)) (w.alloc (.cells (aCs l).toArray 23)).heap.size (some ⟨w.heap.size, 0, none⟩) n l :=
  own_ins (World.ownsRow_lit w (aCs l).toArray n (Nat.le_refl _) (by unfold maxLen; omega) (by rw [List.size_toArray, aCs_len, hn])) (by omega)
def oneA : List In := [⟨15, 9, 0, 0, ⟨#[102]⟩, 1⟩, ⟨6, 8, 0, 0, ⟨#[]⟩, 0⟩, ⟨12, 9, 1, 0, ⟨#[]⟩, 0⟩, ⟨12, 8, 2, 0, ⟨#[]⟩, 0⟩]
def oneB : List In := [⟨15, 3, 0, 0, ⟨#[102]⟩, 1⟩, ⟨6, 4, 0, 0, ⟨#[]⟩, 0⟩, ⟨12, 3, 1, 0, ⟨#[]⟩, 0⟩, ⟨12, 4, 2, 0, ⟨#[]⟩, 0⟩]
theorem one1 : assignP oneA 2 = oneB := by kernel_rfl
theorem one2 : errP oneA 2 = 0 := by kernel_rfl
theorem one3 : needP oneA 2 = 2 := by kernel_rfl
def twoA : List In := [⟨11, 7, 8, 0, ⟨#[]⟩, 0⟩, ⟨21, 0, 0, 0, ⟨#[]⟩, 0⟩]
def twoB : List In := [⟨11, 1, 2, 0, ⟨#[]⟩, 0⟩, ⟨21, 0, 0, 0, ⟨#[]⟩, 0⟩]
theorem two1 : assignP twoA 0 = twoB := by kernel_rfl
theorem two2 : errP twoA 0 = 0 := by kernel_rfl
theorem two3 : needP twoA 0 = 2 := by kernel_rfl
def threeA : List In := [⟨13, 0, 3, 1, ⟨#[]⟩, 0⟩, ⟨13, 0, 9, 2, ⟨#[]⟩, 0⟩, ⟨12, 9, 5, 0, ⟨#[]⟩, 0⟩]
def threeB : List In := [⟨13, 0, 1, 1, ⟨#[]⟩, 0⟩, ⟨13, 0, 1, 2, ⟨#[]⟩, 0⟩, ⟨12, 1, 1, 0, ⟨#[]⟩, 0⟩]
theorem three1 : assignP threeA 0 = threeB := by kernel_rfl
theorem three2 : errP threeA 0 = 0 := by kernel_rfl
theorem three3 : needP threeA 0 = 1 := by kernel_rfl
def fiveA : List In := [⟨12, 4, 3, 0, ⟨#[]⟩, 0⟩, ⟨12, -1, 1, 0, ⟨#[]⟩, 0⟩]
def fiveB : List In := [⟨12, 4, 3, 0, ⟨#[]⟩, 0⟩, ⟨12, -1, 1, 0, ⟨#[]⟩, 0⟩]
theorem five1 : assignP fiveA 4 = fiveB := by kernel_rfl
theorem five2 : errP fiveA 4 = 0 := by kernel_rfl
theorem five3 : needP fiveA 4 = 0 := by kernel_rfl
def four0 : List In := [⟨12, 2, 1, 0, ⟨#[]⟩, 0⟩]
theorem four0v : validP four0 (1) = false := by kernel_rfl
def four1 : List In := [⟨19, 0, 0, 0, ⟨#[112]⟩, 2⟩]
theorem four1v : validP four1 (1) = false := by kernel_rfl
def four2 : List In := []
theorem four2v : validP four2 (-1) = false := by kernel_rfl
end Go.Proofs.Yteffpeokialeiaa
