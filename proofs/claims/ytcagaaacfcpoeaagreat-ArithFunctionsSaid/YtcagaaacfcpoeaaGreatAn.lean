/-
  The walks of Known, both.
-/
import Derived.Test.YtcagaaacfcpoeaaGreatAl
namespace Go.Proofs.YtcagaaacfcpoeaaGreat
open Go.RowKit
def unN : List ByteArray := [⟨#[45]⟩, ⟨#[43]⟩, ⟨#[97, 98, 115]⟩, ⟨#[115, 105, 103, 110]⟩, ⟨#[92]⟩]
def biN : List ByteArray := [⟨#[43]⟩, ⟨#[45]⟩, ⟨#[42]⟩, ⟨#[47, 47]⟩, ⟨#[114, 101, 109]⟩, ⟨#[100, 105, 118]⟩, ⟨#[109, 111, 100]⟩, ⟨#[109, 105, 110]⟩, ⟨#[109, 97, 120]⟩, ⟨#[62, 62]⟩, ⟨#[60, 60]⟩, ⟨#[47, 92]⟩, ⟨#[92, 47]⟩, ⟨#[120, 111, 114]⟩, ⟨#[94]⟩, ⟨#[103, 99, 100]⟩]
def namesS (ar : Int) : List ByteArray := if ar = 1 then unN else if ar = 2 then biN else []
def knS (x : ByteArray) (ar : Int) : Bool := (namesS ar).any (eqS x)
theorem lookS_isSome (l : List (ByteArray × Value)) (x : ByteArray) : (lookS l x).isSome = (l.map (·.1)).any (eqS x) := by
  induction l with
  | nil => rfl
  | cons y t ih =>
    unfold lookS
    simp only [List.map_cons, List.any_cons]
    cases eqS x y.1
    · simp [ih]
    · simp
theorem iret_bool {a b : Bool} (h : a = b) : Ending.returned (.bool a) = .returned (.bool b) := by rw [h]
theorem Known_any (x : ByteArray) (ar : Int) (w : World) : Calls Tryz.prog 62 #[.string x, .int .i64 ar] w fun e w' => e = .returned (.bool (knS x ar)) ∧ Below w.heap.size w w' := by
  by_cases h1 : ar = 1
  · subst h1
    go_enter Tryz.func62, Tryz.ntmps62
    go_wp2_with fail
    refine (unary_any _).mono ?_
    rintro e w1 ⟨⟨g, rfl, ⟨b1, b2, b3, hm, x1, x2, x3⟩, hg⟩, hl⟩
    have hk := run_look hm x
    have HE := Lib.hid (show (lookS (unaryT b1 b2 b3) x).isSome = knS x 1 from lookS_isSome _ _)
    have HL := Lib.hid hl
    clear hm hl x1 x2 x3
    generalize ((lookS (unaryT b1 b2 b3) x).map (·.2)).getD (.agg #[.nilFunc]) = v at hk
    generalize (lookS (unaryT b1 b2 b3) x).isSome = o at hk HE
    go_wp2_with fail
    go_ret
    exact ⟨iret_bool HE.out, HL.out⟩
  have e1 : (ar == 1) = false := by simpa using h1
  by_cases h2 : ar = 2
  · subst h2
    clear h1
    go_enter Tryz.func62, Tryz.ntmps62
    go_wp2_with fail
    refine (binary_any _).mono ?_
    rintro e w1 ⟨⟨g, rfl, ⟨b1, b2, b3, b4, b5, hm, x1, x2, x3, x4, x5⟩, hg⟩, hl⟩
    have hk := run_look hm x
    have HE := Lib.hid (show (lookS (binaryT b1 b2 b3 b4 b5) x).isSome = knS x 2 from lookS_isSome _ _)
    have HL := Lib.hid hl
    clear hm hl x1 x2 x3 x4 x5
    generalize ((lookS (binaryT b1 b2 b3 b4 b5) x).map (·.2)).getD (.agg #[.nilFunc]) = v at hk
    generalize (lookS (binaryT b1 b2 b3 b4 b5) x).isSome = o at hk HE
    go_wp2_with fail
    go_ret
    exact ⟨iret_bool HE.out, HL.out⟩
  have e2 : (ar == 2) = false := by simpa using h2
  have HE := Lib.hid (show false = knS x ar by unfold knS namesS; rw [if_neg h1, if_neg h2]; rfl)
  clear h1 h2
  go_enter Tryz.func62, Tryz.ntmps62
  go_wp2_with fail
  go_ret
  exact ⟨iret_bool HE.out, Below.refl _ _⟩
/-- a list of strings in memory -/
def StrsAt (w : World) (v : Value) (l : List ByteArray) : Prop := ∃ A, v = .slice A l.length l.length ∧ (0 < l.length → ∃ b, A = some ⟨b, 0, none⟩ ∧ b < w.heap.size ∧ ∀ k, k < l.length → w.cell? ⟨b, k, none⟩ = some (.string (l.getD k .empty)))
theorem StrsAt.new (w : World) (l : List ByteArray) (t : TypeId) : StrsAt (w.alloc (.cells (l.map Value.string).toArray t)) (.slice (some ⟨w.heap.size, 0, none⟩) l.length l.length) l := by
  refine ⟨_, rfl, fun _ => ⟨_, rfl, by simp, fun k hk => ?_⟩⟩
  rw [World.cell?_alloc_new]
  simp [hk, List.getD]
theorem namesS_len (ar : Int) : (namesS ar).length ≤ 16 := by
  unfold namesS
  split
  · decide
  · split <;> decide
theorem any_upto {x : ByteArray} {l : List ByteArray} (h : ∀ j, j < l.length → eqS x (l.getD j .empty) = false) : l.any (eqS x) = false := by
  rw [List.any_eq_false]
  intro y hy
  obtain ⟨j, hj, rfl⟩ := List.mem_iff_getElem.1 hy
  have := h j hj
  rw [List.getD_eq_getElem?_getD, List.getElem?_eq_getElem hj] at this
  simpa using this
theorem any_at {x : ByteArray} {l : List ByteArray} {j : Nat} (hj : j < l.length) (h : eqS x (l.getD j .empty) = true) : l.any (eqS x) = true := by
  rw [List.any_eq_true]
  refine ⟨l[j], List.getElem_mem _, ?_⟩
  rw [List.getD_eq_getElem?_getD, List.getElem?_eq_getElem hj] at h
  simpa using h
theorem eqS_comm (x y : ByteArray) : eqS x y = (y.toList == x.toList) := by
  unfold eqS
  rw [Bool.eq_iff_iff]
  simp only [decide_eq_true_eq, beq_iff_eq]
  exact ⟨Eq.symm, Eq.symm⟩
end Go.Proofs.YtcagaaacfcpoeaaGreat
