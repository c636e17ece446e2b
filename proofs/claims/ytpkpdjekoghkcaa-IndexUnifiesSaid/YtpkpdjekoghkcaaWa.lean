/-
  Walks: the small functions on keys.
-/
import Derived.Test.YtpkpdjekoghkcaaRows
import Derived.Test.YtpkpdjekoghkcaaMem
import Derived.WalkLawsBesides
namespace Go.Proofs.Ytpkpdjekoghkcaa
open Go.RowKit

theorem isVar_any (x : K) (w : World) :
    Calls Try.prog 39 #[x.v] w fun e w' => e = .returned (.bool (x.kind == 0)) ∧ Below w.heap.size w w' := by
  go_enter Try.func39, Try.ntmps39
  go_wp2
  go_ret
  exact ⟨rfl, (Below.refl _ _).alloc (Nat.le_refl _) _⟩

theorem key_eql (k n m k' n' m' : Int) (s s' : ByteArray) (w : World) :
    (binOp .eql 35 (.agg #[.int .i64 k, .int .i64 n, .string s, .int .i64 m]) (.agg #[.int .i64 k', .int .i64 n', .string s', .int .i64 m'])).run Try.prog w = .ok (.bool (eqK k n s m k' n' s' m')) w := by
  unfold eqK
  go_simp
  by_cases h1 : k = k' <;> by_cases h2 : n = n' <;> by_cases h3 : s.toList = s'.toList <;> by_cases h4 : m = m' <;> simp [h1, h2, h3, h4]

theorem key_neq (k n m k' n' m' : Int) (s s' : ByteArray) (w : World) :
    (binOp .neq 35 (.agg #[.int .i64 k, .int .i64 n, .string s, .int .i64 m]) (.agg #[.int .i64 k', .int .i64 n', .string s', .int .i64 m'])).run Try.prog w = .ok (.bool (!eqK k n s m k' n' s' m')) w := by
  unfold eqK
  go_simp
  by_cases h1 : k = k' <;> by_cases h2 : n = n' <;> by_cases h3 : s.toList = s'.toList <;> by_cases h4 : m = m' <;> simp [h1, h2, h3, h4]

def matK (x y : K) : Bool := y.kind == 0 || x.kind == 0 || K.eqv x y

set_option maxHeartbeats 400000 in
theorem matches_any (x y : K) (w : World) :
    Calls Try.prog 23 #[x.v, y.v] w fun e w' => e = .returned (.bool (matK x y)) ∧ Below w.heap.size w w' := by
  have he := key_eql
  go_enter Try.func23, Try.ntmps23
  go_wp2_with fail
  refine (isVar_any y _).mono ?_
  rintro e w1 ⟨rfl, hb1⟩
  obtain ⟨hc, _⟩ := bcell hb1
  go_wp2_with fail
  · go_ret
    exact ⟨ret_bool (by simp [matK, *]), bStart (bStart hb1)⟩
  · refine (isVar_any x _).mono ?_
    rintro e w2 ⟨rfl, hb2⟩
    replace hb2 := bNext hb1 hb2
    clear hc hb1
    obtain ⟨hc, _⟩ := bcell hb2
    go_wp2_with fail
    all_goals go_ret
    all_goals exact ⟨ret_bool (by simp [matK, *]), bStart (bStart hb2)⟩

def okK (k : K) : Bool :=
  if k.kind == 0 then eqK k.kind k.n k.name k.ar 0 0 { data := #[] } 0
  else if k.kind == 1 then k.name.toList.isEmpty && k.ar == 0
  else if k.kind == 2 then k.n == 0 && k.ar == 0 && decide ((k.name.size : Int) ≤ 100)
  else if k.kind == 3 then k.n == 0 && decide ((k.name.size : Int) ≤ 100) && decide (1 ≤ k.ar) && decide (k.ar ≤ 8)
  else false

set_option maxHeartbeats 400000 in
theorem validKey_any (x : K) (w : World) :
    Calls Try.prog 22 #[x.v] w fun e w' => e = .returned (.bool (okK x)) ∧ Below w.heap.size w w' := by
  have he := key_eql
  go_enter Try.func22, Try.ntmps22
  go_wp2
  all_goals go_ret
  all_goals refine ⟨ret_bool ?_, (Below.refl _ _).alloc (Nat.le_refl _) _⟩
  all_goals first | (simp [okK, *]; done) | (simp [okK, *]; omega)

set_option maxHeartbeats 400000 in
theorem valid_any (x : K) (w : World) :
    Calls Try.prog 33 #[x.v] w fun e w' => e = .returned (.bool (okK x)) ∧ Below w.heap.size w w' := by
  have he := key_eql
  go_enter Try.func33, Try.ntmps33
  go_wp2
  all_goals go_ret
  all_goals refine ⟨ret_bool ?_, (Below.refl _ _).alloc (Nat.le_refl _) _⟩
  all_goals first | (simp [okK, *]; done) | (simp [okK, *]; omega)
end Go.Proofs.Ytpkpdjekoghkcaa
