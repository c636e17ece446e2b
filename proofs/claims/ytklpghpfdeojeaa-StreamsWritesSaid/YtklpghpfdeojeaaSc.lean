/-
  Walks: streams apart, the standard streams, a stream that fits; the order of files, both.
-/
import Derived.Test.YtklpghpfdeojeaaSb
import Derived.BigQuiet
import Derived.Deep.QuietTactic
import Derived.RegionTactic
namespace Go.Proofs.Ytklpghpfdeojeaa
open Go.RowKit

@[reducible] def eqS (a b : ByteArray) : Bool := a.toList == b.toList
def apartB (x y : G) : Bool :=
  if !x.alias_.toList.isEmpty && eqS x.alias_ y.alias_ then false else !eqS x.file y.file || (x.mode == 1 && y.mode == 1)
set_option maxHeartbeats 400000 in
theorem apart_any (x y : G) (w : World) : Calls Try.prog 38 #[x.v, y.v] w fun e w' => e = .returned (.bool (apartB x y)) ∧ Below w.heap.size w w' := by
  go_enter Try.func38, Try.ntmps38
  go_wp2
  all_goals go_ret
  all_goals refine ⟨ret_bool ?_, (bAlloc _ _).alloc (by simp) _⟩
  all_goals first | (simp [apartB, *]; done) | (simp_all [apartB]; done)

/-- two streams are equal -/
def eqG (a : Int) (b : ByteArray) (c d : Int) (e : ByteArray) (f : Int) (g : Bool) (a' : Int) (b' : ByteArray) (c' d' : Int) (e' : ByteArray) (f' : Int) (g' : Bool) : Bool :=
  a == a' && eqS b b' && c == c' && d == d' && eqS e e' && f == f' && g == g'
set_option maxHeartbeats 1000000 in
theorem g_eql (a a' c c' d d' f f' : Int) (b b' e e' : ByteArray) (g g' : Bool) (w : World) :
    (binOp .eql 52 (.agg #[.int .i64 a, .string b, .int .i64 c, .int .i64 d, .string e, .int .i64 f, .bool g]) (.agg #[.int .i64 a', .string b', .int .i64 c', .int .i64 d', .string e', .int .i64 f', .bool g'])).run Try.prog w = .ok (.bool (eqG a b c d e f g a' b' c' d' e' f' g')) w := by
  unfold eqG
  go_simp
  by_cases h1 : a = a' <;> by_cases h2 : b.toList = b'.toList <;> by_cases h3 : c = c' <;> by_cases h4 : d = d' <;> by_cases h5 : e.toList = e'.toList <;> by_cases h6 : f = f' <;> by_cases h7 : g = g' <;> simp [h1, h2, h3, h4, h5, h6, h7]

def inS : ByteArray := { data := #[117, 115, 101, 114, 95, 105, 110, 112, 117, 116] }
def outS : ByteArray := { data := #[117, 115, 101, 114, 95, 111, 117, 116, 112, 117, 116] }
def stdA (a : G) : Bool := a.id == 0 && eqS a.file inS && a.mode == 1 && eqS a.alias_ inS && a.eof == 3
def stdB (a : G) : Bool := a.id == 1 && eqS a.file outS && a.mode == 3 && eqS a.alias_ outS && a.eof == 3
theorem stdA_eq (a : G) : stdA a = eqG a.id a.file a.mode 0 a.alias_ a.eof false 0 { data := #[117, 115, 101, 114, 95, 105, 110, 112, 117, 116] } 1 0 { data := #[117, 115, 101, 114, 95, 105, 110, 112, 117, 116] } 3 false := by
  simp [stdA, eqG, inS]
theorem stdB_eq (a : G) : stdB a = eqG a.id a.file a.mode 0 a.alias_ a.eof false 1 { data := #[117, 115, 101, 114, 95, 111, 117, 116, 112, 117, 116] } 3 0 { data := #[117, 115, 101, 114, 95, 111, 117, 116, 112, 117, 116] } 3 false := by
  simp [stdB, eqG, outS]
def standardB : List G → Bool
  | a :: b :: _ => stdA a && stdB b
  | _ => false
set_option maxHeartbeats 1000000 in
theorem standard_any (A : Option Addr) (n c : Nat) (l : List G) (w : World) (ha : OpensAt w w.heap.size A n l) :
    Calls Try.prog 36 #[.slice A n c] w fun e w' => e = .returned (.bool (standardB l)) ∧ Below w.heap.size w w' := by
  have hn := ha.1.2
  have hl := ha.1.1
  have he := g_eql
  by_cases hlt : n < 2
  · have h0 : standardB l = false := by
      match l, hl with
      | [], _ => rfl
      | [_], _ => rfl
      | _ :: _ :: _, h => simp at h; omega
    have H0 := Lib.hid h0
    clear h0
    go_enter Try.func36, Try.ntmps36
    go_wp2
    go_ret
    exact ⟨ret_bool H0.out.symm, Below.refl _ _⟩
  · obtain ⟨b, off, x, rfl, hb, hx, hx4⟩ := ha.at (i := 0) (by omega)
    obtain ⟨b', off', y, e1, hb', hy, hy4⟩ := ha.at (i := 1) (by omega)
    injection e1 with e1
    injection e1 with e1 e2
    subst e1 e2
    have h0 : standardB l = (stdA x && stdB y) := by
      match l, hx, hy with
      | a :: a2 :: t, h1, h2 => simp at h1 h2; subst h1 h2; rfl
    have H0 := Lib.hid h0
    obtain ⟨q0, q1, q2, q3, q4, q5, q6⟩ := hx4
    obtain ⟨r0, r1, r2, r3, r4, r5, r6⟩ := hy4
    simp only [Nat.zero_mul, Nat.add_zero, Nat.one_mul] at q0 q1 q2 q3 q4 q5 q6 r0 r1 r2 r3 r4 r5 r6
    clear h0 hx hy ha
    go_enter Try.func36, Try.ntmps36
    go_wp2_with fail
    go_region
    all_goals go_wp2
    all_goals go_ret
    all_goals refine ⟨ret_bool ?_, by repeat (first | exact Below.refl _ _ | exact bAlloc _ _ | refine bDrewN (n := 1) ?_ | refine Below.alloc ?_ (by simp) _)⟩
    all_goals rw [H0.out, stdA_eq, stdB_eq]
    all_goals simp only [*, Bool.true_and, Bool.false_and]
end Go.Proofs.Ytklpghpfdeojeaa
