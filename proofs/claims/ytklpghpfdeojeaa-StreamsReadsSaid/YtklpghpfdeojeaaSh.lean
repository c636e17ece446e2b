/-
  Walks: equal states are found equal.
-/
import Derived.Test.YtklpghpfdeojeaaSc
namespace Go.Proofs.Ytklpghpfdeojeaa
open Go.RowKit

theorem f_neq (a a' b b' : ByteArray) (w : World) : (binOp .neq 35 (.agg #[.string a, .string b]) (.agg #[.string a', .string b'])).run Try.prog w = .ok (.bool (!(eqS a a' && eqS b b'))) w := by
  go_simp
  by_cases h1 : a.toList = a'.toList <;> by_cases h2 : b.toList = b'.toList <;> simp [h1, h2]
set_option maxHeartbeats 1000000 in
theorem g_neq (a a' c c' d d' f f' : Int) (b b' e e' : ByteArray) (g g' : Bool) (w : World) :
    (binOp .neq 52 (.agg #[.int .i64 a, .string b, .int .i64 c, .int .i64 d, .string e, .int .i64 f, .bool g]) (.agg #[.int .i64 a', .string b', .int .i64 c', .int .i64 d', .string e', .int .i64 f', .bool g'])).run Try.prog w = .ok (.bool (!eqG a b c d e f g a' b' c' d' e' f' g')) w := by
  unfold eqG
  go_simp
  by_cases h1 : a = a' <;> by_cases h2 : b.toList = b'.toList <;> by_cases h3 : c = c' <;> by_cases h4 : d = d' <;> by_cases h5 : e.toList = e'.toList <;> by_cases h6 : f = f' <;> by_cases h7 : g = g' <;> simp [h1, h2, h3, h4, h5, h6, h7]
theorem eqG_refl (x : G) : eqG x.id x.file x.mode x.pos x.alias_ x.eof x.past x.id x.file x.mode x.pos x.alias_ x.eof x.past = true := by simp [eqG]
theorem eqF_refl (x : F) : (eqS x.name x.name && eqS x.text x.text) = true := by simp

set_option maxRecDepth 20000 in
set_option maxHeartbeats 2000000 in
theorem same35_any (va vb : Value) (s : Sm) (w : World) (ha : SmAt w w.heap.size va s) (hb : SmAt w w.heap.size vb s) :
    Calls Try.prog 35 #[va, vb] w fun e w' => e = .returned (.bool true) ∧ Below w.heap.size w w' := by
  obtain ⟨A0, c0, A1, c1, rfl, -, h0, h1⟩ := ha
  obtain ⟨B0, d0, B1, d1, rfl, -, g0, g1⟩ := hb
  have hfl := h0.1.2
  have hol := h1.1.2
  have he := f_neq
  have hg := g_neq
  have HA := Lib.hid h0
  have HO := Lib.hid h1
  have HC := Lib.hid g0
  have HP := Lib.hid g1
  have HW := Lib.hid (((bAlloc w (.cells #[.slice A0 s.files.length c0, .slice A1 s.opn.length c1, .int .i64 s.inp, .int .i64 s.out, .int .i64 s.nxt] 25)).alloc (by simp) (.cells #[.slice B0 s.files.length d0, .slice B1 s.opn.length d1, .int .i64 s.inp, .int .i64 s.out, .int .i64 s.nxt] 25)))
  clear h0 h1 g0 g1
  go_enter Try.func35, Try.ntmps35
  go_wp2_with fail
  go_loopw [5] (fun i wr => ∃ k q : Nat, k ≤ s.files.length ∧ i = .int .i64 k ∧ wr = ((w.alloc (.cells #[.slice A0 s.files.length c0, .slice A1 s.opn.length c1, .int .i64 s.inp, .int .i64 s.out, .int .i64 s.nxt] 25)).alloc (.cells #[.slice B0 s.files.length d0, .slice B1 s.opn.length d1, .int .i64 s.inp, .int .i64 s.out, .int .i64 s.nxt] 25)).drewN q) (fun i _ => s.files.length - (intOf i).toNat)
  case atStart => exact ⟨0, 0, by omega, rfl, rfl⟩
  case round =>
    obtain ⟨k, q, hk, rfl, rfl⟩ := hrel
    by_cases hlt : k < s.files.length
    · obtain ⟨b, off, x, rfl, hb, hx, q0, q1⟩ := HA.out.at hlt
      obtain ⟨b', off', y, rfl, hb', hy, r0, r1⟩ := HC.out.at hlt
      rw [hx] at hy
      injection hy with hy
      subst hy
      have hef := eqF_refl x
      have hlti : (k : Int) < (s.files.length : Int) := by omega
      clear hx
      go_wp2_with fail
      go_quiet (fail)
      go_wp2_with fail
      exact ⟨⟨k + 1, _, by omega, by go_num, rfl⟩, by simp [intOf]; omega⟩
    · go_wp2_with fail
      go_loopw [6] (fun i wr => ∃ k q : Nat, k ≤ s.opn.length ∧ i = .int .i64 k ∧ wr = ((w.alloc (.cells #[.slice A0 s.files.length c0, .slice A1 s.opn.length c1, .int .i64 s.inp, .int .i64 s.out, .int .i64 s.nxt] 25)).alloc (.cells #[.slice B0 s.files.length d0, .slice B1 s.opn.length d1, .int .i64 s.inp, .int .i64 s.out, .int .i64 s.nxt] 25)).drewN q) (fun i _ => s.opn.length - (intOf i).toNat)
      case atStart => exact ⟨0, q, by omega, rfl, rfl⟩
      case round =>
        obtain ⟨j, q', hj, rfl, rfl⟩ := hrel
        by_cases hlt2 : j < s.opn.length
        · obtain ⟨b, off, x, rfl, hb, hx, q0, q1, q2, q3, q4, q5, q6⟩ := HO.out.at hlt2
          obtain ⟨b', off', y, rfl, hb', hy, r0, r1, r2, r3, r4, r5, r6⟩ := HP.out.at hlt2
          rw [hx] at hy
          injection hy with hy
          subst hy
          have hef := eqG_refl x
          have hlti : (j : Int) < (s.opn.length : Int) := by omega
          clear hx
          go_wp2_with fail
          go_quiet (fail)
          go_wp2_with fail
          exact ⟨⟨j + 1, _, by omega, by go_num, rfl⟩, by simp [intOf]; omega⟩
        · go_wp2_with fail
          go_ret
          exact ⟨rfl, bDrewN HW.out _⟩

theorem same12_any (va vb : Value) (s : Sm) (w : World) (ha : SmAt w w.heap.size va s) (hb : SmAt w w.heap.size vb s) :
    Calls Try.prog 12 #[va, vb] w fun e w' => e = .returned (.bool true) ∧ Below w.heap.size w w' := by
  have HA := Lib.hid ha
  have HB := Lib.hid hb
  obtain ⟨A0, c0, A1, c1, rfl, -, -, -⟩ := ha
  obtain ⟨B0, d0, B1, d1, rfl, -, -, -⟩ := hb
  have hw := ((bAlloc w (.cells #[.slice A0 s.files.length c0, .slice A1 s.opn.length c1, .int .i64 s.inp, .int .i64 s.out, .int .i64 s.nxt] 25)).alloc (by simp) (.cells #[.slice B0 s.files.length d0, .slice B1 s.opn.length d1, .int .i64 s.inp, .int .i64 s.out, .int .i64 s.nxt] 25))
  have HW := Lib.hid hw
  clear hw
  go_enter Try.func12, Try.ntmps12
  go_wp2_with fail
  refine (same35_any _ _ s _ (HA.out.next HW.out) (HB.out.next HW.out)).mono ?_
  rintro e w1 ⟨rfl, hb1⟩
  have HB1 := Lib.hid (bNext HW.out hb1)
  clear hb1
  go_wp2_with fail
  go_ret
  exact ⟨rfl, HB1.out⟩
end Go.Proofs.Ytklpghpfdeojeaa
