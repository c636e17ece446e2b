/-
  Walks: the comparisons by their names; Has.
-/
import Derived.Test.YtcagaaacfcpoeaaGreatCo
namespace Go.Proofs.YtcagaaacfcpoeaaGreat
open Go.RowKit

theorem run_zero56 (w : World) : (zeroValue 52).run Tryz.prog w = .ok .nilFunc w := by kernel_rfl
theorem run_look57 {w : World} {g : Nat} {l : List (ByteArray × Value)} (h : MapS w g l) (x : ByteArray) :
    (Instr.lookup 53 (.map (some g)) (.string x) true).run Tryz.prog w = .ok (.tuple #[((lookS l x).map (·.2)).getD .nilFunc, .bool (lookS l x).isSome]) w := by
  obtain ⟨es, c, h1, h2⟩ := h
  have hf := run_key h2 x w
  have hz := run_zero56 w
  cases hr : lookS l x with
  | none =>
    rw [hr] at hf
    simp [Instr.lookup, run_underlying Tryz.underlying53, MapKept.run_getObj_map h1, run_checkKey, hf, Result.andThen]
  | some r =>
    rw [hr] at hf
    simp [Instr.lookup, run_underlying Tryz.underlying53, MapKept.run_getObj_map h1, run_checkKey, hf, Result.andThen]
theorem run_look57f {w : World} {g : Nat} {l : List (ByteArray × Value)} (h : MapS w g l) (x : ByteArray) :
    (Instr.lookup 53 (.map (some g)) (.string x) false).run Tryz.prog w = .ok (((lookS l x).map (·.2)).getD .nilFunc) w := by
  obtain ⟨es, c, h1, h2⟩ := h
  have hf := run_key h2 x w
  have hz := run_zero56 w
  cases hr : lookS l x with
  | none =>
    rw [hr] at hf
    simp [Instr.lookup, run_underlying Tryz.underlying53, MapKept.run_getObj_map h1, run_checkKey, hf, Result.andThen]
  | some r =>
    rw [hr] at hf
    simp [Instr.lookup, run_underlying Tryz.underlying53, MapKept.run_getObj_map h1, run_checkKey, hf, Result.andThen]
theorem run_update57 {w : World} {g : Nat} {l : List (ByteArray × Value)} (h : MapS w g l) (x : ByteArray) (v : Value) (hn : lookS l x = none) :
    ∃ w', (Instr.mapUpdate 53 (.map (some g)) (.string x) v).run Tryz.prog w = .ok () w' ∧ MapS w' g (l ++ [(x, v)]) ∧ w.grownBy w' (some g) ∧ w'.heap.size = w.heap.size := by
  obtain ⟨es, c, h1, h2⟩ := h
  have hf := run_key h2 x w
  rw [hn] at hf
  have hg := (Array.getElem?_eq_some_iff.1 h1).1
  refine ⟨{ w with heap := w.heap.setIfInBounds g (.map (es.push { key := .string x, val := v, born := c }) (c + 1)) }, ?_, ?_, ?_, by simp⟩
  · simp [Instr.mapUpdate, run_underlying Tryz.underlying53, MapKept.run_getObj_map h1, run_checkKey, hf, MapKept.run_setObj_map _ h1, Result.andThen]
  · refine ⟨es.push { key := .string x, val := v, born := c }, c + 1, by simp [hg], ?_⟩
    simp [h2]
  · exact ⟨rfl, rfl, rfl, by simp, fun k _ hk => by simp [Array.getElem?_setIfInBounds]; intro e; exact absurd (by rw [e]) hk⟩
theorem TabSt.ins57 {W w : World} {g : Nat} {l : List (ByteArray × Value)} {bs : List (Nat × Nat)} (h : TabSt W g l bs w) (x : ByteArray) (v : Value) (hn : lookS l x = none) :
    ∃ w', (Instr.mapUpdate 53 (.map (some g)) (.string x) v).run Tryz.prog w = .ok () w' ∧ TabSt W g (l ++ [(x, v)]) bs w' := by
  obtain ⟨w', h1, h2, h3, _⟩ := run_update57 h.map x v hn
  exact ⟨w', h1, h2, fun p hp => ⟨(h.box p hp).1.grown h3 (h.box p hp).2, (h.box p hp).2⟩, h.below.grown h3 h.below.size (fun k e => by injection e with e; rw [← e]; exact h.gle), h.gle⟩
@[reducible] def fnv (f : Nat) : Value := .func (.func f) #[] #[]
def cmpT : List (ByteArray × Value) := [(⟨#[61, 58, 61]⟩, fnv 79), (⟨#[61, 92, 61]⟩, fnv 80), (⟨#[60]⟩, fnv 81), (⟨#[62]⟩, fnv 82), (⟨#[61, 60]⟩, fnv 83), (⟨#[62, 61]⟩, fnv 84)]
theorem comp39_any (w : World) : Calls Tryz.prog 36 #[] w fun e w' => (∃ g, e = .returned (.map (some g)) ∧ MapS w' g cmpT ∧ w.heap.size ≤ g) ∧ Below w.heap.size w w' := by
  have hmm := @run_makeMap Tryz.prog
  have st0 := TabSt.new w
  obtain ⟨w1, hu1, st1⟩ := st0.ins57 ⟨#[61, 58, 61]⟩ (fnv 79) rfl
  obtain ⟨w2, hu2, st2⟩ := st1.ins57 ⟨#[61, 92, 61]⟩ (fnv 80) (by simp [lookS, eqS_data])
  obtain ⟨w3, hu3, st3⟩ := st2.ins57 ⟨#[60]⟩ (fnv 81) (by simp [lookS, eqS_data])
  obtain ⟨w4, hu4, st4⟩ := st3.ins57 ⟨#[62]⟩ (fnv 82) (by simp [lookS, eqS_data])
  obtain ⟨w5, hu5, st5⟩ := st4.ins57 ⟨#[61, 60]⟩ (fnv 83) (by simp [lookS, eqS_data])
  obtain ⟨w6, hu6, st6⟩ := st5.ins57 ⟨#[62, 61]⟩ (fnv 84) (by simp [lookS, eqS_data])
  have HS := Lib.hid st6
  clear st0 st1 st2 st3 st4 st5 st6
  go_enter Tryz.func36, Tryz.ntmps36
  go_wp2_with fail
  go_ret
  have st := HS.out
  exact ⟨⟨w.heap.size, rfl, st.map, Nat.le_refl _⟩, st.below⟩
theorem cmp63_any (a b : Int) (w : World) : Calls Tryz.prog 79 #[.int .i64 a, .int .i64 b] w fun e w' => e = .returned (.bool (decide (a = b))) ∧ Below w.heap.size w w' := by
  go_enter Tryz.func79, Tryz.ntmps79
  go_wp2_with fail
  all_goals
    go_ret
    refine ⟨iret_bool ?_, ?_⟩
    · first | rfl | (rw [Bool.eq_iff_iff]; simp)
    · exact Below.refl _ _
theorem cmp64_any (a b : Int) (w : World) : Calls Tryz.prog 80 #[.int .i64 a, .int .i64 b] w fun e w' => e = .returned (.bool (decide (a ≠ b))) ∧ Below w.heap.size w w' := by
  go_enter Tryz.func80, Tryz.ntmps80
  go_wp2_with fail
  all_goals
    go_ret
    refine ⟨iret_bool ?_, ?_⟩
    · first | rfl | (rw [Bool.eq_iff_iff]; simp)
    · exact Below.refl _ _
theorem cmp65_any (a b : Int) (w : World) : Calls Tryz.prog 81 #[.int .i64 a, .int .i64 b] w fun e w' => e = .returned (.bool (decide (a < b))) ∧ Below w.heap.size w w' := by
  go_enter Tryz.func81, Tryz.ntmps81
  go_wp2_with fail
  all_goals
    go_ret
    refine ⟨iret_bool ?_, ?_⟩
    · first | rfl | (rw [Bool.eq_iff_iff]; simp)
    · exact Below.refl _ _
theorem cmp66_any (a b : Int) (w : World) : Calls Tryz.prog 82 #[.int .i64 a, .int .i64 b] w fun e w' => e = .returned (.bool (decide (b < a))) ∧ Below w.heap.size w w' := by
  go_enter Tryz.func82, Tryz.ntmps82
  go_wp2_with fail
  all_goals
    go_ret
    refine ⟨iret_bool ?_, ?_⟩
    · first | rfl | (rw [Bool.eq_iff_iff]; simp)
    · exact Below.refl _ _
theorem cmp67_any (a b : Int) (w : World) : Calls Tryz.prog 83 #[.int .i64 a, .int .i64 b] w fun e w' => e = .returned (.bool (decide (a ≤ b))) ∧ Below w.heap.size w w' := by
  go_enter Tryz.func83, Tryz.ntmps83
  go_wp2_with fail
  all_goals
    go_ret
    refine ⟨iret_bool ?_, ?_⟩
    · first | rfl | (rw [Bool.eq_iff_iff]; simp)
    · exact Below.refl _ _
theorem cmp68_any (a b : Int) (w : World) : Calls Tryz.prog 84 #[.int .i64 a, .int .i64 b] w fun e w' => e = .returned (.bool (decide (b ≤ a))) ∧ Below w.heap.size w w' := by
  go_enter Tryz.func84, Tryz.ntmps84
  go_wp2_with fail
  all_goals
    go_ret
    refine ⟨iret_bool ?_, ?_⟩
    · first | rfl | (rw [Bool.eq_iff_iff]; simp)
    · exact Below.refl _ _
theorem eqS_is (x : ByteArray) : eqS x ⟨#[105, 115]⟩ = (x.toList == [105, 115]) := by
  rw [eqS_data, ByteArray.toList_eq, Bool.eq_iff_iff]
  simp
def hasS (x : ByteArray) (ar : Int) : Bool := decide (ar = 2) && ((lookS cmpT x).isSome || eqS x ⟨#[105, 115]⟩)
theorem has34_any (x : ByteArray) (ar : Int) (w : World) : Calls Tryz.prog 12 #[.string x, .int .i64 ar] w fun e w' => e = .returned (.bool (hasS x ar)) ∧ Below w.heap.size w w' := by
  go_enter Tryz.func12, Tryz.ntmps12
  go_wp2_with fail
  refine (comp39_any _).mono ?_
  rintro e w1 ⟨⟨g, rfl, hm, hg⟩, hl⟩
  have hk := run_look57 hm x
  have HE := Lib.hid (show hasS x ar = (decide (ar = 2) && ((lookS cmpT x).isSome || eqS x ⟨#[105, 115]⟩)) from rfl)
  have HL := Lib.hid hl
  clear hm hl
  generalize ((lookS cmpT x).map (·.2)).getD .nilFunc = v at hk
  generalize (lookS cmpT x).isSome = o at hk HE
  go_wp2_with fail
  all_goals
    go_ret
    refine ⟨iret_bool ?_, HL.out⟩
    rw [HE.out]
    simp [*, eqS_is]
/-- a comparison -/
def cmpB (x : ByteArray) (a b : Int) : Bool := if eqS x ⟨#[61, 58, 61]⟩ then decide (a = b) else if eqS x ⟨#[61, 92, 61]⟩ then decide (a ≠ b) else if eqS x ⟨#[60]⟩ then decide (a < b) else if eqS x ⟨#[62]⟩ then decide (b < a) else if eqS x ⟨#[61, 60]⟩ then decide (a ≤ b) else decide (b ≤ a)
theorem cmp_fn {x : ByteArray} (h : (lookS cmpT x).isSome = true) : ∃ f, ((lookS cmpT x).map (·.2)).getD .nilFunc = fnv f ∧ ∀ (a b : Int) (w : World), Calls Tryz.prog f #[.int .i64 a, .int .i64 b] w fun e w' => e = .returned (.bool (cmpB x a b)) ∧ Below w.heap.size w w' := by
  by_cases h0 : x = ⟨#[61, 58, 61]⟩
  · subst h0; exact ⟨79, by simp [lookS, cmpT, eqS_data], fun a b w => by simpa [cmpB, eqS_data] using cmp63_any a b w⟩
  by_cases h1 : x = ⟨#[61, 92, 61]⟩
  · subst h1; exact ⟨80, by simp [lookS, cmpT, eqS_data], fun a b w => by simpa [cmpB, eqS_data] using cmp64_any a b w⟩
  by_cases h2 : x = ⟨#[60]⟩
  · subst h2; exact ⟨81, by simp [lookS, cmpT, eqS_data], fun a b w => by simpa [cmpB, eqS_data] using cmp65_any a b w⟩
  by_cases h3 : x = ⟨#[62]⟩
  · subst h3; exact ⟨82, by simp [lookS, cmpT, eqS_data], fun a b w => by simpa [cmpB, eqS_data] using cmp66_any a b w⟩
  by_cases h4 : x = ⟨#[61, 60]⟩
  · subst h4; exact ⟨83, by simp [lookS, cmpT, eqS_data], fun a b w => by simpa [cmpB, eqS_data] using cmp67_any a b w⟩
  by_cases h5 : x = ⟨#[62, 61]⟩
  · subst h5; exact ⟨84, by simp [lookS, cmpT, eqS_data], fun a b w => by simpa [cmpB, eqS_data] using cmp68_any a b w⟩
  · simp [lookS, cmpT, eqS_ne h0, eqS_ne h1, eqS_ne h2, eqS_ne h3, eqS_ne h4, eqS_ne h5] at h
end Go.Proofs.YtcagaaacfcpoeaaGreat
