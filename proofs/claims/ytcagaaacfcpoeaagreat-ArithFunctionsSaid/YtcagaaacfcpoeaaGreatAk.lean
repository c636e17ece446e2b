/-
  The walks of exact, unary and binary: the tables of functions.
-/
import Derived.Test.YtcagaaacfcpoeaaGreatMs
import Derived.Laws.EntriesVeiled
namespace Go.Proofs.YtcagaaacfcpoeaaGreat
open Go.RowKit
/-- cell 0 of block b holds function f, and nobody writes it -/
def BoxF (w : World) (b f : Nat) : Prop := w.heap[b]? = some (.cells #[.func (.func f) #[] #[]] 63 (0, 0))
theorem BoxF.lt {w : World} {b f : Nat} (h : BoxF w b f) : b < w.heap.size := (Array.getElem?_eq_some_iff.1 h).1
theorem BoxF.cell {w : World} {b f : Nat} (h : BoxF w b f) : w.cell? ⟨b, 0, none⟩ = some (.func (.func f) #[] #[]) := by
  unfold BoxF at h
  simp [World.cell?, h]
theorem BoxF.below {w w' : World} {B b f : Nat} (h : BoxF w b f) (hb : Below B w w') (hB : b < B) : BoxF w' b f := by
  unfold BoxF at *
  rw [hb.block b hB]; exact h
theorem BoxF.grown {w w' : World} {g b f : Nat} (h : BoxF w b f) (hb : w.grownBy w' (some g)) (hm : g ≠ b) : BoxF w' b f := by
  have hl := h.lt
  unfold BoxF at *
  rw [hb.block b hl (fun e => hm (by injection e with e; exact e.symm))]; exact h
def exF (b : Nat) : Value := .agg #[.func (.func 122) #[] #[.pointer (some ⟨b, 0, none⟩)]]
theorem exact_any (f : Nat) (w : World) : Calls Tryz.prog 101 #[.func (.func f) #[] #[]] w fun e w' => e = .returned (exF w.heap.size) ∧ BoxF w' w.heap.size f ∧ Below w.heap.size w w' := by
  go_enter Tryz.func101, Tryz.ntmps101
  go_wp2
  refine bodyPost_ret (v := exF w.heap.size) (by simp [results, Tryz.results101, go_sem, exF]) rfl ⟨rfl, ?_, ((Below.refl _ _).alloc (Nat.le_refl _) _).alloc (by simp) _⟩
  unfold BoxF
  rw [Below.heap_alloc _ _ _ (by simp)]
  exact heap_alloc_new _ _
/-- a table under way -/
structure TabSt (W : World) (g : Nat) (l : List (ByteArray × Value)) (bs : List (Nat × Nat)) (w : World) : Prop where
  map : MapS w g l
  box : ∀ p ∈ bs, BoxF w p.1 p.2 ∧ g ≠ p.1
  below : Below W.heap.size W w
  gle : W.heap.size ≤ g
theorem TabSt.new (w : World) : TabSt w w.heap.size [] [] (w.alloc (.map #[] 0)) :=
  ⟨MapS.new w, fun _ h => (by cases h), (Below.refl _ _).alloc (Nat.le_refl _) _, Nat.le_refl _⟩
theorem TabSt.ins {W w : World} {g : Nat} {l : List (ByteArray × Value)} {bs : List (Nat × Nat)} (h : TabSt W g l bs w) (x : ByteArray) (v : Value) (hn : lookS l x = none) :
    ∃ w', (Instr.mapUpdate 83 (.map (some g)) (.string x) v).run Tryz.prog w = .ok () w' ∧ TabSt W g (l ++ [(x, v)]) bs w' := by
  obtain ⟨w', h1, h2, h3, _⟩ := run_update h.map x v hn
  exact ⟨w', h1, h2, fun p hp => ⟨(h.box p hp).1.grown h3 (h.box p hp).2, (h.box p hp).2⟩, h.below.grown h3 h.below.size (fun k e => by injection e with e; rw [← e]; exact h.gle), h.gle⟩
theorem TabSt.ex {W w w' : World} {g : Nat} {l : List (ByteArray × Value)} {bs : List (Nat × Nat)} (h : TabSt W g l bs w) {f : Nat} (hb : BoxF w' w.heap.size f) (hl : Below w.heap.size w w') :
    TabSt W g l (bs ++ [(w.heap.size, f)]) w' := by
  have hg := h.map.lt
  refine ⟨h.map.stay (hl.block g hg), fun p hp => ?_, h.below.trans (hl.mono h.below.size), h.gle⟩
  rcases List.mem_append.1 hp with hp | hp
  · exact ⟨(h.box p hp).1.below hl (h.box p hp).1.lt, (h.box p hp).2⟩
  · rw [List.mem_singleton] at hp
    subst hp
    exact ⟨hb, by show g ≠ w.heap.size; omega⟩
theorem eqS_data (x y : ByteArray) : eqS x y = decide (x.data.toList = y.data.toList) := by
  unfold eqS; simp only [ByteArray.toList_eq]
def unaryT (b1 b2 b3 : Nat) : List (ByteArray × Value) := [(⟨#[45]⟩, .agg #[.func (.func 99) #[] #[]]), (⟨#[43]⟩, exF b1), (⟨#[97, 98, 115]⟩, .agg #[.func (.func 103) #[] #[]]), (⟨#[115, 105, 103, 110]⟩, exF b2), (⟨#[92]⟩, exF b3)]
def unaryAt (w : World) (g : Nat) : Prop := ∃ b1 b2 b3, MapS w g (unaryT b1 b2 b3) ∧ BoxF w b1 102 ∧ BoxF w b2 104 ∧ BoxF w b3 105
set_option maxHeartbeats 1000000 in
theorem unary_any (w : World) : Calls Tryz.prog 93 #[] w fun e w' => (∃ g, e = .returned (.map (some g)) ∧ unaryAt w' g ∧ w.heap.size ≤ g) ∧ Below w.heap.size w w' := by
  have hmm := @run_makeMap Tryz.prog
  have st0 := TabSt.new w
  obtain ⟨w1, hu1, st1⟩ := st0.ins ⟨#[45]⟩ (.agg #[.func (.func 99) #[] #[]]) rfl
  have HS := Lib.hid st1
  clear st0 st1
  go_enter Tryz.func93, Tryz.ntmps93
  go_wp2_with fail
  refine (exact_any 102 _).mono ?_
  rintro e v1 ⟨rfl, hb, hl⟩
  have st1 := HS.out.ex hb hl
  clear HS hb hl hu1
  obtain ⟨w2, hu2, st2⟩ := st1.ins ⟨#[43]⟩ (exF w1.heap.size) (by simp [lookS, eqS_data])
  obtain ⟨w3, hu3, st3⟩ := st2.ins ⟨#[97, 98, 115]⟩ (.agg #[.func (.func 103) #[] #[]]) (by simp [lookS, eqS_data])
  have HS := Lib.hid st3
  clear st1 st2 st3
  go_wp2_with fail
  refine (exact_any 104 _).mono ?_
  rintro e v3 ⟨rfl, hb, hl⟩
  have st3 := HS.out.ex hb hl
  clear HS hb hl hu2 hu3
  obtain ⟨w4, hu4, st4⟩ := st3.ins ⟨#[115, 105, 103, 110]⟩ (exF w3.heap.size) (by simp [lookS, eqS_data])
  have HS := Lib.hid st4
  clear st3 st4
  go_wp2_with fail
  refine (exact_any 105 _).mono ?_
  rintro e v4 ⟨rfl, hb, hl⟩
  have st4 := HS.out.ex hb hl
  clear HS hb hl hu4
  obtain ⟨w5, hu5, st5⟩ := st4.ins ⟨#[92]⟩ (exF w4.heap.size) (by simp [lookS, eqS_data])
  have HS := Lib.hid st5
  clear st4 st5
  go_wp2_with fail
  go_ret
  have st := HS.out
  refine ⟨⟨w.heap.size, rfl, ⟨w1.heap.size, w3.heap.size, w4.heap.size, st.map, (st.box (w1.heap.size, 102) (by simp)).1, (st.box (w3.heap.size, 104) (by simp)).1, (st.box (w4.heap.size, 105) (by simp)).1⟩, Nat.le_refl _⟩, st.below⟩
def binaryT (b1 b2 b3 b4 b5 : Nat) : List (ByteArray × Value) := [(⟨#[43]⟩, .agg #[.func (.func 106) #[] #[]]), (⟨#[45]⟩, .agg #[.func (.func 100) #[] #[]]), (⟨#[42]⟩, .agg #[.func (.func 107) #[] #[]]), (⟨#[47, 47]⟩, .agg #[.func (.func 108) #[] #[]]), (⟨#[114, 101, 109]⟩, .agg #[.func (.func 109) #[] #[]]), (⟨#[100, 105, 118]⟩, .agg #[.func (.func 110) #[] #[]]), (⟨#[109, 111, 100]⟩, .agg #[.func (.func 111) #[] #[]]), (⟨#[109, 105, 110]⟩, exF b1), (⟨#[109, 97, 120]⟩, exF b2), (⟨#[62, 62]⟩, .agg #[.func (.func 114) #[] #[]]), (⟨#[60, 60]⟩, .agg #[.func (.func 115) #[] #[]]), (⟨#[47, 92]⟩, exF b3), (⟨#[92, 47]⟩, exF b4), (⟨#[120, 111, 114]⟩, exF b5), (⟨#[94]⟩, .agg #[.func (.func 119) #[] #[]]), (⟨#[103, 99, 100]⟩, .agg #[.func (.func 120) #[] #[]])]
def binaryAt (w : World) (g : Nat) : Prop := ∃ b1 b2 b3 b4 b5, MapS w g (binaryT b1 b2 b3 b4 b5) ∧ BoxF w b1 112 ∧ BoxF w b2 113 ∧ BoxF w b3 116 ∧ BoxF w b4 117 ∧ BoxF w b5 118
set_option maxHeartbeats 1000000 in
theorem binary_any (w : World) : Calls Tryz.prog 94 #[] w fun e w' => (∃ g, e = .returned (.map (some g)) ∧ binaryAt w' g ∧ w.heap.size ≤ g) ∧ Below w.heap.size w w' := by
  have hmm := @run_makeMap Tryz.prog
  have st0 := TabSt.new w
  obtain ⟨w1, hu1, st1⟩ := st0.ins ⟨#[43]⟩ (.agg #[.func (.func 106) #[] #[]]) rfl
  obtain ⟨w2, hu2, st2⟩ := st1.ins ⟨#[45]⟩ (.agg #[.func (.func 100) #[] #[]]) (by simp [lookS, eqS_data])
  obtain ⟨w3, hu3, st3⟩ := st2.ins ⟨#[42]⟩ (.agg #[.func (.func 107) #[] #[]]) (by simp [lookS, eqS_data])
  obtain ⟨w4, hu4, st4⟩ := st3.ins ⟨#[47, 47]⟩ (.agg #[.func (.func 108) #[] #[]]) (by simp [lookS, eqS_data])
  obtain ⟨w5, hu5, st5⟩ := st4.ins ⟨#[114, 101, 109]⟩ (.agg #[.func (.func 109) #[] #[]]) (by simp [lookS, eqS_data])
  obtain ⟨w6, hu6, st6⟩ := st5.ins ⟨#[100, 105, 118]⟩ (.agg #[.func (.func 110) #[] #[]]) (by simp [lookS, eqS_data])
  obtain ⟨w7, hu7, st7⟩ := st6.ins ⟨#[109, 111, 100]⟩ (.agg #[.func (.func 111) #[] #[]]) (by simp [lookS, eqS_data])
  have HS := Lib.hid st7
  clear st0 st1 st2 st3 st4 st5 st6 st7
  go_enter Tryz.func94, Tryz.ntmps94
  go_wp2_with fail
  refine (exact_any 112 _).mono ?_
  rintro e v7 ⟨rfl, hb, hl⟩
  have st7 := HS.out.ex hb hl
  clear HS hb hl hu1 hu2 hu3 hu4 hu5 hu6 hu7
  obtain ⟨w8, hu8, st8⟩ := st7.ins ⟨#[109, 105, 110]⟩ (exF w7.heap.size) (by simp [lookS, eqS_data])
  have HS := Lib.hid st8
  clear st7 st8
  go_wp2_with fail
  refine (exact_any 113 _).mono ?_
  rintro e v8 ⟨rfl, hb, hl⟩
  have st8 := HS.out.ex hb hl
  clear HS hb hl hu8
  obtain ⟨w9, hu9, st9⟩ := st8.ins ⟨#[109, 97, 120]⟩ (exF w8.heap.size) (by simp [lookS, eqS_data])
  obtain ⟨w10, hu10, st10⟩ := st9.ins ⟨#[62, 62]⟩ (.agg #[.func (.func 114) #[] #[]]) (by simp [lookS, eqS_data])
  obtain ⟨w11, hu11, st11⟩ := st10.ins ⟨#[60, 60]⟩ (.agg #[.func (.func 115) #[] #[]]) (by simp [lookS, eqS_data])
  have HS := Lib.hid st11
  clear st8 st9 st10 st11
  go_wp2_with fail
  refine (exact_any 116 _).mono ?_
  rintro e v11 ⟨rfl, hb, hl⟩
  have st11 := HS.out.ex hb hl
  clear HS hb hl hu9 hu10 hu11
  obtain ⟨w12, hu12, st12⟩ := st11.ins ⟨#[47, 92]⟩ (exF w11.heap.size) (by simp [lookS, eqS_data])
  have HS := Lib.hid st12
  clear st11 st12
  go_wp2_with fail
  refine (exact_any 117 _).mono ?_
  rintro e v12 ⟨rfl, hb, hl⟩
  have st12 := HS.out.ex hb hl
  clear HS hb hl hu12
  obtain ⟨w13, hu13, st13⟩ := st12.ins ⟨#[92, 47]⟩ (exF w12.heap.size) (by simp [lookS, eqS_data])
  have HS := Lib.hid st13
  clear st12 st13
  go_wp2_with fail
  refine (exact_any 118 _).mono ?_
  rintro e v13 ⟨rfl, hb, hl⟩
  have st13 := HS.out.ex hb hl
  clear HS hb hl hu13
  obtain ⟨w14, hu14, st14⟩ := st13.ins ⟨#[120, 111, 114]⟩ (exF w13.heap.size) (by simp [lookS, eqS_data])
  obtain ⟨w15, hu15, st15⟩ := st14.ins ⟨#[94]⟩ (.agg #[.func (.func 119) #[] #[]]) (by simp [lookS, eqS_data])
  obtain ⟨w16, hu16, st16⟩ := st15.ins ⟨#[103, 99, 100]⟩ (.agg #[.func (.func 120) #[] #[]]) (by simp [lookS, eqS_data])
  have HS := Lib.hid st16
  clear st13 st14 st15 st16
  go_wp2_with fail
  go_ret
  have st := HS.out
  refine ⟨⟨w.heap.size, rfl, ⟨w7.heap.size, w8.heap.size, w11.heap.size, w12.heap.size, w13.heap.size, st.map, (st.box (w7.heap.size, 112) (by simp)).1, (st.box (w8.heap.size, 113) (by simp)).1, (st.box (w11.heap.size, 116) (by simp)).1, (st.box (w12.heap.size, 117) (by simp)).1, (st.box (w13.heap.size, 118) (by simp)).1⟩, Nat.le_refl _⟩, st.below⟩
end Go.Proofs.YtcagaaacfcpoeaaGreat
